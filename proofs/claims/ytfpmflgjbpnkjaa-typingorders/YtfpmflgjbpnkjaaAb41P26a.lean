/-
  The statements of chapter 44 on the evaluator: other orders of the schemas, the function in pieces.
-/
import Derived.Test.YtfpmflgjbpnkjaaAb41P26
set_option linter.unusedVariables false
set_option linter.unusedSimpArgs false
namespace Go.Ab.Pl
open Go.Ab.Pol
set_option maxRecDepth 100000
set_option maxHeartbeats 4000000
def p12_0 : CC := (.reg [(.mk (some 3) none (.m (.box 26 8 (.t 0)))), (.mk (some 6) none (.p (.mv (.c (.bool false)))))])
def p12_1 : CC := (.seq (.reg [(.mk (some 9) none (.m (.load true 8 (.t 3)))), (.mk (some 10) none (.p (.mv (.t 1)))), (.mk (some 11) none (.m (.call (.c (.fn (.func 36) [] [])) [(.t 9), (.t 10)]))), (.mk (some 12) none (.p (.not (.t 11)))), (.mk (some 13) none (.p (.mv (.t 12)))), (.mk (some 14) (some (13, false)) (.p (.mv (.t 1)))), (.mk (some 15) (some (13, false)) (.p (.len true (.t 14)))), (.mk (some 16) (some (13, false)) (.p (.bin .eql (.t 15) (.c (.int .i64 (0 : Int)))))), (.mk (some 17) none (.p (.pick (.t 13) (.c (.bool true)) (.t 16)))), (.mk (some 18) none (.p (.mv (.t 17)))), (.mk (some 19) (some (18, false)) (.m (.load true 8 (.t 3)))), (.mk (some 20) (some (18, false)) (.p (.mv (.t 1)))), (.mk (some 21) (some (18, false)) (.m (.call (.c (.fn (.func 43) [] [])) [(.t 19), (.t 20)]))), (.mk (some 22) (some (18, false)) (.p (.not (.t 21)))), (.mk (some 23) none (.p (.pick (.t 18) (.c (.bool true)) (.t 22))))]) (.cond (.t 23) (.seq (.reg [(.mk (some 24) none (.m (.call (.c (.fn (.func 37) [] [])) []))), (.mk (some 6) none (.p (.mv (.t 24))))]) .ret) .skip))
def p12_2 : CC := (.reg [(.mk (some 25) none (.p (.mv (.t 2)))), (.mk (some 26) none (.p (.cvI .i64 (.t 25)))), (.mk (some 27) none (.p (.mv (.t 1)))), (.mk (some 28) none (.p (.len true (.t 27)))), (.mk (some 29) none (.p (.bin .rem (.t 26) (.t 28)))), (.mk (some 7) none (.p (.mv (.t 29))))])
def p12_3 : CC := (.draw [(.mk (.mk (some 31) none (.p (.mv (.t 1)))) 1 [1] [] []), (.mk (.mk (some 32) none (.p (.mv (.t 7)))) 2 [7] [] []), (.mk (.mk (some 33) none (.m (.slL 2 (.t 31) (some (.t 32)) none none))) 3 [31, 32] [] []), (.mk (.mk (some 35) none (.p (.mv (.t 1)))) 5 [1] [] []), (.mk (.mk (some 36) none (.p (.mv (.t 7)))) 6 [7] [] []), (.mk (.mk (some 37) none (.m (.slL 2 (.t 35) none (some (.t 36)) none))) 7 [35, 36] [] []), (.mk (.mk (some 30) none (.m (.bldS 67 2 0 (.agg [(.str []), .nils]) [] true))) 0 [] [] [3, 7]), (.mk (.mk (some 34) none (.m (.app 67 2 40 (.t 30) (.t 33)))) 4 [30, 33] [] [7]), (.mk (.mk (some 38) none (.m (.app 67 2 40 (.t 34) (.t 37)))) 8 [34, 37] [] []), (.mk (.mk (some 8) none (.p (.mv (.t 38)))) 9 [38] [] [])])
def p12_4 : CC := (.seq (.reg [(.mk (some 39) none (.p (.mv (.t 1)))), (.mk (some 40) none (.m (.call (.c (.fn (.func 44) [] [])) [(.t 39), (.c (.fn (.func 45) [] []))]))), (.mk (some 41) none (.p (.not (.t 40))))]) (.cond (.t 41) (.reg [(.mk (some 42) none (.p (.mv (.t 8)))), (.mk (some 43) none (.m (.bldS 9 1 1 (.str []) [(0, (.c (.str [113])))] false))), (.mk (some 44) none (.p (.bld [(.str []), (.int .i64 (0 : Int)), (.int .i64 (0 : Int)), (.int .i64 (0 : Int)), .nils] [(0, (1, (.c (.str [97, 103, 101])))), (1, (1, (.c (.int .i64 (1 : Int))))), (4, (1, (.t 43)))]))), (.mk (some 45) none (.m (.bldS 57 5 1 (.agg [(.str []), (.int .i64 (0 : Int)), (.int .i64 (0 : Int)), (.int .i64 (0 : Int)), .nils]) [(0, (.t 44))] false))), (.mk (some 46) none (.p (.bld [(.str []), .nils] [(0, (1, (.c (.str [111, 110, 101, 95, 109, 111, 114, 101])))), (1, (1, (.t 45)))]))), (.mk (some 47) none (.m (.bldS 67 2 1 (.agg [(.str []), .nils]) [(0, (.t 46))] false))), (.mk (some 48) none (.m (.app 67 2 40 (.t 42) (.t 47)))), (.mk (some 8) none (.p (.mv (.t 48))))]) .skip))
def p12_5 : CC := (.reg [(.mk (some 49) none (.m (.load true 8 (.t 3)))), (.mk (some 50) none (.p (.mv (.t 8)))), (.mk (some 51) none (.m (.call (.c (.fn (.func 43) [] [])) [(.t 49), (.t 50)]))), (.mk (some 52) none (.p (.mv (.t 51)))), (.mk (some 53) (some (52, true)) (.m (.call (.c (.fn (.func 37) [] [])) []))), (.mk (some 54) none (.p (.pick (.t 52) (.t 53) (.c (.bool false))))), (.mk (some 6) none (.p (.mv (.t 54))))])
def p12_6 : CC := .ret
theorem p12_body : c12.body = .code (.seq p12_0 (.seq p12_1 (.seq p12_2 (.seq p12_3 (.seq p12_4 (.seq p12_5 p12_6)))))) := rfl

theorem p12_3ok (p : Po) (l : List Sc) (n : Nat) (hn : n ≤ l.length) (hl : l.length ≤ 8)
    (env : Env) (e1 : get env 1 = .lst (l.map Sc.av)) (e3 : get env 3 = .ptr (0, 0) 0) (e7 : get env 7 = iV (n : Int)) :
    ∃ env', evC K (mu K) p12_3 ⟨env, [[.box 26 false p.av]]⟩ = some (.norm, ⟨env', [[.box 26 false p.av, .arr 67 2 false ((rot l n).map Sc.av)]]⟩) ∧
      get env' 1 = .lst (l.map Sc.av) ∧ get env' 3 = .ptr (0, 0) 0 ∧ get env' 8 = .own (0, 1) l.length := by
  have q1 := beqs_map Sc.av beq_sc (l.drop n)
  have q2 := beqs_map Sc.av beq_sc (l.take n)
  have t2 : (l.map Sc.av).drop n = (l.drop n).map Sc.av := by rw [List.map_drop]
  have t3 : (l.map Sc.av).take n = (l.take n).map Sc.av := by rw [List.map_take]
  have t1 : (n : Int) ≤ (l.length : Int) := by omega
  have t4 : (l.map Sc.av).take l.length = l.map Sc.av := List.take_of_length_le (by simp)
  have r1 : (l.length - n) * 40 ≤ room := by unfold room; omega
  have r2 : l.length - n ≤ room := by unfold room; omega
  have m1 : min n l.length = n := by omega
  have r3 : (l.length - n + n) * 40 ≤ room := by unfold room; omega
  have r4 : l.length - n + n ≤ room := by unfold room; omega
  have r5 : l.length * 40 ≤ room := by unfold room; omega
  have r6 : l.length ≤ room := by unfold room; omega
  simp [-List.map_take, -List.map_drop, rot, p12_3, e1, e3, e7, hn, t1, t2, t3, t4, r1, r2, m1, r3, r4, r5, r6, q1, q2]
theorem p12_4f (p : Po) (l : List Sc) (R : List Sc) (hR : R.length = l.length) (hl : l.length ≤ 8)
    (k44 : ∀ h, (mu K).fn 44 [.lst (l.map Sc.av), .fn (.func 45) [] []] h = some (.val (.bool false) h))
    (env : Env) (e1 : get env 1 = .lst (l.map Sc.av)) (e3 : get env 3 = .ptr (0, 0) 0) (e8 : get env 8 = .own (0, 1) l.length) :
    ∃ env', evC K (mu K) p12_4 ⟨env, [[.box 26 false p.av, .arr 67 2 false (R.map Sc.av)]]⟩ = some (.norm, ⟨env', [[.box 26 false p.av, .arr 67 2 false ((R ++ [oneMore]).map Sc.av)]]⟩) ∧
      get env' 3 = .ptr (0, 0) 0 ∧ get env' 8 = .own (0, 1) (l.length + 1) := by
  have q1 := beqs_map Sc.av beq_sc R
  have t4 : (R.map Sc.av).take l.length = R.map Sc.av := List.take_of_length_le (by simp; omega)
  have r5 : (l.length + 1) * 40 ≤ room := by unfold room; omega
  have r6 : l.length + 1 ≤ room := by unfold room; omega
  simp [p12_4, KL, lendF, e1, e3, e8, k44, hR, t4, r5, r6, q1, oneMore, Sl.avS]
theorem p12_4t (p : Po) (l : List Sc) (R : List Sc) 
    (k44 : ∀ h, (mu K).fn 44 [.lst (l.map Sc.av), .fn (.func 45) [] []] h = some (.val (.bool true) h))
    (env : Env) (e1 : get env 1 = .lst (l.map Sc.av)) (e3 : get env 3 = .ptr (0, 0) 0) (e8 : get env 8 = .own (0, 1) l.length) :
    ∃ env', evC K (mu K) p12_4 ⟨env, [[.box 26 false p.av, .arr 67 2 false (R.map Sc.av)]]⟩ = some (.norm, ⟨env', [[.box 26 false p.av, .arr 67 2 false (R.map Sc.av)]]⟩) ∧
      get env' 3 = .ptr (0, 0) 0 ∧ get env' 8 = .own (0, 1) l.length := by
  simp [p12_4, KL, lendF, e1, e3, e8, k44]
theorem p12_5ok (p : Po) (R : List Sc) (m : Nat) (hR : R.length = m)
    (k43 : ∀ h, (mu K).fn 43 [p.av, .lst (R.map Sc.av)] h = some (.val (.bool true) h))
    (env : Env) (e3 : get env 3 = .ptr (0, 0) 0) (e8 : get env 8 = .own (0, 1) m) :
    ∃ env', evC K (mu K) p12_5 ⟨env, [[.box 26 false p.av, .arr 67 2 false (R.map Sc.av)]]⟩ = some (.norm, ⟨env', [[.box 26 false p.av, .arr 67 2 true (R.map Sc.av)]]⟩) ∧
      get env' 6 = .bool true := by
  have t4 : (R.map Sc.av).take m = R.map Sc.av := List.take_of_length_le (by simp; omega)
  simp [p12_5, KL, lendF, e3, e8, k43, hR, t4, awake44]
end Go.Ab.Pl
