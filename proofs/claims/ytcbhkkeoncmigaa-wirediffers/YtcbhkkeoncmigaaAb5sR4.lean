/-
  Messages: their shapes, and how they are read.
-/
import Derived.Test.YtcbhkkeoncmigaaAb5sR3
set_option linter.unusedVariables false
set_option linter.unusedSimpArgs false
set_option linter.unusedSectionVars false
namespace Go.Ab.WireS
set_option maxRecDepth 100000
set_option maxHeartbeats 1000000

/-- A slice. -/
structure Sl (α : Type) where
  nl : Bool
  l : List α
abbrev Sl.avS {α : Type} (av : α → AV) (s : Sl α) : AV := lv s.nl (s.l.map av)
structure Ig where
  ng : Bool
  ab : List UInt8
abbrev Ig.av (i : Ig) : AV := iav i.ng i.ab
abbrev avNs (s : Sl (List UInt8)) : AV := s.avS .str
abbrev avNss (s : Sl (Sl (List UInt8))) : AV := s.avS avNs
abbrev avIs (s : Sl Ig) : AV := s.avS Ig.av
abbrev avIss (s : Sl (Sl Ig)) : AV := s.avS avIs
structure Qu where
  p : List UInt8
  v : List UInt8
  n : List UInt8
  e : Int
  d : Int
abbrev Qu.cs (x : Qu) : List AV := [.str x.p, .str x.v, .str x.n, .int .i64 x.e, .int .i64 x.d]
abbrev Qu.av (x : Qu) : AV := .agg x.cs
structure Sg where
  a : List UInt8
  e : List UInt8
  v : List UInt8
abbrev Sg.cs (x : Sg) : List AV := [.str x.a, .str x.e, .str x.v]
abbrev Sg.av (x : Sg) : AV := .agg x.cs
structure P2 where
  a : List UInt8
  b : List UInt8
abbrev P2.cs (x : P2) : List AV := [.str x.a, .str x.b]
abbrev P2.av (x : P2) : AV := .agg x.cs
structure Pf where
  c : List UInt8
  rs : Sl Ig
  gs : Sl (List UInt8)
  ls : Sl (Sl Ig)
abbrev Pf.cs (x : Pf) : List AV := [.str x.c, avIs x.rs, avNs x.gs, avIss x.ls]
abbrev Pf.av (x : Pf) : AV := .agg x.cs
structure Sh where
  is : List UInt8
  ve : Int
  a : List UInt8
  w : List UInt8
  ds : Sl (List UInt8)
abbrev Sh.cs (x : Sh) : List AV := [.str x.is, .int .i64 x.ve, .str x.a, .str x.w, avNs x.ds]
abbrev Sh.av (x : Sh) : AV := .agg x.cs
abbrev avShs (s : Sl Sh) : AV := s.avS Sh.av
structure Rq where
  c : List UInt8
  n : List UInt8
  p : Pf
abbrev Rq.cs (x : Rq) : List AV := [.str x.c, .str x.n, .str x.p.c, avIs x.p.rs, avNs x.p.gs, avIss x.p.ls]
abbrev Rq.av (x : Rq) : AV := .agg x.cs
structure Rs where
  ats : Sl (List UInt8)
  sg : Sg
  w : List UInt8
  e : Int
abbrev Rs.cs (x : Rs) : List AV := [avNs x.ats, .str x.sg.a, .str x.sg.e, .str x.sg.v, .str x.w, .int .i64 x.e]
abbrev Rs.av (x : Rs) : AV := .agg x.cs
structure Hd where
  is : List UInt8
  sc : List UInt8
  ve : Int
  ats : Sl (List UInt8)
  sg : Sg
  e : Int
  w : List UInt8
abbrev Hd.cs (x : Hd) : List AV := [.str x.is, .str x.sc, .int .i64 x.ve, avNs x.ats, .str x.sg.a, .str x.sg.e, .str x.sg.v, .int .i64 x.e, .str x.w]
abbrev Hd.av (x : Hd) : AV := .agg x.cs
structure Dl where
  f : Int
  t : Int
  ad : Sl (List UInt8)
  rm : Sl (List UInt8)
  be : List UInt8
  af : List UInt8
  sg : P2
abbrev Dl.cs (x : Dl) : List AV := [.int .i64 x.f, .int .i64 x.t, avNs x.ad, avNs x.rm, .str x.be, .str x.af, .str x.sg.a, .str x.sg.b]
abbrev Dl.av (x : Dl) : AV := .agg x.cs
structure Pr where
  sh : Sl Sh
  cm : Sl (List UInt8)
  pa : Sl (Sl (List UInt8))
  sq : Sl (Sl (List UInt8))
  ny : List UInt8
  se : List UInt8
  co : List UInt8
  cp : Sl (List UInt8)
  es : P2
  p : Pf
abbrev Pr.cs (x : Pr) : List AV := [avShs x.sh, avNs x.cm, avNss x.pa, avNss x.sq, .str x.ny, .str x.se, .str x.co, avNs x.cp, .str x.es.a, .str x.es.b, .str x.p.c, avIs x.p.rs, avNs x.p.gs, avIss x.p.ls]
abbrev Pr.av (x : Pr) : AV := .agg x.cs

/-- One after another. -/
def sBind {α β : Type} (s : SP α) (k : α → SP β) : SP β := fun l b => match s l b with
  | none => none
  | some (x, l1, b1) => k x l1 b1
def sRet {α : Type} (x : α) : SP α := fun l b => some (x, l, b)
def iMap {α β : Type} (f : α → β) (ip : IP α) : IP β := fun i b => match ip i b with
  | some (x, b') => some (f x, b')
  | none => none
theorem one_map {α β : Type} (f : α → β) (ip : IP α) (l : List It) (b : Bool) : one (iMap f ip) l b = match one ip l b with
    | some (x, r, b') => some (f x, r, b')
    | none => none := by
  cases l with
  | nil => rfl
  | cons i r =>
    simp only [one, iMap]
    cases ip i b with
    | none => rfl
    | some y => rfl
/-- A function that reads slices. -/
abbrev iSl {α : Type} (ip : IP α) : IP (Sl α) := iMap (Sl.mk false) (iInner (sAll ip))
def iInt : IP Ig := fun i b => if i.k = 2 then (if (toI i).2.2 = true then some (⟨(toI i).1, (toI i).2.1⟩, b) else none) else none
theorem reads_sl {f f1 fi M : FuncId} {et sz bytes : Nat} {z : AV} {tf : TypeId} {α : Type} {ip : IP α} {av : α → AV} (hf : K.fns f = some (elemsF tf f1 fi)) (hf1 : K.fns f1 = some (elems1 et sz bytes z)) (hfi : K.fns fi = some innerS)
    (hz : z.cells.length = sz) (hzp : z.pure = true) (hby : bytes ≤ 1000) (hav : ∀ x, (av x).cells.length = sz) (hpu : ∀ x, (av x).refOk (fun _ => false) = true) (hM : Reads M (one ip) av)
    {h : Heap} {a g : Loc} (p : RP h a g) (nl : Bool) (l : List It) (b : Bool) (hw : wts l ≤ 1000000) : match one (iSl ip) l b with
    | some (x, r, b') => ∃ nl', (mu K).fn f [.ptr a 0, .fn (.func M) [] []] (RD h a g nl l b) = some (.val (Sl.avS av x) (RD h a g nl' r b'))
    | none => ∃ nl' r b', (mu K).fn f [.ptr a 0, .fn (.func M) [] []] (RD h a g nl l b) = some (.pan wrong (RD h a g nl' r b')) := by
  have := elems_ok hf hf1 hfi hz hzp hby hav hpu hM p nl l b hw
  rw [one_map]
  cases e : one (iInner (sAll ip)) l b with
  | none => rw [e] at this; exact this
  | some y =>
    obtain ⟨x, r, b'⟩ := y
    rw [e] at this
    simp only [Sl.avS, lv_false]
    exact this
theorem e122 : K.fns 83 = some (elemsF 136 108 107) := fn83
theorem e165 : K.fns 108 = some (elems1 34 1 16 (.str [])) := fn108
theorem e164 : K.fns 107 = some (innerS) := fn107
abbrev iNs : IP (Sl (List UInt8)) := iSl iNat
abbrev iIs : IP (Sl Ig) := iSl iInt
abbrev iNss : IP (Sl (Sl (List UInt8))) := iSl iNs
abbrev iIss : IP (Sl (Sl Ig)) := iSl iIs
theorem r46 : Reads 46 (one iNs) avNs := fun h a g p _ nl l b hw => by
  have k := reads_sl e122 e165 e164 rfl rfl (by omega) (fun x => rfl) (fun x => rfl) r48 (p.push []) nl l b hw
  simp only [rd_push p] at k
  rw [fn_go (KX _ _ _) fn46 rfl (by simp [c46])]
  cases e : one iNs l b with
  | none =>
    rw [e] at k
    obtain ⟨nl', r, b', k⟩ := k
    exact ⟨nl', r, b', by simp [c46, KL, k]⟩
  | some y =>
    obtain ⟨x, r, b'⟩ := y
    rw [e] at k
    simp only at k ⊢
    obtain ⟨nl', k⟩ := k
    exact ⟨nl', by simp [c46, KL, k]⟩
theorem i131 : K.fns 89 = some (innerA 101 [.str [], .str []] 2) := fn89
def sP2 : SP P2 := sBind (one iNat) fun x_a => sBind (one iNat) fun x_b => sRet ⟨x_a, x_b⟩
theorem r90 : Reads 90 sP2 P2.av := fun h a g p _ nl l b hw => by
  simp only [sP2, sBind]
  have k0 := r48.at_ (p.push [.box 101 false (.agg [.str [], .str []])]) nl l b hw
  simp only [rd_push p] at k0
  cases e0 : (one iNat) l b with
  | none =>
    rw [e0] at k0
    obtain ⟨nl', r, b', k0⟩ := k0
    refine ⟨nl', r, b', ?_⟩
    rw [fn_go (KX _ _ _) fn90 rfl (by simp [c90])]
    simp [c90, KL, k0]
  | some y0 =>
    obtain ⟨x_a, l0, b0⟩ := y0
    rw [e0] at k0
    simp only at k0 ⊢
    obtain ⟨nl0, k0⟩ := k0
    have hw0 := one_wts e0 hw
    have k1 := r48.at_ (p.push [.box 101 false (.agg [.str [], .str []])]) nl0 l0 b0 hw0
    simp only [rd_push p] at k1
    cases e1 : (one iNat) l0 b0 with
    | none =>
      rw [e1] at k1
      obtain ⟨nl', r, b', k1⟩ := k1
      refine ⟨nl', r, b', ?_⟩
      rw [fn_go (KX _ _ _) fn90 rfl (by simp [c90])]
      simp [c90, KL, k0, k1]
    | some y1 =>
      obtain ⟨x_b, l1, b1⟩ := y1
      rw [e1] at k1
      simp only at k1 ⊢
      obtain ⟨nl1, k1⟩ := k1
      have hw1 := one_wts e1 hw0
      simp only [sRet]
      refine ⟨nl1, ?_⟩
      rw [fn_go (KX _ _ _) fn90 rfl (by simp [c90])]
      simp [c90, KL, k0, k1]
abbrev iP2 : IP P2 := iInner sP2
theorem r52 : Reads 52 (one iP2) P2.av := fun h a g p _ nl l b hw => by
  have k := innerA_ok i131 rfl (by omega) (fun x => rfl) (fun x => by simp) (fun q hh => rfl) r90 (p.push [.box 101 false (.agg [.str [], .str []])]) (fun x hx => by cases hx) nl l b hw
  simp only [rd_push p] at k
  rw [fn_go (KX _ _ _) fn52 rfl (by simp [c52])]
  cases e : one iP2 l b with
  | none =>
    rw [e] at k
    obtain ⟨nl', r, b', k⟩ := k
    exact ⟨nl', r, b', by simp [c52, KL, k]⟩
  | some y =>
    obtain ⟨x, r, b'⟩ := y
    rw [e] at k
    simp only at k ⊢
    obtain ⟨nl', k⟩ := k
    exact ⟨nl', by simp [c52, KL, k]⟩
theorem i123 : K.fns 84 = some (innerA 36 [.str [], .str [], .str []] 3) := fn84
def sSg : SP Sg := sBind (one iNat) fun x_a => sBind (one iNat) fun x_e => sBind (one iNat) fun x_v => sRet ⟨x_a, x_e, x_v⟩
theorem r85 : Reads 85 sSg Sg.av := fun h a g p _ nl l b hw => by
  simp only [sSg, sBind]
  have k0 := r48.at_ (p.push [.box 36 false (.agg [.str [], .str [], .str []])]) nl l b hw
  simp only [rd_push p] at k0
  cases e0 : (one iNat) l b with
  | none =>
    rw [e0] at k0
    obtain ⟨nl', r, b', k0⟩ := k0
    refine ⟨nl', r, b', ?_⟩
    rw [fn_go (KX _ _ _) fn85 rfl (by simp [c85])]
    simp [c85, KL, k0]
  | some y0 =>
    obtain ⟨x_a, l0, b0⟩ := y0
    rw [e0] at k0
    simp only at k0 ⊢
    obtain ⟨nl0, k0⟩ := k0
    have hw0 := one_wts e0 hw
    have k1 := r48.at_ (p.push [.box 36 false (.agg [.str [], .str [], .str []])]) nl0 l0 b0 hw0
    simp only [rd_push p] at k1
    cases e1 : (one iNat) l0 b0 with
    | none =>
      rw [e1] at k1
      obtain ⟨nl', r, b', k1⟩ := k1
      refine ⟨nl', r, b', ?_⟩
      rw [fn_go (KX _ _ _) fn85 rfl (by simp [c85])]
      simp [c85, KL, k0, k1]
    | some y1 =>
      obtain ⟨x_e, l1, b1⟩ := y1
      rw [e1] at k1
      simp only at k1 ⊢
      obtain ⟨nl1, k1⟩ := k1
      have hw1 := one_wts e1 hw0
      have k2 := r48.at_ (p.push [.box 36 false (.agg [.str [], .str [], .str []])]) nl1 l1 b1 hw1
      simp only [rd_push p] at k2
      cases e2 : (one iNat) l1 b1 with
      | none =>
        rw [e2] at k2
        obtain ⟨nl', r, b', k2⟩ := k2
        refine ⟨nl', r, b', ?_⟩
        rw [fn_go (KX _ _ _) fn85 rfl (by simp [c85])]
        simp [c85, KL, k0, k1, k2]
      | some y2 =>
        obtain ⟨x_v, l2, b2⟩ := y2
        rw [e2] at k2
        simp only at k2 ⊢
        obtain ⟨nl2, k2⟩ := k2
        have hw2 := one_wts e2 hw1
        simp only [sRet]
        refine ⟨nl2, ?_⟩
        rw [fn_go (KX _ _ _) fn85 rfl (by simp [c85])]
        simp [c85, KL, k0, k1, k2]
abbrev iSg : IP Sg := iInner sSg
theorem r47 : Reads 47 (one iSg) Sg.av := fun h a g p _ nl l b hw => by
  have k := innerA_ok i123 rfl (by omega) (fun x => rfl) (fun x => by simp) (fun q hh => rfl) r85 (p.push [.box 36 false (.agg [.str [], .str [], .str []])]) (fun x hx => by cases hx) nl l b hw
  simp only [rd_push p] at k
  rw [fn_go (KX _ _ _) fn47 rfl (by simp [c47])]
  cases e : one iSg l b with
  | none =>
    rw [e] at k
    obtain ⟨nl', r, b', k⟩ := k
    exact ⟨nl', r, b', by simp [c47, KL, k]⟩
  | some y =>
    obtain ⟨x, r, b'⟩ := y
    rw [e] at k
    simp only at k ⊢
    obtain ⟨nl', k⟩ := k
    exact ⟨nl', by simp [c47, KL, k]⟩
def sPf : SP Pf := sBind (one iNat) fun x_c => sBind (one iIs) fun x_rs => sBind (one iNs) fun x_gs => sBind (one iIss) fun x_ls => sRet ⟨x_c, x_rs, x_gs, x_ls⟩
abbrev iPf : IP Pf := iInner sPf
def sSh : SP Sh := sBind (one iText) fun x_is => sBind (one iNum) fun x_ve => sBind (one iNat) fun x_a => sBind (one iNat) fun x_w => sBind (one iNs) fun x_ds => sRet ⟨x_is, x_ve, x_a, x_w, x_ds⟩
abbrev iSh : IP Sh := iInner sSh
abbrev iShs : IP (Sl Sh) := iSl iSh
def sQu : SP Qu := sBind (one iText) fun x_p => sBind (one iText) fun x_v => sBind (one iText) fun x_n => sBind (one iNum) fun x_e => sBind (one iNum) fun x_d => sRet ⟨x_p, x_v, x_n, x_e, x_d⟩
theorem r33 : Reads 33 sQu Qu.av := fun h a g p _ nl l b hw => by
  simp only [sQu, sBind]
  have k0 := r34.at_ (p.push [.box 23 false (.agg [.str [], .str [], .str [], .int .i64 0, .int .i64 0])]) nl l b hw
  simp only [rd_push p] at k0
  cases e0 : (one iText) l b with
  | none =>
    rw [e0] at k0
    obtain ⟨nl', r, b', k0⟩ := k0
    refine ⟨nl', r, b', ?_⟩
    rw [fn_go (KX _ _ _) fn33 rfl (by simp [c33])]
    simp [c33, KL, k0]
  | some y0 =>
    obtain ⟨x_p, l0, b0⟩ := y0
    rw [e0] at k0
    simp only at k0 ⊢
    obtain ⟨nl0, k0⟩ := k0
    have hw0 := one_wts e0 hw
    have k1 := r34.at_ (p.push [.box 23 false (.agg [.str [], .str [], .str [], .int .i64 0, .int .i64 0])]) nl0 l0 b0 hw0
    simp only [rd_push p] at k1
    cases e1 : (one iText) l0 b0 with
    | none =>
      rw [e1] at k1
      obtain ⟨nl', r, b', k1⟩ := k1
      refine ⟨nl', r, b', ?_⟩
      rw [fn_go (KX _ _ _) fn33 rfl (by simp [c33])]
      simp [c33, KL, k0, k1]
    | some y1 =>
      obtain ⟨x_v, l1, b1⟩ := y1
      rw [e1] at k1
      simp only at k1 ⊢
      obtain ⟨nl1, k1⟩ := k1
      have hw1 := one_wts e1 hw0
      have k2 := r34.at_ (p.push [.box 23 false (.agg [.str [], .str [], .str [], .int .i64 0, .int .i64 0])]) nl1 l1 b1 hw1
      simp only [rd_push p] at k2
      cases e2 : (one iText) l1 b1 with
      | none =>
        rw [e2] at k2
        obtain ⟨nl', r, b', k2⟩ := k2
        refine ⟨nl', r, b', ?_⟩
        rw [fn_go (KX _ _ _) fn33 rfl (by simp [c33])]
        simp [c33, KL, k0, k1, k2]
      | some y2 =>
        obtain ⟨x_n, l2, b2⟩ := y2
        rw [e2] at k2
        simp only at k2 ⊢
        obtain ⟨nl2, k2⟩ := k2
        have hw2 := one_wts e2 hw1
        have k3 := r35.at_ (p.push [.box 23 false (.agg [.str [], .str [], .str [], .int .i64 0, .int .i64 0])]) nl2 l2 b2 hw2
        simp only [rd_push p] at k3
        cases e3 : (one iNum) l2 b2 with
        | none =>
          rw [e3] at k3
          obtain ⟨nl', r, b', k3⟩ := k3
          refine ⟨nl', r, b', ?_⟩
          rw [fn_go (KX _ _ _) fn33 rfl (by simp [c33])]
          simp [c33, KL, k0, k1, k2, k3]
        | some y3 =>
          obtain ⟨x_e, l3, b3⟩ := y3
          rw [e3] at k3
          simp only at k3 ⊢
          obtain ⟨nl3, k3⟩ := k3
          have hw3 := one_wts e3 hw2
          have k4 := r35.at_ (p.push [.box 23 false (.agg [.str [], .str [], .str [], .int .i64 0, .int .i64 0])]) nl3 l3 b3 hw3
          simp only [rd_push p] at k4
          cases e4 : (one iNum) l3 b3 with
          | none =>
            rw [e4] at k4
            obtain ⟨nl', r, b', k4⟩ := k4
            refine ⟨nl', r, b', ?_⟩
            rw [fn_go (KX _ _ _) fn33 rfl (by simp [c33])]
            simp [c33, KL, k0, k1, k2, k3, k4]
          | some y4 =>
            obtain ⟨x_d, l4, b4⟩ := y4
            rw [e4] at k4
            simp only at k4 ⊢
            obtain ⟨nl4, k4⟩ := k4
            have hw4 := one_wts e4 hw3
            simp only [sRet]
            refine ⟨nl4, ?_⟩
            rw [fn_go (KX _ _ _) fn33 rfl (by simp [c33])]
            simp [c33, KL, k0, k1, k2, k3, k4]
def sRq : SP Rq := sBind (one iNat) fun x_c => sBind (one iText) fun x_n => sBind (one iPf) fun x_p => sRet ⟨x_c, x_n, x_p⟩
def sRs : SP Rs := sBind (one iNs) fun x_ats => sBind (one iSg) fun x_sg => sBind (one iNat) fun x_w => sBind (one iNum) fun x_e => sRet ⟨x_ats, x_sg, x_w, x_e⟩
end Go.Ab.WireS
