/-
  The evaluator with the word on policy.Refs; the examples of chapter 41.
-/
import Derived.Test.YtfpmflgjbpnkjaaGreatDoorAb4dR5
import Derived.Test.YtfpmflgjbpnkjaaGreatDoorAb4dP9
import Derived.Test.YtfpmflgjbpnkjaaGreatDoorAbRefs
import Derived.Test.YtfpmflgjbpnkjaaGreatDoorAb4dP10
import Derived.Test.YtfpmflgjbpnkjaaGreatDoorAb4dP6
import Derived.Test.YtfpmflgjbpnkjaaGreatDoorAb4dP33
set_option linter.unusedVariables false
set_option linter.unusedSimpArgs false
namespace Go.Ab.Pn
open Go.Ab Go.Ab.Pol Go.Proofs Go.RowKit
set_option maxRecDepth 100000
set_option maxHeartbeats 2000000
def RefsAt (f:FuncId) (args:List AV) (r:Po×Tr):Prop:=f=16∧args=[r.1.av]∧Sz r.1∧Pol.Good r.1 r.2
open Classical in
noncomputable def refsX (f:FuncId) (args:List AV) (h:Heap):Option Out:=
 if k:∃ r,RefsAt f args r then some (.val (.lst ((refsP (Classical.choose k).1 (Classical.choose k).2).map Rf.av)) h) else none
theorem refsX_at {p:Po} {t:Tr} (hp:Sz p) (g:Pol.Good p t) (h:Heap):refsX 16 [p.av] h=some (.val (.lst ((refsP p t).map Rf.av)) h):=by
 have k:∃ r,RefsAt 16 [p.av] r:=⟨(p,t),rfl,rfl,hp,g⟩
 unfold refsX
 rw [dif_pos k]
 obtain ⟨_,h1,_,h2⟩:=Classical.choose_spec k
 have e:p.av=(Classical.choose k).1.av:=by simpa using h1
 rw [refs_av g.isT h2.isT g.root h2.root e]
noncomputable def K2:Cfg:=K.know refsX
theorem up {f:FuncId} {a:List AV} {h:Heap} {r:Out} (e:(mu K).fn f a h=some r):(mu K2).fn f a h=some r:=(know_up K refsX).fn _ _ _ _ e
theorem f52 (p:Po) (T:List Blk) (h:Heap):(mu K).fn 52 [p.av] (T :: h)=some (.val (.fn (.func 116) [] [.ptr (h.length,T.length) 0]) ((T++[.box 26 false p.av]) :: h)):=by
 rw [fn_go (KX _ _ _) fn52 rfl (by simp [c52])]
 simp [c52,KL,lendF]
theorem c_bad (O:Orc) (s:St):evC K O .bad s=none:=rfl
theorem goB_none (id:Nat):goB id none=none:=rfl
theorem goS_none (O:Orc) (b:CC):goS K O b none=none:=rfl
theorem goF_none (rs:List CRes):goF rs none=none:=rfl
theorem f16_silent (p:Po) (hp:Sz p) (hc:chk p=0) (h:Heap):(mu K).fn 16 [p.av] h=none:=by
 have k24:=fun h=>f51 p hp h
 rw [hc] at k24
 have k74:=fun T h=>f52 p T h
 rw [fn_go (KX _ _ _) fn16 rfl (by simp [c16])]
 simp [c16,KL,lendF,k24,k74,c_bad,goB_none,goS_none,goF_none]
theorem f16 (p:Po) (hp:Sz p) (t:Tr) (g:Pol.Good p t) (h:Heap):(mu K2).fn 16 [p.av] h=some (.val (.lst ((refsP p t).map Rf.av)) h):=by
 have e:K2.X 16 [p.av] h=some (.val (.lst ((refsP p t).map Rf.av)) h):=by
  show (match K.X 16 [p.av] h with
   | some r=>some r
   | none=>(match refsX 16 [p.av] h with
    | some r=>(match (mu K).fn 16 [p.av] h with
     | some r'=>some r'
     | none=>some r)
    | none=>none))=_
  rw [KX 16 [p.av] h,refsX_at hp g h,f16_silent p hp (good_chk g) h]
 rw [step_mu_fn]
 simp only [step,stepFn,e]
end Go.Ab.Pn
