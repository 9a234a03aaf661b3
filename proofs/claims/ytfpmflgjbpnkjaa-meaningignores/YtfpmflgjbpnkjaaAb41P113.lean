/-
  The statement MeaningIgnores: its arguments.
-/
import Derived.Test.YtfpmflgjbpnkjaaAb41P112
set_option linter.unusedVariables false
set_option linter.unusedSectionVars false
namespace Go.Ab.Pl
open Go.Ab.Pol
open _root_.Go.Proofs _root_.Go.ChangeMaps _root_.Go.ChangeShapes _root_.Go.WideShapes _root_.Go.RowKit
set_option maxRecDepth 100000
section
variable {H:Type} {enc:TypeId×Value→H} {P:Program} {W:World} {base b:Nat} {sp:Nat→Bool} {hd:Bool} {v:Value} {d:DataW H} {ps:List MemPlace}
theorem trod_two {t e:TypeId} {fuel:Nat} {c0 c1:Value} {x:DataW H×List MemPlace} (ht:P.underlying t=some (.array 2 e)) (hce:P.cellsOf e=1)
  (h:DataW.trod enc P W base sp hd fuel t [c0,c1]=some x):∃ y0 y1 n,DataW.trod enc P W base sp hd n e [c0]=some y0∧DataW.trod enc P W base sp hd n e [c1]=some y1:=by
 cases fuel with
 | zero=>simp [DataW.trod] at h
 | succ n=>
  unfold DataW.trod at h
  rw [ht] at h
  have r2:List.range 2=[0,1]:=rfl
  simp [r2,hce] at h
  obtain ⟨_,h⟩:=h
  cases h0:DataW.trod enc P W base sp hd n e [c0] with
  | none=>simp [h0] at h
  | some y0=>
   cases h1:DataW.trod enc P W base sp hd n e [c1] with
   | none=>simp [h0,h1] at h
   | some y1=>exact ⟨y0,y1,n,h0,h1⟩
theorem arg_at (hv:Value.okWide Try.prog W .any base 94 v) (h:DataW.Trod enc Try.prog W b sp hd 94 v d ps) (hz:∀ n∈d.weights Try.prog 94,n≤reachBytes) :
  ∃ a0 a1:Int,okI .u8 a0∧okI .u8 a1∧VRel W (G0 W) NoLoc (atAV2 a0 a1) v:=by
 have hu:Try.prog.underlying 94=some (.array 2 5):=by kernel_rfl
 have hc:Try.prog.cellsOf 5=1:=by kernel_rfl
 have h2:Try.prog.cellsOf 94=2:=by kernel_rfl
 have hi:Try.prog.underlying 5=some (.int .u8):=by kernel_rfl
 simp only [Value.okWide,hu] at hv
 obtain ⟨cs,rfl,hs,_⟩:=hv
 rw [h2] at hs
 obtain ⟨cs⟩:=cs
 match cs,hs with
 | [c0,c1],_=>
  obtain ⟨fuel,hf⟩:=h
  obtain ⟨y0,y1,n,k0,k1⟩:=trod_two hu hc (x:=(d,ps)) hf
  obtain ⟨n0,e0,_,w0⟩:=DataW.trod_int hi k0
  obtain ⟨n1,e1,_,w1⟩:=DataW.trod_int hi k1
  simp only [List.cons.injEq,and_true] at e0 e1
  subst e0 e1
  refine ⟨n0,n1,w0,w1,.agg _ _ _ rfl (fun i hi=>?_) (fun i hi=>?_)⟩
  ·match i,hi with
   | 0,_=>rfl
   | 1,_=>rfl
  ·match i,hi with
   | 0,_=>exact .int _ _ _
   | 1,_=>exact .int _ _ _
end
theorem law19c (x:Cas) (o:aCas x) (a0 a1:Int) (h0:okI .u8 a0) (h1:okI .u8 a1) (n:Int):(mu K2).fn 19 [x.av,atAV2 a0 a1,iV n] []=some (.val (.bool true) []):=law19 x.p o.p x.l o.l x.xs a0 a1 n h0 h1
end Go.Ab.Pl
