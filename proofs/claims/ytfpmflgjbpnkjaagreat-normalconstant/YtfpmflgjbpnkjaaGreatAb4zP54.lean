/-
  The meaning of a policy: the program. Conditions over values.
-/
import Derived.Test.YtfpmflgjbpnkjaaGreatAb4zP52
set_option linter.unusedVariables false
set_option linter.unusedSimpArgs false
set_option linter.unusedSectionVars false
namespace Go.Ab.Pz
open Go.Ab.Pol
set_option maxRecDepth 100000
set_option maxHeartbeats 4000000
def sgB (how c:Int):Bool:=
 if how=0 then decide (c=0) else if how=1 then decide (c≠0) else if how=2 then decide (c < 0) else if how=3 then decide (c≤0) else if how=4 then decide (0 < c) else decide (0≤c)
theorem sgB_num {how:Int} (hh:How how) (a b:Int):sgB how (cmpN a b)=cmpI how a b:=by
 unfold cmpN
 by_cases h1:a < b
 ·rcases hh with rfl | rfl | rfl | rfl | rfl | rfl<;>simp [sgB,cmpI,h1]<;>omega
 by_cases h2:b < a
 ·rcases hh with rfl | rfl | rfl | rfl | rfl | rfl<;>simp [sgB,cmpI,h1,h2]<;>omega
 ·rcases hh with rfl | rfl | rfl | rfl | rfl | rfl<;>simp [sgB,cmpI,h1,h2]<;>omega
theorem sgB_word {how:Int} (hh:how=0∨how=1) (a b:Bs):sgB how (cmpVl (.word a) (.word b))=cmpV how (.word a) (.word b):=by
 have:=cmpB_eq a b
 rcases hh with rfl | rfl<;>simp [sgB,cmpV,cmpVl,this]
def Ev (p:Po) (l:Sl Sc) (xs:Sl (Sl Int)) (o:Loc) (m:Nat) (j:Int) (v:Vl):Prop:=
 ∀ a h,hget h a=some (.box 74 false (evAV p l xs o m))→a.1 < h.length→(mu K).fn 154 [.ptr a 0,iV j] h=some (.val (vlAV v) h)
theorem view_vl (f:Loc→Bool) (v:Vl) (h:Heap):AV.view f (vlAV v) h=some (vlAV v,h):=by cases v<;>simp [vlAV,AV.view]
theorem refOk_vl (f:Loc→Bool) (v:Vl):AV.refOk f (vlAV v)=true:=by cases v<;>simp [vlAV,AV.refOk]
theorem lk228:List.lookup (225:TypeId) [((224:TypeId),(201:FuncId)),(225,204)]=some 204:=rfl
section
variable {p:Po} {l:Sl Sc} {xs:Sl (Sl Int)} {o:Loc} {m:Nat}
theorem f106 (i:Nat) (n:Nd) (hn:p.nodes.l[i]?=some n) (x y:Int) (hk:n.kids.l=[x,y]) (hh:How n.num) {u v:Vl} (e1:Ev p l xs o m x u) (e2:Ev p l xs o m y v)
  (a:Loc) (h:Heap) (ha:hget h a=some (.box 74 false (evAV p l xs o m))) (hal:a.1 < h.length) :
  (mu K).fn 106 [.ptr a 0,iV (i:Int)] h=some (.val (.bool (sgB n.num (cmpVl u v))) h):=by
 have ne:(h.length=a.1)=False:=by simp;omega
 have ne2:(a.1=h.length)=False:=by simp;omega
 have hin:=fun (k:IntKind)=>iaF_sl (av:=Nd.av) (sz:=6) (s:=p.nodes) (k:=k) (j:=(i:Int)) (x:=n) (by omega) (by simpa using hn) rfl
 have h0:=fun (k:IntKind)=>iaF_sl (av:=iV) (sz:=1) (s:=n.kids) (k:=k) (j:=0) (x:=x) (by omega) (by simp [hk]) rfl
 have h1:=fun (k:IntKind)=>iaF_sl (av:=iV) (sz:=1) (s:=n.kids) (k:=k) (j:=1) (x:=y) (by omega) (by simp [hk]) rfl
 have bk:=beq_avS _ beq_iV n.kids
 have hs:∀ b:Blk,hget ([b] :: h) a=some (.box 74 false (evAV p l xs o m)):=fun b=>by simpa [hget,ne,ne2] using ha
 have k1:=fun b=>e1 a ([b] :: h) (hs b) (by simp;omega)
 have k2:=fun b=>e2 a ([b] :: h) (hs b) (by simp;omega)
 rw [fn_go (KX _ _ _) fn106 rfl (by simp [c106])]
 cases u with
 | num q=>
  have k3:=fun h=>f201 q v h
  generalize cmpVl (.num q) v=c at *
  simp only [vlAV] at k1
  rcases hh with hq | hq | hq | hq | hq | hq<;>simp [c106,KL,lendF,ha,hget,ne,ne2,hin,h0,h1,bk,k1,k2,k3,hq,sgB,view_vl,refOk_vl,lk228]
 | word q=>
  have k3:=fun h=>f204 q v h
  generalize cmpVl (.word q) v=c at *
  simp only [vlAV] at k1
  rcases hh with hq | hq | hq | hq | hq | hq<;>simp [c106,KL,lendF,ha,hget,ne,ne2,hin,h0,h1,bk,k1,k2,k3,hq,sgB,view_vl,refOk_vl,lk228]
theorem f107 (i:Nat) (n:Nd) (hn:p.nodes.l[i]?=some n) (x y z:Int) (hk:n.kids.l=[x,y,z]) {u v v2:Vl} (e1:Ev p l xs o m x u) (e2:Ev p l xs o m y v) (e3:Ev p l xs o m z v2)
  (a:Loc) (h:Heap) (ha:hget h a=some (.box 74 false (evAV p l xs o m))) (hal:a.1 < h.length) :
  (mu K).fn 107 [.ptr a 0,iV (i:Int)] h=some (.val (.bool (sgB 5 (cmpVl u v) && sgB 3 (cmpVl u v2))) h):=by
 have ne:(h.length=a.1)=False:=by simp;omega
 have ne2:(a.1=h.length)=False:=by simp;omega
 have hin:=fun (k:IntKind)=>iaF_sl (av:=Nd.av) (sz:=6) (s:=p.nodes) (k:=k) (j:=(i:Int)) (x:=n) (by omega) (by simpa using hn) rfl
 have h0:=fun (k:IntKind)=>iaF_sl (av:=iV) (sz:=1) (s:=n.kids) (k:=k) (j:=0) (x:=x) (by omega) (by simp [hk]) rfl
 have h1:=fun (k:IntKind)=>iaF_sl (av:=iV) (sz:=1) (s:=n.kids) (k:=k) (j:=1) (x:=y) (by omega) (by simp [hk]) rfl
 have h2:=fun (k:IntKind)=>iaF_sl (av:=iV) (sz:=1) (s:=n.kids) (k:=k) (j:=2) (x:=z) (by omega) (by simp [hk]) rfl
 have bk:=beq_avS _ beq_iV n.kids
 have hs:∀ b:Blk,hget ([b] :: h) a=some (.box 74 false (evAV p l xs o m)):=fun b=>by simpa [hget,ne,ne2] using ha
 have k1:=fun b=>e1 a ([b] :: h) (hs b) (by simp;omega)
 have k2:=fun b=>e2 a ([b] :: h) (hs b) (by simp;omega)
 have k2':=fun b=>e3 a ([b] :: h) (hs b) (by simp;omega)
 rw [fn_go (KX _ _ _) fn107 rfl (by simp [c107])]
 have s5:∀ c,sgB 5 c=decide (0≤c):=fun c=>by simp [sgB]
 have s3:∀ c,sgB 3 c=decide (c≤0):=fun c=>by simp [sgB]
 rw [s5,s3]
 cases u with
 | num q=>
  have k3:=fun h=>f201 q v h
  have k4:=fun h=>f201 q v2 h
  generalize cmpVl (.num q) v=c at *
  generalize cmpVl (.num q) v2=c2 at *
  simp only [vlAV] at k1
  by_cases hc:0≤c
  ·have hc2:(0≤c)=True:=by simp [hc]
   simp [c107,KL,lendF,ha,hget,ne,ne2,hin,h0,h1,h2,bk,k1,k2,k2',k3,k4,hc2,view_vl,refOk_vl,lk228]
  ·have hc2:(0≤c)=False:=by simp [hc]
   simp [c107,KL,lendF,ha,hget,ne,ne2,hin,h0,h1,h2,bk,k1,k2,k2',k3,k4,hc2,view_vl,refOk_vl,lk228]
 | word q=>
  have k3:=fun h=>f204 q v h
  have k4:=fun h=>f204 q v2 h
  generalize cmpVl (.word q) v=c at *
  generalize cmpVl (.word q) v2=c2 at *
  simp only [vlAV] at k1
  by_cases hc:0≤c
  ·have hc2:(0≤c)=True:=by simp [hc]
   simp [c107,KL,lendF,ha,hget,ne,ne2,hin,h0,h1,h2,bk,k1,k2,k2',k3,k4,hc2,view_vl,refOk_vl,lk228]
  ·have hc2:(0≤c)=False:=by simp [hc]
   simp [c107,KL,lendF,ha,hget,ne,ne2,hin,h0,h1,h2,bk,k1,k2,k2',k3,k4,hc2,view_vl,refOk_vl,lk228]
end
end Go.Ab.Pz
/-
  The meaning of a policy: the program. In.
-/
namespace Go.Ab.Pz
open Go.Ab.Pol
set_option maxRecDepth 100000
set_option maxHeartbeats 4000000
section
variable {p:Po} {l:Sl Sc} {xs:Sl (Sl Int)} {o:Loc} {m:Nat}
theorem f108 (i:Nat) (n:Nd) (hn:p.nodes.l[i]?=some n) (x:Int) (r:List Int) (hk:n.kids.l=x :: r) (hlen:n.kids.l.length≤1000) {u:Vl} (g:Int→Vl) (e1:Ev p l xs o m x u) (e2:∀ y∈r,Ev p l xs o m y (g y))
  (a:Loc) (h:Heap) (ha:hget h a=some (.box 74 false (evAV p l xs o m))) (hal:a.1 < h.length) :
  (mu K).fn 108 [.ptr a 0,iV (i:Int)] h=some (.val (.bool (r.any fun y=>sgB 0 (cmpVl u (g y)))) h):=by
 have ne:(h.length=a.1)=False:=by simp;omega
 have ne2:(a.1=h.length)=False:=by simp;omega
 have hin:=fun (k:IntKind)=>iaF_sl (av:=Nd.av) (sz:=6) (s:=p.nodes) (k:=k) (j:=(i:Int)) (x:=n) (by omega) (by simpa using hn) rfl
 have h0:=fun (k:IntKind)=>iaF_sl (av:=iV) (sz:=1) (s:=n.kids) (k:=k) (j:=0) (x:=x) (by omega) (by simp [hk]) rfl
 have bk:=beq_avS _ beq_iV n.kids
 have hs:∀ b:Blk,hget ([b] :: h) a=some (.box 74 false (evAV p l xs o m)):=fun b=>by simpa [hget,ne,ne2] using ha
 have k1:=fun b=>e1 a ([b] :: h) (hs b) (by simp;omega)
 have s0:∀ c,sgB 0 c=decide (c=0):=fun c=>by simp [sgB]
 have hkk:n.kids.avS iV=.lst ((x :: r).map iV):=by
  unfold Sl.avS
  rw [hk]
  exact lv_lst _ (by simp)
 have hrl:r.length≤1000:=by rw [hk] at hlen;simp at hlen;omega
 have key:=loop_iter (K:=K) (n:=1) (live:=[0,6,25,26,27]) (a:=l108_0) (fun (_:Unit) (y:Int)=>if (!(sgB 0 (cmpVl u (g y))))=true then (.inl ():Unit ⊕ Unit) else .inr ())
  (fun pre _=>⟨[(0,.ptr a 0),(6,vlAV u),(25,.lst (r.map iV)),(26,iV (r.length:Int)),(27,iV (pre.length:Int))],[.box 63 false n.av] :: h⟩) (fun _ _=>True)
  (fun _ o=>∃ env,o=some (.exit 0,⟨env,[.box 63 false n.av] :: h⟩))
  (fun _ o=>∃ env R,o=some (.ret,⟨env,R :: h⟩)∧get env 4=.bool true) r
  (fun pre y q b hl' hb=>by
   obtain ⟨h1,h2,w1⟩:=idx_facts hl' (by omega)
   have hix:=fun (k:IntKind)=>iaF_lst (sz:=1) (l:=r.map iV) (k:=k) (j:=(pre.length:Int)) (v:=iV y) (by omega) (by rw [Int.toNat_natCast,List.getElem?_map,h2];rfl) rfl
   have hy:y∈r:=by rw [hl'];simp
   have k2:=fun b=>e2 y hy a ([b] :: h) (hs b) (by simp;omega)
   rw [loop_go]
   generalize (mu K).code (.loopAt 1 [0,6,25,26,27] l108_0)=F
   clear hl'
   rw [s0]
   cases u with
   | num qq=>
    have k3:=fun h=>f201 qq (g y) h
    generalize cmpVl (.num qq) (g y)=c at *
    simp only [vlAV]
    by_cases hc:c=0
    ·have hc2:(c=0)=True:=by simp [hc]
     simp [l108_0,KL,lendF,h1,hix,w1,k2,k3,hc2,view_vl,refOk_vl,lk228,ne,ne2]
    ·simp [l108_0,KL,lendF,h1,hix,w1,k2,k3,hc,view_vl,refOk_vl,lk228,ne,ne2]
   | word qq=>
    have k3:=fun h=>f204 qq (g y) h
    generalize cmpVl (.word qq) (g y)=c at *
    simp only [vlAV]
    by_cases hc:c=0
    ·have hc2:(c=0)=True:=by simp [hc]
     simp [l108_0,KL,lendF,h1,hix,w1,k2,k3,hc2,view_vl,refOk_vl,lk228,ne,ne2]
    ·simp [l108_0,KL,lendF,h1,hix,w1,k2,k3,hc,view_vl,refOk_vl,lk228,ne,ne2])
  (fun b _=>by
   rw [loop_go]
   generalize (mu K).code (.loopAt 1 [0,6,25,26,27] l108_0)=F
   simp [l108_0]) () trivial
 simp only [List.length_nil,Int.natCast_zero] at key
 rw [fn_go (KX _ _ _) fn108 rfl (by simp [c108])]
 have hpos:(1:Int)≤(r.length:Int)+1:=by omega
 have tk:(r.map iV).take r.length=r.map iV:=List.take_of_length_le (by simp)
 cases e:r.any (fun y=>sgB 0 (cmpVl u (g y))) with
 | false=>
  have e':r.all (fun y=>!(sgB 0 (cmpVl u (g y))))=true:=by
   rw [List.all_eq_true];intro y hy;simpa using List.any_eq_false.1 e y hy
  rw [(iter_all (fun y=>!(sgB 0 (cmpVl u (g y)))) r).1 e'] at key
  obtain ⟨_,env,k⟩:=key
  simp [c108,KL,lendF,ha,hget,ne,ne2,hin,h0,bk,k1,hkk,-List.map_take,tk,k,view_vl,refOk_vl,hpos,tk]
 | true=>
  have e':r.all (fun y=>!(sgB 0 (cmpVl u (g y))))=false:=by
   rw [List.all_eq_false]
   obtain ⟨y,hy,h⟩:=List.any_eq_true.1 e
   exact ⟨y,hy,by simp [h]⟩
  rw [(iter_all (fun y=>!(sgB 0 (cmpVl u (g y)))) r).2 e'] at key
  obtain ⟨env,R,k,g4⟩:=key
  simp [c108,KL,lendF,ha,hget,ne,ne2,hin,h0,bk,k1,hkk,-List.map_take,tk,k,g4,view_vl,refOk_vl,hpos,tk]
end
end Go.Ab.Pz
