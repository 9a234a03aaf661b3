/-
  The references of a policy: the evaluator knows them.
-/
import Derived.Test.YtfpmflgjbpnkjaaGreatDoorAb4dR4
import Derived.Test.YtfpmflgjbpnkjaaGreatDoorAbUse
import Derived.Test.YtfpmflgjbpnkjaaGreatDoorAbTop
set_option linter.unusedVariables false
set_option linter.unusedSimpArgs false
namespace Go.Ab.Pn
open Go.Ab Go.Ab.Pol Go.Proofs Go.RowKit
theorem calls_known {P:Program} {O:Orc} (hs:FnSound P O) {f:FuncId} {avs:List AV} {v:AV} (he:O.fn f avs []=some (.val v [])) (hp:AV.refOks (fun _=>false) avs=true) {w:World} {G:Gm} {L:Loc→Prop} {xs:Array Value}
  (hi:∀ b o,G.imm b o→b < w.heap.size) (hr:ArgsRel w G L avs xs) {W:World} (hB:Below w.heap.size w W) :
  Calls P f xs W fun e W'=>∃ x,e=.returned x∧Below W.heap.size W W'∧∃ G' L',VRel W' G' L' v x:=by
 have hI:ImmKept w G W (G0 W):=fun b o hb=>⟨Nat.lt_of_lt_of_le (hi b o hb) hB.size,hB.cell (p:=⟨b,o,none⟩) (hi b o hb)⟩
 have h0:ArgsRel W (G0 W) (dom []) avs xs:=⟨hr.1,fun i hlt=>(hr.2 i hlt).goes hI (p:=fun _=>false) (refOks_get hp i hlt) fun _ _ e=>by cases e⟩
 refine ((hs f avs [] _ he).2 W (G0 W) xs (sim0 W) h0).mono fun e W' h=>?_
 obtain ⟨G',h1,h2,x,h3,h4⟩:=h
 exact ⟨x,h3,⟨h2.os,h2.tape,h2.output,h2.size,fun k hk=>h2.heap k hk fun hh=>hh.elim (fun ⟨a,ha,_⟩=>by simp [dom,hget] at ha) fun e=>e rfl⟩,G',_,h4⟩
theorem kids_of {w:World} {G:Gm} {L:Loc→Prop} {k:Sl Int} {y:Value} (h:VRel w G L (k.avS iV) y):∃ ka kc,y=.slice ka k.l.length kc ∧
  (k.l≠[]→∃ kb ko:Nat,ka=some ⟨kb,ko,none⟩∧(∀ m x,k.l[m]?=some x→w.cell? ⟨kb,ko+m,none⟩=some (.int .i64 x)∧G.imm kb (ko+m))):=by
 obtain ⟨nl,l⟩:=k
 cases l with
 | nil=>
  cases nl with
  | true=>cases h;exact ⟨_,_,rfl,fun e=>absurd rfl e⟩
  | false=>cases h<;>exact ⟨_,_,rfl,fun e=>absurd rfl e⟩
 | cons a l=>
  simp only [Sl.avS,List.map_cons,lv_cons] at h
  generalize he:iV a :: l.map iV=es at h
  cases h with
  | lst0 _ a c=>cases he
  | lst _ _ b off c sz vf hle hs hc hv=>
   have hes:es=(a :: l).map iV:=by rw [←he];rfl
   have hlen:es.length=(a :: l).length:=by rw [hes,List.length_map]
   refine ⟨_,_,by rw [←hlen],fun _=>⟨b,off,rfl,fun m x hm=>?_⟩⟩
   have hlt:m < es.length:=by rw [hlen];exact (List.getElem?_eq_some_iff.1 hm).1
   have hg:es.getD m .top=iV x:=by
    have:((a :: l).map iV)[m]?=some (iV x):=by rw [List.getElem?_map,hm];rfl
    rw [List.getD_eq_getElem?_getD,hes,this];rfl
   have h1:=hs m hlt
   rw [hg] at h1
   have h1:sz=1:=by simpa using h1.symm
   subst h1
   obtain ⟨c1,c2,_⟩:=hc m 0 hlt (by decide)
   have hr:=hv m 0 hlt (by decide)
   rw [hg] at hr
   simp only [Nat.mul_one,Nat.add_zero] at c1 c2
   have:=int_shape (show VRel w G NoLoc (.int .i64 x) (vf m 0) from hr)
   rw [c1,this]
   exact ⟨rfl,c2⟩
mutual
theorem at_of {n₀:Nat} {W:World} {nb no nl:Nat} {ns:List Nd} (hb:nb < n₀) (H:∀ i x,ns[i]?=some x→i < nl∧x.kids.l.length < 1000∧∃ (ka:Option Addr) (kc:Nat),W.cell? ⟨nb,no+i * 6+4,none⟩=some (.slice ka x.kids.l.length kc) ∧
  (x.kids.l≠[]→∃ kb ko:Nat,ka=some ⟨kb,ko,none⟩∧kb < n₀∧∀ m k,x.kids.l[m]?=some k→W.cell? ⟨kb,ko+m,none⟩=some (.int .i64 k))):∀ t:Tr,IsT ns t→Rfs.At n₀ W nb no nl t
 | .nd i n ks,h=>by
  obtain ⟨a1,a2,a3⟩:=h
  obtain ⟨h1,h2,ka,kc,h3,h4⟩:=H i n a1
  have hl:n.kids.l.length=ks.length:=by rw [a2,List.length_map]
  refine ⟨hb,h1,by omega,⟨ka,kc,by rw [h3,hl],fun hne=>?_⟩,ats_of hb H ks a3⟩
  obtain ⟨kb,ko,e1,e2,e3⟩:=h4 (by rw [a2];simpa using hne)
  exact ⟨kb,ko,e1,e2,fun m k hk=>e3 m _ (by rw [a2,List.getElem?_map,hk];rfl)⟩
theorem ats_of {n₀:Nat} {W:World} {nb no nl:Nat} {ns:List Nd} (hb:nb < n₀) (H:∀ i x,ns[i]?=some x→i < nl∧x.kids.l.length < 1000∧∃ (ka:Option Addr) (kc:Nat),W.cell? ⟨nb,no+i * 6+4,none⟩=some (.slice ka x.kids.l.length kc) ∧
  (x.kids.l≠[]→∃ kb ko:Nat,ka=some ⟨kb,ko,none⟩∧kb < n₀∧∀ m k,x.kids.l[m]?=some k→W.cell? ⟨kb,ko+m,none⟩=some (.int .i64 k))):∀ ts:List Tr,IsTs ns ts→Rfs.Ats n₀ W nb no nl ts
 | [],_=>trivial
 | t :: ts,h=>⟨at_of hb H t h.1,ats_of hb H ts h.2⟩
end
theorem flat_refs {w:World} {G:Gm} (l:List Rf):Flat w G 2 (l.map Rf.av) (Rfs.cells l):=by
 have hg:∀ (l:List Rf) (i j:Nat),i < l.length→j < 2→(Rfs.cells l).getD (i * 2+j) undef=[Rfs.str (l.getD i ⟨[],[]⟩).al,Rfs.str (l.getD i ⟨[],[]⟩).attr].getD j undef:=by
  intro l
  induction l with
  | nil=>intro i j hi;simp at hi
  | cons r l ih=>
   intro i j hi hj
   cases i with
   | zero=>
    match j,hj with
    | 0,_=>rfl
    | 1,_=>rfl
   | succ i=>
    have:=ih i j (by simpa using hi) hj
    have e:(i+1) * 2+j=(i * 2+j)+1+1:=by omega
    rw [e]
    simpa [Rfs.cells] using this
 have hlen:(Rfs.cells l).length=l.length * 2:=by
  induction l with
  | nil=>rfl
  | cons r l ih=>simp [Rfs.cells] at ih ⊢;omega
 refine ⟨by rw [List.length_map,hlen],fun u hu=>?_,fun i hi=>?_,fun i j hi hj=>?_⟩
 ·simp only [Rfs.cells,List.mem_flatMap,List.mem_cons,List.not_mem_nil,or_false] at hu
  obtain ⟨r,_,rfl | rfl⟩:=hu<;>rfl
 ·rw [List.length_map] at hi
  simp [List.getD_eq_getElem?_getD,hi]
 ·rw [List.length_map] at hi
  rw [hg l i j hi hj]
  have e:(l.map Rf.av).getD i .top=(l.getD i ⟨[],[]⟩).av:=by simp [List.getD_eq_getElem?_getD,hi]
  rw [e]
  match j,hj with
  | 0,_=>exact .str _ _
  | 1,_=>exact .str _ _
theorem row_rel {W:World} {base n:Nat} {v:Value} {l:List Rf} (hl:n=l.length) (h:W.ownsRow base 54 2 v n (Rfs.cells l)):VRel W (G0 W) NoLoc (.lst (l.map Rf.av)) v:=by
 subst hl
 have hf:=flat_refs (w:=W) (G:=G0 W) l
 rcases h.2 with ⟨rfl,h0⟩ | ⟨g,cap,cur,rfl,_,hg,hle,_,hcs,htk⟩
 ·have:l=[]:=List.eq_nil_of_length_eq_zero h0
  subst this
  exact .lst0 _ _ _
 ·have hlt:g < W.heap.size:=(Array.getElem?_eq_some_iff.1 hg).1
  have h2:=VRel.lst (w:=W) (G:=G0 W) NoLoc (l.map Rf.av) g 0 cap 2 (fun i j=>cur.getD (i * 2+j) undef) (by rw [List.length_map];exact hle) (fun i hi=>hf.sized i hi) (fun i j hi hj=>?_) fun i j hi hj=>((hf.arr (c:=cur) (by rw [List.length_map];exact htk) i hi).2 j hj).2
  ·rw [List.length_map] at h2
   exact h2
  ·rw [Nat.zero_add]
   refine ⟨cells_get hg ?_,hlt,((hf.arr (c:=cur) (by rw [List.length_map];exact htk) i hi).2 j hj).1⟩
   rw [hcs]
   rw [List.length_map] at hi
   exact Nat.lt_of_lt_of_le (idx_lt hi hj) (Nat.mul_le_mul_right _ hle)
set_option maxHeartbeats 1000000 in
theorem refs_calls (p:Po) (hp:Sz p) (t:Tr) (g:Pol.Good p t) {h:Heap} (w:World) (G:Gm) (xs:Array Value) (s:Sim w G h) (ha:ArgsRel w G (dom h) [p.av] xs) :
  Calls Tryz.prog 16 xs w (EndRel w G h (.val (.lst ((refsP p t).map Rf.av)) h)):=by
 have ha0:=ha
 obtain ⟨h1,h2⟩:=ha
 obtain ⟨xs⟩:=xs
 match xs,h1 with
 | [x],_=>
  have k0:VRel w G (dom h) p.av x:=by simpa using h2 0 (by simp)
  obtain ⟨vs,rfl,e1,e2,e3⟩:=agg_shape k0
  obtain ⟨vs⟩:=vs
  match vs,e1 with
  | [v0,v1,v2,v3,v4,v5,v6,v7],_=>
   have r3:VRel w G (dom h) (p.nodes.avS Nd.av) v3:=by simpa using e3 3 (by simp)
   have r4:VRel w G (dom h) (iV p.root) v4:=by simpa using e3 4 (by simp)
   have hv4:v4=.int .i64 (t.i:Int):=by rw [int_shape r4,g.root]
   subst hv4
   have hne:p.nodes.l.map Nd.av≠[]:=fun e=>by
    have h0:=node_of g.isT
    have:p.nodes.l=[]:=by simpa using e
    rw [this] at h0
    simp at h0
   rw [Sl.avS,lv_lst _ hne] at r3
   generalize hes:p.nodes.l.map Nd.av=es at r3
   have hlen:es.length=p.nodes.l.length:=by rw [←hes,List.length_map]
   cases r3 with
   | lst0 _ a c=>exact absurd hes hne
   | lst _ _ b off c sz vf hle hs hc hv=>
    have hget:∀ i x,p.nodes.l[i]?=some x→i < es.length∧es.getD i .top=x.av:=fun i x hx=>by
     have:=(List.getElem?_eq_some_iff.1 hx).1
     exact ⟨by omega,by rw [←hes];simp [List.getD_eq_getElem?_getD,hx]⟩
    have hroot:=hget _ _ (node_of g.isT).1
    have hsz:sz=6:=by
     have:=hs _ hroot.1
     rw [hroot.2] at this
     simpa using this.symm
    subst hsz
    have hbw:b < w.heap.size:=s.imm _ _ (hc _ 0 hroot.1 (by decide)).2.1
    have hcell:∀ i x,p.nodes.l[i]?=some x→∀ j,j < 6→w.cell? ⟨b,off+i * 6+j,none⟩=some (vf i j)∧VRel w G NoLoc (x.cs.getD j .top) (vf i j):=fun i x hx j hj=>by
     obtain ⟨q1,q2⟩:=hget i x hx
     refine ⟨(hc i j q1 hj).1,?_⟩
     have:=hv i j q1 hj
     rw [q2] at this
     exact this
    have hpre:t.pre.length≤512:=by rw [g.all];exact g.sizes.1
    have hat:Rfs.At w.heap.size w b off es.length t:=at_of hbw (fun i x hx=>by
     have hx':=List.mem_of_getElem? hx
     obtain ⟨c1,c2⟩:=hcell i x hx 4 (by decide)
     obtain ⟨ka,kc,e4,e5⟩:=kids_of (k:=x.kids) c2
     rw [e4] at c1
     have hkl:x.kids.l.length < 1000:=by
      obtain ⟨u,hu,hui⟩:=sub_at g (List.getElem?_eq_some_iff.1 hx).1
      have h0:=node_of (subs_isT g.isT u hu)
      rw [hui,hx] at h0
      obtain ⟨e6,e7⟩:=h0
      injection e6 with e6
      rw [e6,e7,List.length_map]
      have h8:=(subs_pre u hu).length_le
      have h9:u.ks.length≤u.pre.length:=by
       obtain ⟨i,n,ks⟩:=u
       have:∀ ks:List Tr,ks.length≤(Tr.pres ks).length:=fun ks=>by
        induction ks with
        | nil=>simp
        | cons k ks ih=>
         have:1≤k.pre.length:=by cases k;simp [Tr.pre]
         simp only [Tr.pres,List.length_append,List.length_cons]
         omega
       have:=this ks
       simp only [Tr.ks,Tr.pre,List.length_cons]
       omega
      omega
     refine ⟨(hget i x hx).1,hkl,ka,kc,c1,fun hk=>?_⟩
     obtain ⟨kb,ko,q1,q2⟩:=e5 hk
     refine ⟨kb,ko,q1,?_,fun m k hm=>(q2 m k hm).1⟩
     cases hl:x.kids.l with
     | nil=>exact absurd hl hk
     | cons a r=>exact s.imm _ _ (q2 0 a (by rw [hl];rfl)).2) t g.isT
    have c51:∀ (m:Nat) (W:World),Below w.heap.size w W→CallsIn Fence.wide m Tryz.prog 51 #[.agg #[v0,v1,v2,.slice (some ⟨b,off,none⟩) es.length c,.int .i64 (t.i:Int),v5,v6,v7]] W (Rfs.okC W (.int .i64 0)):=fun m W hB=>by
     refine callsIn_wide.2 ((calls_known sound (f51 p hp []) (by simp [AV.refOk,AV.refOks]) s.imm ha0 hB).mono ?_)
     rintro e W' ⟨x,rfl,hb2,G',L',hx⟩
     rw [good_chk g] at hx
     exact ⟨by rw [int_shape hx],hb2⟩
    have c53:∀ (m:Nat) (W:World) (v:Value) (l:List Rf) (r:Rf),l.length≤1000→W.ownsRow w.heap.size 54 2 v l.length (Rfs.cells l) →
      CallsIn Fence.wide m Tryz.prog 53 #[v,.agg #[Rfs.str r.al,Rfs.str r.attr]] W (Rfs.okC W (.bool (decide (r∈l)))):=fun m W v l r hl hrow=>by
     have hrv:VRel W (G0 W) NoLoc r.av (.agg #[Rfs.str r.al,Rfs.str r.attr]):=by
      refine .agg _ _ _ rfl (fun i hi=>?_) fun i hi=>?_
      ·match i,hi with
       | 0,_=>rfl
       | 1,_=>rfl
      ·match i,hi with
       | 0,_=>exact .str _ _
       | 1,_=>exact .str _ _
     have hargs:ArgsRel W (G0 W) NoLoc [.lst (l.map Rf.av),r.av] #[v,.agg #[Rfs.str r.al,Rfs.str r.attr]]:=by
      refine ⟨rfl,fun i hi=>?_⟩
      match i,hi with
      | 0,_=>exact row_rel rfl hrow
      | 1,_=>exact hrv
     have hf:=f53 false l r (by omega) []
     rw [lv_false] at hf
     refine callsIn_wide.2 ((calls_known sound hf (by simp [AV.refOk,AV.refOks]) (fun _ _ h=>h) hargs (Below.refl _ W)).mono ?_)
     rintro e W' ⟨x,rfl,hb2,G',L',hx⟩
     exact ⟨by rw [bool_shape hx],hb2⟩
    have main:=Rfs.refs_in Fence.wide rfl rfl trivial trivial trivial trivial trivial trivial 3 (by decide) w v0 v1 v2 v5 v6 v7 b off es.length c t c51 hat p.nodes.l hlen.symm (by rw [hlen];exact g.sizes.1) hpre hbw (fun i x hx=>by
     have q:=hcell i x hx
     obtain ⟨ka,kc,e4,_⟩:=kids_of (k:=x.kids) (q 4 (by decide)).2
     refine ⟨ka,x.kids.l.length,kc,?_⟩
     have i0:=int_shape (show VRel w G NoLoc (.int .i64 x.k) (vf i 0) from (q 0 (by decide)).2)
     have i1:=int_shape (show VRel w G NoLoc (.int .i64 x.num) (vf i 1) from (q 1 (by decide)).2)
     have i2:=str_shape (show VRel w G NoLoc (.str x.nm) (vf i 2) from (q 2 (by decide)).2)
     have i3:=str_shape (show VRel w G NoLoc (.str x.attr) (vf i 3) from (q 3 (by decide)).2)
     have i5:=int_shape (show VRel w G NoLoc (.int .i64 x.pos) (vf i 5) from (q 5 (by decide)).2)
     exact ⟨by rw [←i0];exact (q 0 (by decide)).1,by rw [←i1];exact (q 1 (by decide)).1,by rw [(q 2 (by decide)).1,i2];rfl,by rw [(q 3 (by decide)).1,i3];rfl,by rw [←e4];exact (q 4 (by decide)).1,by rw [←i5];exact (q 5 (by decide)).1⟩) c53
    refine (callsIn_wide.1 main).mono ?_
    rintro e W' ⟨v,rfl,hB,hrow⟩
    have hbk:∀ k,k < w.heap.size→W'.heap[k]?=w.heap[k]?:=hB.block
    rcases hrow.2 with ⟨hv0,hn0⟩ | ⟨gr,cap,cur,hv1,hge,hgr,hle2,_,hcs,htk⟩
    ·have hnil:refsP p t=[]:=List.eq_nil_of_length_eq_zero hn0
     subst hv0
     refine ⟨G,s.world hB.size hbk,Goes.world s hB.os hB.tape hB.output hB.size hbk,_,rfl,?_⟩
     rw [hnil]
     exact .lst0 _ _ _
    ·subst hv1
     have hgl:gr < W'.heap.size:=(Array.getElem?_eq_some_iff.1 hgr).1
     obtain ⟨G',q1,q2,q3⟩:=imm_row (w':=W') s hB.os hB.tape hB.output hge hgl hB.size hbk (flat_refs (w:=w) (G:=G) (refsP p t)) (fun j u hj=>by
      have hjl:=(List.getElem?_eq_some_iff.1 hj).1
      rw [cell_of_row W' gr j cur 54 (0,0) hgr]
      have h9:cur.toList.take ((refsP p t).length * 2)=Rfs.cells (refsP p t):=htk
      have this:(Rfs.cells (refsP p t))[j]?=cur.toList[j]?:=by
       rw [←h9] at hjl ⊢
       rw [List.getElem?_take_of_lt]
       simp at hjl
       omega
      rw [this] at hj
      simpa using hj) (cap:=cap) (by rw [List.length_map];exact hle2)
     rw [List.length_map] at q3
     exact ⟨G',q1,q2,_,rfl,q3 _⟩
end Go.Ab.Pn
