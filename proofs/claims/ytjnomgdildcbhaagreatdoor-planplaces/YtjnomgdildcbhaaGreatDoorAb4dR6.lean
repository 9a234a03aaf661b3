/-
  From the form's reading to the evaluator and back: the start, what holds behind a call that the evaluator knows.
-/
import Derived.Test.YtjnomgdildcbhaaGreatDoorAbSem
import Derived.RowKit
import Derived.RowKit2
import Derived.ChangeShapes
import Derived.ChangeArms
import Derived.ChangeSame
import Derived.ChangeAlike
import Derived.DataReads
import Derived.Below
import Derived.SizedLaws
import Derived.WideShapes
import Derived.WideKeyArgs
import GoSem.ClaimJoined
import Derived.Test.YtjnomgdildcbhaaGreatDoorAb4dR4
import Derived.Test.YtjnomgdildcbhaaGreatDoorAb4dP13
import Derived.Test.YtjnomgdildcbhaaGreatDoorAbNf5
import Derived.Test.YtjnomgdildcbhaaGreatDoorAb4dP8
set_option linter.unusedVariables false
set_option linter.unusedSimpArgs false
namespace Go.Ab
open Go.RowKit Go.WideShapes Go.ChangeShapes
def G0 (w:World):Gm:={ blk:=fun _=>none,len:=fun _=>none,cap:=fun _=>0,imm:=fun b _=>b < w.heap.size }
theorem U2 (w:World):Sim w (G0 w) [] where
 blk a B e:=by simp [hget] at e
 inj a a' b h:=by simp [dom,hget] at h
 imm b o h:=h
 prv b x h:=by cases h
theorem FB {α:Type} {Q:Nat->α->Prop}:∀ n:Nat,(∀ i,i < n->∃ a,Q i a)->∃ l:List α,l.length=n∧∀ i a,l[i]?=some a->Q i a
 | 0,_=>⟨[],rfl,fun i a h=>by simp at h⟩
 | n+1,h=>by
  obtain ⟨l,h1,h2⟩:=FB n fun i hi=>h i (by omega)
  obtain ⟨a,ha⟩:=h n (by omega)
  refine ⟨l++[a],by simp [h1],fun i b hb=>?_⟩
  by_cases hi:i < l.length
  ·rw [List.getElem?_append_left hi] at hb;exact h2 i b hb
  ·have:i=n:=by
    have:=(List.getElem?_eq_some_iff.1 hb).1
    simp at this;omega
   subst this
   rw [<-h1] at hb
   simp at hb
   subst hb
   exact ha
theorem wJ {w:World} {a:Addr} {v:Value} (h:w.cell? a=some v):a.spot=none∧a.block < w.heap.size:=by
 unfold World.cell? at h
 split at h
 ·rename_i c t fr hb
  split at h
  ·cases h
  ·rename_i hs
   exact ⟨by simpa using hs,(Array.getElem?_eq_some_iff.1 hb).1⟩
 ·cases h
theorem Ez {P:Program} {O:Orc} (hs:bP P O) {f:FuncId} {avs:List AV} (he:O.fn f avs []=some (.val (.bool true) [])) {W:World} {args:Array Value}
  (hr:bz W (G0 W) bf avs args):Calls P f args W fun e W'=>e=.returned (.bool true)∧Below W.heap.size W W':=by
 have h0:bz W (G0 W) (dom []) avs args:=⟨hr.1,fun i hi=>(hr.2 i hi).mono (aM.refl _ _) fun _ h=>h.elim⟩
 refine ((hs f avs [] _ he).2 W (G0 W) args (U2 W) h0).mono fun e W' h=>?_
 obtain ⟨G',h1,h2,x,h3,h4⟩:=h
 cases h4
 exact ⟨h3,h2.os,h2.tape,h2.output,h2.size,fun k hk=>h2.heap k hk fun hh=>hh.elim (fun ⟨a,ha,_⟩=>by simp [dom,hget] at ha) fun e=>e rfl⟩
section
variable {H:Type} {enc:TypeId×Value->H} {P:Program}
theorem zF {f:Func} {s:ChangeSpec} {apart fresh handsOn again:Bool} {W W':World} {args:Array Value} {v:Value} {ds gs:List (DataW H)} {before pa pv:List MemPlace}
  (hW:DataW.Whole enc P f.params.toList s.vars apart W args.toList ds gs before)
  (hres:∀ (b:Nat) (sp:Nat->Bool) (hd:Bool),DataW.TrodAll enc P W' b sp hd f.resultTypes.toList (v.resultList f.resultTypes.size) (s.fn H (ds++gs)).results [])
  (hargs:∀ sp:Nat->Bool,(∀ p∈before,sp p.block=true)->DataW.TrodAll enc P W' 0 sp true f.params.toList args.toList (s.fn H (ds++gs)).args pa)
  (hvars:∀ sp:Nat->Bool,(∀ p∈before,sp p.block=true)->DataW.TrodVars enc P W' sp s.vars (s.fn H (ds++gs)).vars pv)
  (hps:before=pa++pv) (hb:Below W.heap.size W W')
  (hok:∀ (j:Nat) (t:TypeId) (r:Value),f.resultTypes[j]?=some t->(v.resultList f.resultTypes.size)[j]?=some r->Value.okWide P W' .any 0 t r) :
  s.post enc P f apart fresh handsOn again W args v W':=by
 have hlt:∀ p∈before,p.block < W.heap.size:=fun p hp=>hW.lt p hp
 have hold:∀ p∈before,(fun b=>decide (b < W.heap.size)) p.block=true:=fun p hp=>by simpa using hlt p hp
 refine ⟨ds,gs,before,[],pa,pv,hW,hres _ _ _,hargs _ hold,hvars _ hold,World.keptBut_mono (fun p hp=>⟨hp,?_⟩) (hb.frame (·∈before)),fun _=>?_⟩
 ·rw [hps,List.mem_append] at hp
  exact Or.inr hp
 ·obtain ⟨_,_,_,_,_,hz,hn⟩:=hW
  refine ⟨hok,_,_,([]++pa)++pv,⟨[]++pa,pv,trodAll_append (hargs _ (fun _ _=>rfl)) (hres _ _ _),hvars _ (fun _ _=>rfl),rfl,?_,?_⟩,?_⟩
  ·intro b off hp
   have hin:MemPlace.cell b off∈before:=by rw [hps];simpa using hp
   rw [hb.frozen (hlt _ hin)]
   exact hz b off hin
  ·intro ha
   have:=hn ha
   rw [hps] at this
   simpa using this
  ·intro p hp _
   rw [hps]
   simpa using hp
theorem oD (hl:laidOutB P=true) {base:Nat} {W W':World} {sp':Nat->Bool}:∀ {ts:List TypeId} {vs:List Value} {ds:List (DataW H)} {ps:List MemPlace},
  (∀ t∈ts,P.readableRec t=true∧t < P.types.size)->DataW.TrodAll enc P W base (fun _=>true) true ts vs ds ps->(∀ p∈ps,W.sameAt W' p)->(∀ p∈ps,sp' p.block=true)->DataW.TrodAll enc P W' base sp' true ts vs ds ps
 | [],[],[],_,_,h,_,_=>h
 | t :: _,_ :: _,_ :: _,_,hT,⟨p,q,h1,h2,e⟩,hs,hb=>
  ⟨p,q,WideElems.Trod_stays hl (hT t (by simp)).1 (hT t (by simp)).2 h1 (fun x hx=>hs x (by rw [e];exact List.mem_append_left _ hx)) (fun x hx=>hb x (by rw [e];exact List.mem_append_left _ hx)),
   oD hl (fun t ht=>hT t (List.mem_cons.2 (Or.inr ht))) h2 (fun x hx=>hs x (by rw [e];exact List.mem_append_right _ hx)) (fun x hx=>hb x (by rw [e];exact List.mem_append_right _ hx)),e⟩
theorem HA {O:Orc} (hs:bP P O) {f:FuncId} {fn:Func} {s:ChangeSpec} {apart fresh handsOn again:Bool} (hl:laidOutB P=true) (hp:∀ t∈fn.params.toList,P.readableRec t=true∧t < P.types.size)
  {tb:TypeId} (ht:P.underlying tb=some .bool) (hres:fn.resultTypes=#[tb]) (hvars:s.vars=[]) {W:World} {args:Array Value} {ds gs:List (DataW H)} {before:List MemPlace}
  (hW:DataW.Whole enc P fn.params.toList s.vars apart W args.toList ds gs before)
  (hspec:s.fn H (ds++gs)={ results:=[.lit (.bool true)],args:=ds })
  {avs:List AV} (he:O.fn f avs []=some (.val (.bool true) [])) (hr:bz W (G0 W) bf avs args) :
  Calls P f args W fun e W'=>∃ v,e=.returned v∧s.post enc P fn apart fresh handsOn again W args v W':=by
 refine (Ez hs he hr).mono fun e W' ⟨h1,h2⟩=>⟨_,h1,?_⟩
 have hlt:∀ p∈before,p.block < W.heap.size:=fun p hp=>hW.lt p hp
 have hW':=hW
 obtain ⟨p,q,hA,hV,e1,_,_⟩:=hW
 rw [hvars] at hV
 obtain ⟨rfl,rfl⟩:=trodVars_none hV
 simp only [List.append_nil] at e1
 subst e1
 refine zF (pa:=before) (pv:=[]) hW' (fun b sp hd=>?_) (fun sp hsp=>?_) (fun sp hsp=>?_) (by simp) h2 (ok_one hres (by simp [Value.resultList]) (okWide_bool_mk ht true))
 ·rw [hspec,hres]
  exact trodAll_mk1 (shut_bool ht true)
 ·rw [hspec]
  exact oD hl hp hA (fun p hp=>h2.same (hlt p hp)) hsp
 ·rw [hspec,hvars]
  rfl
end
end Go.Ab
/-
  The references of a policy: the evaluator knows them.
-/
namespace Go.Ab.Pn
open Go.Ab Go.Ab.Pol Go.Proofs Go.RowKit
theorem uq {P:Program} {O:Orc} (hs:bP P O) {f:FuncId} {avs:List AV} {v:AV} (he:O.fn f avs []=some (.val v [])) (hp:AV.bH (fun _=>false) avs=true) {w:World} {G:Gm} {L:Loc->Prop} {xs:Array Value}
  (hi:∀ b o,G.imm b o->b < w.heap.size) (hr:bz w G L avs xs) {W:World} (hB:Below w.heap.size w W) :
  Calls P f xs W fun e W'=>∃ x,e=.returned x∧Below W.heap.size W W'∧∃ G' L',az W' G' L' v x:=by
 have hI:aM w G W (G0 W):=fun b o hb=>⟨Nat.lt_of_lt_of_le (hi b o hb) hB.size,hB.cell (p:=⟨b,o,none⟩) (hi b o hb)⟩
 have h0:bz W (G0 W) (dom []) avs xs:=⟨hr.1,fun i hlt=>(hr.2 i hlt).goes hI (p:=fun _=>false) (dK hp i hlt) fun _ _ e=>by cases e⟩
 refine ((hs f avs [] _ he).2 W (G0 W) xs (U2 W) h0).mono fun e W' h=>?_
 obtain ⟨G',h1,h2,x,h3,h4⟩:=h
 exact ⟨x,h3,⟨h2.os,h2.tape,h2.output,h2.size,fun k hk=>h2.heap k hk fun hh=>hh.elim (fun ⟨a,ha,_⟩=>by simp [dom,hget] at ha) fun e=>e rfl⟩,G',_,h4⟩
theorem FP {w:World} {G:Gm} {L:Loc->Prop} {k:Sl Int} {y:Value} (h:az w G L (k.avS iV) y):∃ ka kc,y=.slice ka k.l.length kc ∧
  (k.l≠[]->∃ kb ko:Nat,ka=some ⟨kb,ko,none⟩∧(∀ m x,k.l[m]?=some x->w.cell? ⟨kb,ko+m,none⟩=some (.int .i64 x)∧G.imm kb (ko+m))):=by
 obtain ⟨nl,l⟩:=k
 cases l with
 | nil=>
  cases nl with
  | true=>cases h;exact ⟨_,_,rfl,fun e=>absurd rfl e⟩
  | false=>cases h<;>exact ⟨_,_,rfl,fun e=>absurd rfl e⟩
 | cons a l=>
  simp only [Sl.avS,List.map_cons,MP] at h
  generalize he:iV a :: l.map iV=es at h
  cases h with
  | jE _ a c=>cases he
  | lst _ _ b off c sz vf hle hs hc hv=>
   have hes:es=(a :: l).map iV:=by rw [<-he];rfl
   have hlen:es.length=(a :: l).length:=by rw [hes,List.length_map]
   refine ⟨_,_,by rw [<-hlen],fun _=>⟨b,off,rfl,fun m x hm=>?_⟩⟩
   have hlt:m < es.length:=by rw [hlen];exact (List.getElem?_eq_some_iff.1 hm).1
   have hg:es.getD m .top=iV x:=by
    have:((a :: l).map iV)[m]?=some (iV x):=by rw [List.getElem?_map,hm];rfl
    rw [List.getD_eq_getElem?_getD,hes,this];rfl
   have h1:=hs m hlt
   rw [hg] at h1
   have h1:sz=1:=by simpa using h1.symm
   subst h1
   obtain ⟨c1,c2,_⟩:=hc m 0 hlt (by decide)
   have hr:=hv m 0 hlt (by decide)
   rw [hg] at hr
   simp only [Nat.mul_one,Nat.add_zero] at c1 c2
   have:=aK (show az w G bf (.int .i64 x) (vf m 0) from hr)
   rw [c1,this]
   exact ⟨rfl,c2⟩
mutual
theorem N9 {n₀:Nat} {W:World} {nb no nl:Nat} {ns:List Nd} (hb:nb < n₀) (H:∀ i x,ns[i]?=some x->i < nl∧x.kids.l.length < 1000∧∃ (ka:Option Addr) (kc:Nat),W.cell? ⟨nb,no+i * 6+4,none⟩=some (.slice ka x.kids.l.length kc) ∧
  (x.kids.l≠[]->∃ kb ko:Nat,ka=some ⟨kb,ko,none⟩∧kb < n₀∧∀ m k,x.kids.l[m]?=some k->W.cell? ⟨kb,ko+m,none⟩=some (.int .i64 k))):∀ t:Tr,IsT ns t->Rfs.At n₀ W nb no nl t
 | .nd i n ks,h=>by
  obtain ⟨a1,a2,a3⟩:=h
  obtain ⟨h1,h2,ka,kc,h3,h4⟩:=H i n a1
  have hl:n.kids.l.length=ks.length:=by rw [a2,List.length_map]
  refine ⟨hb,h1,by omega,⟨ka,kc,by rw [h3,hl],fun hne=>?_⟩,JJ hb H ks a3⟩
  obtain ⟨kb,ko,e1,e2,e3⟩:=h4 (by rw [a2];simpa using hne)
  exact ⟨kb,ko,e1,e2,fun m k hk=>e3 m _ (by rw [a2,List.getElem?_map,hk];rfl)⟩
theorem JJ {n₀:Nat} {W:World} {nb no nl:Nat} {ns:List Nd} (hb:nb < n₀) (H:∀ i x,ns[i]?=some x->i < nl∧x.kids.l.length < 1000∧∃ (ka:Option Addr) (kc:Nat),W.cell? ⟨nb,no+i * 6+4,none⟩=some (.slice ka x.kids.l.length kc) ∧
  (x.kids.l≠[]->∃ kb ko:Nat,ka=some ⟨kb,ko,none⟩∧kb < n₀∧∀ m k,x.kids.l[m]?=some k->W.cell? ⟨kb,ko+m,none⟩=some (.int .i64 k))):∀ ts:List Tr,lC ns ts->Rfs.Ats n₀ W nb no nl ts
 | [],_=>trivial
 | t :: ts,h=>⟨N9 hb H t h.1,JJ hb H ts h.2⟩
end
theorem Ar {w:World} {G:Gm} (l:List Rf):Flat w G 2 (l.map Rf.av) (Rfs.cells l):=by
 have hg:∀ (l:List Rf) (i j:Nat),i < l.length->j < 2->(Rfs.cells l).getD (i * 2+j) undef=[Rfs.str (l.getD i ⟨[],[]⟩).al,Rfs.str (l.getD i ⟨[],[]⟩).attr].getD j undef:=by
  intro l
  induction l with
  | nil=>intro i j hi;simp at hi
  | cons r l ih=>
   intro i j hi hj
   cases i with
   | zero=>
    match j,hj with
    | 0,_=>rfl
    | 1,_=>rfl
   | succ i=>
    have:=ih i j (by simpa using hi) hj
    have e:(i+1) * 2+j=(i * 2+j)+1+1:=by omega
    rw [e]
    simpa [Rfs.cells] using this
 have hlen:(Rfs.cells l).length=l.length * 2:=by
  induction l with
  | nil=>rfl
  | cons r l ih=>simp [Rfs.cells] at ih ⊢;omega
 refine ⟨by rw [List.length_map,hlen],fun u hu=>?_,fun i hi=>?_,fun i j hi hj=>?_⟩
 ·simp only [Rfs.cells,List.mem_flatMap,List.mem_cons,List.not_mem_nil,or_false] at hu
  obtain ⟨r,_,rfl | rfl⟩:=hu<;>rfl
 ·rw [List.length_map] at hi
  simp [List.getD_eq_getElem?_getD,hi]
 ·rw [List.length_map] at hi
  rw [hg l i j hi hj]
  have e:(l.map Rf.av).getD i .top=(l.getD i ⟨[],[]⟩).av:=by simp [List.getD_eq_getElem?_getD,hi]
  rw [e]
  match j,hj with
  | 0,_=>exact .str _ _
  | 1,_=>exact .str _ _
theorem MQ {W:World} {base n:Nat} {v:Value} {l:List Rf} (hl:n=l.length) (h:W.ownsRow base 54 2 v n (Rfs.cells l)):az W (G0 W) bf (.lst (l.map Rf.av)) v:=by
 subst hl
 have hf:=Ar (w:=W) (G:=G0 W) l
 rcases h.2 with ⟨rfl,h0⟩ | ⟨g,cap,cur,rfl,_,hg,hle,_,hcs,htk⟩
 ·have:l=[]:=List.eq_nil_of_length_eq_zero h0
  subst this
  exact .jE _ _ _
 ·have hlt:g < W.heap.size:=(Array.getElem?_eq_some_iff.1 hg).1
  have h2:=az.lst (w:=W) (G:=G0 W) bf (l.map Rf.av) g 0 cap 2 (fun i j=>cur.getD (i * 2+j) undef) (by rw [List.length_map];exact hle) (fun i hi=>hf.sized i hi) (fun i j hi hj=>?_) fun i j hi hj=>((hf.arr (c:=cur) (by rw [List.length_map];exact htk) i hi).2 j hj).2
  ·rw [List.length_map] at h2
   exact h2
  ·rw [Nat.zero_add]
   refine ⟨fR hg ?_,hlt,((hf.arr (c:=cur) (by rw [List.length_map];exact htk) i hi).2 j hj).1⟩
   rw [hcs]
   rw [List.length_map] at hi
   exact Nat.lt_of_lt_of_le (dL hi hj) (Nat.mul_le_mul_right _ hle)
set_option maxHeartbeats 1000000 in
theorem pR (p:Po) (hp:Sz p) (t:Tr) (g:Pol.Good p t) {h:Heap} (w:World) (G:Gm) (xs:Array Value) (s:Sim w G h) (ha:bz w G (dom h) [p.av] xs) :
  Calls Tryz.prog 16 xs w (dw w G h (.val (.lst ((bL p t).map Rf.av)) h)):=by
 have ha0:=ha
 obtain ⟨h1,h2⟩:=ha
 obtain ⟨xs⟩:=xs
 match xs,h1 with
 | [x],_=>
  have k0:az w G (dom h) p.av x:=by simpa using h2 0 (by simp)
  obtain ⟨vs,rfl,e1,e2,e3⟩:=fT k0
  obtain ⟨vs⟩:=vs
  match vs,e1 with
  | [v0,v1,v2,v3,v4,v5,v6,v7],_=>
   have r3:az w G (dom h) (p.nodes.avS Nd.av) v3:=by simpa using e3 3 (by simp)
   have r4:az w G (dom h) (iV p.root) v4:=by simpa using e3 4 (by simp)
   have hv4:v4=.int .i64 (t.i:Int):=by rw [aK r4,g.root]
   subst hv4
   have hne:p.nodes.l.map Nd.av≠[]:=fun e=>by
    have h0:=uY g.isT
    have:p.nodes.l=[]:=by simpa using e
    rw [this] at h0
    simp at h0
   rw [Sl.avS,jT _ hne] at r3
   generalize hes:p.nodes.l.map Nd.av=es at r3
   have hlen:es.length=p.nodes.l.length:=by rw [<-hes,List.length_map]
   cases r3 with
   | jE _ a c=>exact absurd hes hne
   | lst _ _ b off c sz vf hle hs hc hv=>
    have hget:∀ i x,p.nodes.l[i]?=some x->i < es.length∧es.getD i .top=x.av:=fun i x hx=>by
     have:=(List.getElem?_eq_some_iff.1 hx).1
     exact ⟨by omega,by rw [<-hes];simp [List.getD_eq_getElem?_getD,hx]⟩
    have hroot:=hget _ _ (uY g.isT).1
    have hsz:sz=6:=by
     have:=hs _ hroot.1
     rw [hroot.2] at this
     simpa using this.symm
    subst hsz
    have hbw:b < w.heap.size:=s.imm _ _ (hc _ 0 hroot.1 (by decide)).2.1
    have hcell:∀ i x,p.nodes.l[i]?=some x->∀ j,j < 6->w.cell? ⟨b,off+i * 6+j,none⟩=some (vf i j)∧az w G bf (x.cs.getD j .top) (vf i j):=fun i x hx j hj=>by
     obtain ⟨q1,q2⟩:=hget i x hx
     refine ⟨(hc i j q1 hj).1,?_⟩
     have:=hv i j q1 hj
     rw [q2] at this
     exact this
    have hpre:t.pre.length<=512:=by rw [g.all];exact g.sizes.1
    have hat:Rfs.At w.heap.size w b off es.length t:=N9 hbw (fun i x hx=>by
     have hx':=List.mem_of_getElem? hx
     obtain ⟨c1,c2⟩:=hcell i x hx 4 (by decide)
     obtain ⟨ka,kc,e4,e5⟩:=FP (k:=x.kids) c2
     rw [e4] at c1
     have hkl:x.kids.l.length < 1000:=by
      obtain ⟨u,hu,hui⟩:=JK g (List.getElem?_eq_some_iff.1 hx).1
      have h0:=uY (kG g.isT u hu)
      rw [hui,hx] at h0
      obtain ⟨e6,e7⟩:=h0
      injection e6 with e6
      rw [e6,e7,List.length_map]
      have h8:=(CX u hu).length_le
      have h9:u.ks.length<=u.pre.length:=by
       obtain ⟨i,n,ks⟩:=u
       have:∀ ks:List Tr,ks.length<=(Tr.fI ks).length:=fun ks=>by
        induction ks with
        | nil=>simp
        | cons k ks ih=>
         have:1<=k.pre.length:=by cases k;simp [Tr.pre]
         simp only [Tr.fI,List.length_append,List.length_cons]
         omega
       have:=this ks
       simp only [Tr.ks,Tr.pre,List.length_cons]
       omega
      omega
     refine ⟨(hget i x hx).1,hkl,ka,kc,c1,fun hk=>?_⟩
     obtain ⟨kb,ko,q1,q2⟩:=e5 hk
     refine ⟨kb,ko,q1,?_,fun m k hm=>(q2 m k hm).1⟩
     cases hl:x.kids.l with
     | nil=>exact absurd hl hk
     | cons a r=>exact s.imm _ _ (q2 0 a (by rw [hl];rfl)).2) t g.isT
    have c51:∀ (m:Nat) (W:World),Below w.heap.size w W->CallsIn Fence.wide m Tryz.prog 51 #[.agg #[v0,v1,v2,.slice (some ⟨b,off,none⟩) es.length c,.int .i64 (t.i:Int),v5,v6,v7]] W (Rfs.okC W (.int .i64 0)):=fun m W hB=>by
     refine callsIn_wide.2 ((uq sound (f51 p hp []) (by simp [AV.aJ,AV.bH]) s.imm ha0 hB).mono ?_)
     rintro e W' ⟨x,rfl,hb2,G',L',hx⟩
     rw [CY g] at hx
     exact ⟨by rw [aK hx],hb2⟩
    have c53:∀ (m:Nat) (W:World) (v:Value) (l:List Rf) (r:Rf),l.length<=1000->W.ownsRow w.heap.size 54 2 v l.length (Rfs.cells l) ->
      CallsIn Fence.wide m Tryz.prog 53 #[v,.agg #[Rfs.str r.al,Rfs.str r.attr]] W (Rfs.okC W (.bool (decide (r∈l)))):=fun m W v l r hl hrow=>by
     have hrv:az W (G0 W) bf r.av (.agg #[Rfs.str r.al,Rfs.str r.attr]):=by
      refine .agg _ _ _ rfl (fun i hi=>?_) fun i hi=>?_
      ·match i,hi with
       | 0,_=>rfl
       | 1,_=>rfl
      ·match i,hi with
       | 0,_=>exact .str _ _
       | 1,_=>exact .str _ _
     have hargs:bz W (G0 W) bf [.lst (l.map Rf.av),r.av] #[v,.agg #[Rfs.str r.al,Rfs.str r.attr]]:=by
      refine ⟨rfl,fun i hi=>?_⟩
      match i,hi with
      | 0,_=>exact MQ rfl hrow
      | 1,_=>exact hrv
     have hf:=f53 false l r (by omega) []
     rw [kD] at hf
     refine callsIn_wide.2 ((uq sound hf (by simp [AV.aJ,AV.bH]) (fun _ _ h=>h) hargs (Below.refl _ W)).mono ?_)
     rintro e W' ⟨x,rfl,hb2,G',L',hx⟩
     exact ⟨by rw [bC hx],hb2⟩
    have main:=Rfs.MN Fence.wide rfl rfl trivial trivial trivial trivial trivial trivial 3 (by decide) w v0 v1 v2 v5 v6 v7 b off es.length c t c51 hat p.nodes.l hlen.symm (by rw [hlen];exact g.sizes.1) hpre hbw (fun i x hx=>by
     have q:=hcell i x hx
     obtain ⟨ka,kc,e4,_⟩:=FP (k:=x.kids) (q 4 (by decide)).2
     refine ⟨ka,x.kids.l.length,kc,?_⟩
     have i0:=aK (show az w G bf (.int .i64 x.k) (vf i 0) from (q 0 (by decide)).2)
     have i1:=aK (show az w G bf (.int .i64 x.num) (vf i 1) from (q 1 (by decide)).2)
     have i2:=bJ (show az w G bf (.str x.nm) (vf i 2) from (q 2 (by decide)).2)
     have i3:=bJ (show az w G bf (.str x.attr) (vf i 3) from (q 3 (by decide)).2)
     have i5:=aK (show az w G bf (.int .i64 x.pos) (vf i 5) from (q 5 (by decide)).2)
     exact ⟨by rw [<-i0];exact (q 0 (by decide)).1,by rw [<-i1];exact (q 1 (by decide)).1,by rw [(q 2 (by decide)).1,i2];rfl,by rw [(q 3 (by decide)).1,i3];rfl,by rw [<-e4];exact (q 4 (by decide)).1,by rw [<-i5];exact (q 5 (by decide)).1⟩) c53
    refine (callsIn_wide.1 main).mono ?_
    rintro e W' ⟨v,rfl,hB,hrow⟩
    have hbk:∀ k,k < w.heap.size->W'.heap[k]?=w.heap[k]?:=hB.block
    rcases hrow.2 with ⟨hv0,hn0⟩ | ⟨gr,cap,cur,hv1,hge,hgr,PI,_,hcs,htk⟩
    ·have hnil:bL p t=[]:=List.eq_nil_of_length_eq_zero hn0
     subst hv0
     refine ⟨G,s.world hB.size hbk,Goes.world s hB.os hB.tape hB.output hB.size hbk,_,rfl,?_⟩
     rw [hnil]
     exact .jE _ _ _
    ·subst hv1
     have hgl:gr < W'.heap.size:=(Array.getElem?_eq_some_iff.1 hgr).1
     obtain ⟨G',q1,q2,q3⟩:=Bv (w':=W') s hB.os hB.tape hB.output hge hgl hB.size hbk (Ar (w:=w) (G:=G) (bL p t)) (fun j u hj=>by
      have hjl:=(List.getElem?_eq_some_iff.1 hj).1
      rw [cell_of_row W' gr j cur 54 (0,0) hgr]
      have h9:cur.toList.take ((bL p t).length * 2)=Rfs.cells (bL p t):=htk
      have this:(Rfs.cells (bL p t))[j]?=cur.toList[j]?:=by
       rw [<-h9] at hjl ⊢
       rw [List.getElem?_take_of_lt]
       simp at hjl
       omega
      rw [this] at hj
      simpa using hj) (cap:=cap) (by rw [List.length_map];exact PI)
     rw [List.length_map] at q3
     exact ⟨G',q1,q2,_,rfl,q3 _⟩
end Go.Ab.Pn
/-
  The nodes that are reached: the program.
-/
set_option linter.unusedSectionVars false
namespace Go.Ab.Pn
open Go.Ab.Pol
set_option maxRecDepth 100000
set_option maxHeartbeats 2000000
end Go.Ab.Pn
/-
  Tidy: the program.
-/
namespace Go.Ab.Pn
open Go.Ab.Pol
set_option maxRecDepth 100000
set_option maxHeartbeats 2000000
/- Numbers by which nodes are found. -/
def zPo:Po:=⟨[],⟨true,[]⟩,⟨true,[]⟩,⟨true,[]⟩,0,[],0,[]⟩
theorem Xf (h:Heap):(mu K).fn 48 [.lst []] h=some (.val (.lst []) h):=by
 have hX:K.X 48 [.lst []] h=some (.val (.lst []) h):=rfl
 rw [eJ]
 simp [step,gq,hX]
theorem Xg (h:Heap):(mu K).fn 48 [.af] h=some (.val .af h):=by
 rw [aD (KXc _ _ _ (by decide) (by simp)) SJ rfl (by simp [c48])]
 simp [c48,KL,aa]
theorem f48 (s:Sl Us) (hs:s.l.length<=1000) (h:Heap):(mu K).fn 48 [s.avS Us.av] h=some (.val (s.avS Us.av) h):=by
 obtain ⟨nl,l⟩:=s
 cases l with
 | nil=>
  cases nl
  ·exact Xf h
  ·exact Xg h
 | cons x l=>
  have e:Sl.avS Us.av ⟨nl,x :: l⟩=.lst (x.av :: l.map Us.av):=rfl
  simp only [List.length_cons] at hs
  have r1:(l.length+1) * 32<=room:=by unfold room;omega
  have r2:l.length+1<=room:=by unfold room;omega
  rw [e]
  rw [aD (KXc _ _ _ (by decide) (by simp)) SJ rfl (by simp [c48])]
  simp [c48,KL,aa,r1,r2]
theorem Xh (h:Heap):(mu K).fn 49 [.lst []] h=some (.val (.lst []) h):=by
 have hX:K.X 49 [.lst []] h=some (.val (.lst []) h):=rfl
 rw [eJ]
 simp [step,gq,hX]
theorem Xi (h:Heap):(mu K).fn 49 [.af] h=some (.val .af h):=by
 rw [aD (KXc _ _ _ (by decide) (by simp)) SK rfl (by simp [c49])]
 simp [c49,KL,aa]
theorem f49 (s:Sl Rf) (hs:s.l.length<=1000) (h:Heap):(mu K).fn 49 [s.avS Rf.av] h=some (.val (s.avS Rf.av) h):=by
 obtain ⟨nl,l⟩:=s
 cases l with
 | nil=>
  cases nl
  ·exact Xh h
  ·exact Xi h
 | cons x l=>
  have e:Sl.avS Rf.av ⟨nl,x :: l⟩=.lst (x.av :: l.map Rf.av):=rfl
  simp only [List.length_cons] at hs
  have r1:(l.length+1) * 32<=room:=by unfold room;omega
  have r2:l.length+1<=room:=by unfold room;omega
  rw [e]
  rw [aD (KXc _ _ _ (by decide) (by simp)) SK rfl (by simp [c49])]
  simp [c49,KL,aa,r1,r2]
theorem vY {ns:List Nd} {t:Tr} (h:IsT ns t):ns[t.i]?=some t.n∧t.n.kids.l=t.ks.map fun k=>(k.i:Int):=by
 cases t with
 | nd i n ks=>exact ⟨h.1,h.2.1⟩
end Go.Ab.Pn
/-
  Tidy: the program's function.
-/
namespace Go.Ab.Pn
open Go.Ab.Pol
set_option maxRecDepth 100000
set_option maxHeartbeats 2000000
end Go.Ab.Pn
/-
  The reference's check of a policy, whole.
-/
namespace Go.Ab.Pn
open Go.Ab.Pol
set_option maxRecDepth 100000
set_option maxHeartbeats 4000000
end Go.Ab.Pn
/-
  Xj: the program and the reference;the sizes that the statements of chapter 41 name.
-/
namespace Go.Ab.Pn
open Go.Ab.Pol
set_option maxRecDepth 100000
set_option maxHeartbeats 1000000
end Go.Ab.Pn
/-
  Same: the program.
-/
namespace Go.Ab.Pn
open Go.Ab.Pol
set_option maxRecDepth 100000
set_option maxHeartbeats 1000000
end Go.Ab.Pn
/-
  The evaluator with the word on policy.Refs;the examples of chapter 41.
-/
namespace Go.Ab.Pn
open Go.Ab Go.Ab.Pol Go.Proofs Go.RowKit
set_option maxRecDepth 100000
set_option maxHeartbeats 2000000
def JL (f:FuncId) (args:List AV) (r:Po×Tr):Prop:=f=16∧args=[r.1.av]∧Sz r.1∧Pol.Good r.1 r.2
open Classical in
noncomputable def kN (f:FuncId) (args:List AV) (h:Heap):Option Out:=
 if k:∃ r,JL f args r then some (.val (.lst ((bL (Classical.choose k).1 (Classical.choose k).2).map Rf.av)) h) else none
theorem CZ {p:Po} {t:Tr} (hp:Sz p) (g:Pol.Good p t) (h:Heap):kN 16 [p.av] h=some (.val (.lst ((bL p t).map Rf.av)) h):=by
 have k:∃ r,JL 16 [p.av] r:=⟨(p,t),rfl,rfl,hp,g⟩
 unfold kN
 rw [dif_pos k]
 obtain ⟨_,h1,_,h2⟩:=Classical.choose_spec k
 have e:p.av=(Classical.choose k).1.av:=by simpa using h1
 rw [FQ g.isT h2.isT g.root h2.root e]
theorem JM {f:FuncId} (hf:f≠16) (args:List AV) (h:Heap):kN f args h=none:=by
 unfold kN
 rw [dif_neg]
 rintro ⟨r,e,_⟩
 exact hf e
theorem JN:∀ f args h out,kN f args h=some out->cY Tryz.prog f∧∀ (w:World) (G:Gm) (xs:Array Value),Sim w G h->bz w G (dom h) args xs->Calls Tryz.prog f xs w (dw w G h out):=fun f args h out e=>by
 unfold kN at e
 split at e
 ·rename_i k
  obtain ⟨h0,h1,h2,h3⟩:=Classical.choose_spec k
  injection e with e
  subst e
  subst h0
  refine ⟨fun args w=>fZ Tryz.func16 (by kernel_rfl) rfl args w,fun w G xs hs ha=>?_⟩
  rw [h1] at ha
  exact pR _ h2 _ h3 w G xs hs ha
 ·cases e
noncomputable def K2:Cfg:=K.know kN
theorem up {f:FuncId} {a:List AV} {h:Heap} {r:Out} (e:(mu K).fn f a h=some r):(mu K2).fn f a h=some r:=(FO K kN).fn _ _ _ _ e
theorem f52 (p:Po) (T:List Blk) (h:Heap):(mu K).fn 52 [p.av] (T :: h)=some (.val (.fn (.func 116) [] [.ptr (h.length,T.length) 0]) ((T++[.box 26 false p.av]) :: h)):=by
 rw [aD (KX _ _ _) WQ rfl (by simp [c52])]
 simp [c52,KL,aa]
theorem U3 (O:Orc) (s:St):evC K O .bad s=none:=rfl
theorem wV (id:Nat):goB id none=none:=rfl
theorem C0 (O:Orc) (b:CC):goS K O b none=none:=rfl
theorem wW (rs:List gG):goF rs none=none:=rfl
theorem pS (p:Po) (hp:Sz p) (hc:chk p=0) (h:Heap):(mu K).fn 16 [p.av] h=none:=by
 have k24:=fun h=>f51 p hp h
 rw [hc] at k24
 have k74:=fun T h=>f52 p T h
 rw [aD (KX _ _ _) SI rfl (by simp [c16])]
 simp [c16,KL,aa,k24,k74,U3,wV,C0,wW]
theorem f16 (p:Po) (hp:Sz p) (t:Tr) (g:Pol.Good p t) (h:Heap):(mu K2).fn 16 [p.av] h=some (.val (.lst ((bL p t).map Rf.av)) h):=by
 have e:K2.X 16 [p.av] h=some (.val (.lst ((bL p t).map Rf.av)) h):=by
  show (match K.X 16 [p.av] h with
   | some r=>some r
   | none=>(match kN 16 [p.av] h with
    | some r=>(match (mu K).fn 16 [p.av] h with
     | some r'=>some r'
     | none=>some r)
    | none=>none))=_
  rw [KX 16 [p.av] h,CZ hp g h,pS p hp (CY g) h]
 rw [eJ]
 simp only [step,gq,e]
end Go.Ab.Pn
