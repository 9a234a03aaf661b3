/-
  The nodes of a normal form, as the program writes them: thresholds.
-/
import Derived.Test.YtjnomgdildcbhaaGreatDoorAb4dP101
import Derived.Test.YtjnomgdildcbhaaGreatDoorAbNf5
import Derived.Test.YtjnomgdildcbhaaGreatDoorAb4dR6
import Derived.Test.YtjnomgdildcbhaaGreatDoorAb4dP92
import Derived.Test.YtjnomgdildcbhaaGreatDoorAb4dT1
set_option linter.unusedVariables false
set_option linter.unusedSimpArgs false
set_option linter.unusedSectionVars false
namespace Go.Ab.Pn
open Go.Ab.Pol
set_option maxRecDepth 100000
set_option maxHeartbeats 4000000
mutual
def WOk:Cd->Prop
 | .atom _ _ vs=>vs.length<=1000
 | .gate _ ks=>ks≠[]∧MX ks
def MX:List Cd->Prop
 | []=>True
 | c :: cs=>WOk c∧MX cs
end
def wrF:Cd->FuncId
 | .atom _ _ _=>277
 | .gate _ _=>278
abbrev om (need:Int) (ks:List Cd):AV:=.agg [iV need,.lst (ks.map aN)]
def wrV:Cd->AV
 | .atom k num vs=>wm k num vs
 | .gate need ks=>om need ks
def EF (c:Cd):Prop:=∀ (N:List Nd) (h:Heap) (a:Loc),1<=N.length->N.length+c.size<=100000->hget h a=some (ndQ N) ->
 (mu K).fn (wrF c) [wrV c,.own a N.length] h=some (.val (.own a (N.length+c.size)) (aP h a (ndQ (N++flat N.length c))))
def kdB:List Int->Blk
 | []=>.arr 0 0 false []
 | x :: l=>.arr 3 1 false ((x :: l).map iV)
theorem C7 (l:List Int):∃ t z,kdB l=.arr t z false (l.map iV)∧(z=0∨t=3∧z=1):=by
 cases l with
 | nil=>exact ⟨0,0,rfl,.inl rfl⟩
 | cons x l=>exact ⟨3,1,rfl,.inr ⟨rfl,rfl⟩⟩
theorem F4 (l:List Int) (x:Int):kdB (l++[x])=.arr 3 1 false ((l++[x]).map iV):=by cases l<;>rfl
def gtN (N:List Nd) (need:Int) (pre:List Cd):List Nd:=N++bB N.length 5 need 0 :: fU (N.length+1) pre
theorem gw (N:List Nd) (need:Int) (pre:List Cd):(gtN N need pre).length=N.length+1+Cd.sizes pre:=by simp [gtN,sY];omega
theorem xk:∀ (pre:List Cd) (b:Nat) (c:Cd),fU b (pre++[c])=fU b pre++flat (b+Cd.sizes pre) c
 | [],b,c=>by simp [fU,Cd.sizes]
 | x :: pre,b,c=>by
  simp only [List.cons_append,fU,Cd.sizes,xk pre,List.append_assoc]
  rw [Nat.add_assoc]
theorem C8 (N:List Nd) (need:Int) (pre:List Cd) (c:Cd):gtN N need (pre++[c])=gtN N need pre++flat (gtN N need pre).length c:=by
 rw [gw]
 unfold gtN
 rw [xk]
 simp
theorem eN:∀ (pre:List Cd) (b:Nat) (c:Cd),starts b (pre++[c])=starts b pre++[((b+Cd.sizes pre:Nat):Int)]
 | [],b,c=>by simp [starts,Cd.sizes]
 | x :: pre,b,c=>by
  simp only [List.cons_append,starts,Cd.sizes,eN pre,List.cons.injEq,true_and]
  rw [Nat.add_assoc]
theorem uu (c:Cd) (l:List Cd):Cd.sizes (l++[c])=Cd.sizes l+c.size:=by rw [fQ];simp [Cd.sizes]
theorem PW (need:Int) (N:List Nd) (ks:List Cd) (hW:∀ c∈ks,EF c) (hN:N.length+1+Cd.sizes ks<=100000) (h:Heap) (a:Loc) (hd:dom h a) :
  ∃ env,(mu K).code (.aj 2 [1,5,6,18,19,20] fG) ⟨[(1,.own a (N.length+1)),(5,iV (N.length:Int)),(6,.own (h.length,1) 0),(18,.lst (ks.map aN)),(19,iV (ks.length:Int)),(20,iV 0)],[.box 254 false (om need ks),.arr 0 0 false []] :: aP h a (ndQ (gtN N need []))⟩ =
   some (.exit 0,⟨env,[.box 254 false (om need ks),kdB (starts (N.length+1) ks)] :: aP h a (ndQ (gtN N need ks))⟩)∧get env 1=.own a (N.length+1+Cd.sizes ks)∧get env 5=iV (N.length:Int)∧get env 6=.own (h.length,1) ks.length:=by
 have hks:=cQ ks
 have key:=aF (K:=K) (n:=2) (live:=[1,5,6,18,19,20]) (a:=fG) (ρ:=Unit) (fun (_:Unit) (x:Cd)=>(.inl ():Unit ⊕ Unit))
  (fun pre _=>⟨[(1,.own a (N.length+1+Cd.sizes pre)),(5,iV (N.length:Int)),(6,.own (h.length,1) pre.length),(18,.lst (ks.map aN)),(19,iV (ks.length:Int)),(20,iV (pre.length:Int))],[.box 254 false (om need ks),kdB (starts (N.length+1) pre)] :: aP h a (ndQ (gtN N need pre))⟩)
  (fun _ _=>True)
  (fun _ o=>∃ env,o=some (.exit 0,⟨env,[.box 254 false (om need ks),kdB (starts (N.length+1) ks)] :: aP h a (ndQ (gtN N need ks))⟩)∧get env 1=.own a (N.length+1+Cd.sizes ks)∧get env 5=iV (N.length:Int)∧get env 6=.own (h.length,1) ks.length)
  (fun _ _=>False) ks
  (fun pre c r b hl' hb=>by
   obtain ⟨h1,h2,w1⟩:=aG hl' (by omega)
   have hp:pre.length < ks.length:=(List.getElem?_eq_some_iff.1 h2).1
   have hsz:Cd.sizes ks=Cd.sizes pre+(c.size+Cd.sizes r):=by rw [hl',fQ];rfl
   have hpl:=cQ pre
   have hix:=fun (kk:IntKind)=>eP (sz:=1) (l:=ks.map aN) (k:=kk) (j:=(pre.length:Int)) (v:=aN c) (by omega) (by simp [h2]) (by simp)
   have r3:(pre.length+1) * 8<=room:=by unfold room;omega
   have r4:pre.length+1<=room:=by unfold room;omega
   obtain ⟨t0,z0,hkB,hz⟩:=C7 (starts (N.length+1) pre)
   have hz:(z0=0∨t0=3∧z0=1)=True:=by simp [hz]
   have hkl:((starts (N.length+1) pre).map iV).length=pre.length:=by rw [List.length_map,bQ]
   have hst:(starts (N.length+1) (pre++[c])).map iV=(starts (N.length+1) pre).map iV++[iV ((N.length:Int)+1+(Cd.sizes pre:Int))]:=by
    rw [eN,List.map_append,List.map_cons,List.map_nil]
    congr 3
   have n1:=rV hd
   have gs:=fun B=>iy hd B
   have ss:=fun B C=>dS h a B C
   have hl:=fun B=>aW h a B
   have hg:hget ([.box 254 false (om need ks),.arr 3 1 false ((starts (N.length+1) (pre++[c])).map iV)] :: aP h a (ndQ (gtN N need pre))) a=some (ndQ (gtN N need pre)):=by simp [n1,gs,hl]
   have W:=hW c (List.mem_of_getElem? h2) (gtN N need pre) ([.box 254 false (om need ks),.arr 3 1 false ((starts (N.length+1) (pre++[c])).map iV)] :: aP h a (ndQ (gtN N need pre))) a (by rw [gw];omega) (by rw [gw];omega) hg
   have e3:N.length+1+Cd.sizes (pre++[c])=N.length+1+Cd.sizes pre+c.size:=by rw [uu];omega
   refine ⟨fun b' e=>⟨trivial,?_⟩,fun _ e=>by cases e⟩
   rw [ay]
   generalize (mu K).code (.aj 2 [1,5,6,18,19,20] fG)=FF
   rw [e3,C8,eN,F4,<-eN]
   rw [gw] at W ⊢
   rw [hst] at W ⊢
   rw [hkB]
   simp only [ndQ,List.map_append] at W ⊢
   have hEl:((gtN N need pre).map Nd.av).length=N.length+1+Cd.sizes pre:=by rw [List.length_map,gw]
   generalize (starts (N.length+1) pre).map iV=KS at *
   generalize (gtN N need pre).map Nd.av=E at *
   generalize (flat (N.length+1+Cd.sizes pre) c).map Nd.av=E2 at *
   clear hl' hg
   cases c with
   | atom ck cn vs=>
    have hd:aN (.atom ck cn vs)=HR ck cn vs:=by rw [aN]
    rw [hd] at hix
    simp only [wrF,wrV] at W
    generalize (Cd.atom ck cn vs).size=Z at *
    simp [fG,KL,aa,h1,hix,w1,hz,hkl,r3,r4,W,n1,gs,ss,hl]
   | gate cn cks=>
    have hd:aN (.gate cn cks)=.iface 254 (om cn cks):=by rw [aN,dV]
    rw [hd] at hix
    simp only [wrF,wrV] at W
    generalize (Cd.gate cn cks).size=Z at *
    have lk:List.lookup (254:TypeId) [((252:TypeId),(277:FuncId)),(254,278)]=some 278:=rfl
    simp [fG,KL,aa,h1,hix,w1,hz,hkl,r3,r4,W,lk,n1,gs,ss,hl])
  (fun b hb=>by
   have n1:=rV hd
   have gs:=fun B=>iy hd B
   have ss:=fun B C=>dS h a B C
   have hl:=fun B=>aW h a B
   rw [ay]
   generalize (mu K).code (.aj 2 [1,5,6,18,19,20] fG)=FF
   simp [fG,n1,gs,ss,hl]) () trivial
 have e:iter (fun (_:Unit) (x:Cd)=>(.inl ():Unit ⊕ Unit)) () ks=.inl ():=by
  generalize ks=l
  induction l with
  | nil=>rfl
  | cons x l ih=>simpa [iter] using ih
 rw [e] at key
 simpa [Cd.sizes,starts,kdB] using key.2
theorem PX (need:Int) (N:List Nd) (ks:List Cd) (hW:∀ c∈ks,EF c) (hN:N.length+1+Cd.sizes ks<=100000) (h:Heap) :
  ∃ env,(mu K).code (.aj 3 [1,5,6,18,19,20] fG) ⟨[(1,.own (h.length,1) (N.length+1)),(5,iV (N.length:Int)),(6,.own (h.length,2) 0),(18,.lst (ks.map aN)),(19,iV (ks.length:Int)),(20,iV 0)],[.box 254 false (om need ks),ndQ (gtN N need []),.arr 0 0 false []] :: h⟩ =
   some (.exit 0,⟨env,[.box 254 false (om need ks),ndQ (gtN N need ks),kdB (starts (N.length+1) ks)] :: h⟩)∧get env 1=.own (h.length,1) (N.length+1+Cd.sizes ks)∧get env 5=iV (N.length:Int)∧get env 6=.own (h.length,2) ks.length:=by
 have hks:=cQ ks
 have key:=aF (K:=K) (n:=3) (live:=[1,5,6,18,19,20]) (a:=fG) (ρ:=Unit) (fun (_:Unit) (x:Cd)=>(.inl ():Unit ⊕ Unit))
  (fun pre _=>⟨[(1,.own (h.length,1) (N.length+1+Cd.sizes pre)),(5,iV (N.length:Int)),(6,.own (h.length,2) pre.length),(18,.lst (ks.map aN)),(19,iV (ks.length:Int)),(20,iV (pre.length:Int))],[.box 254 false (om need ks),ndQ (gtN N need pre),kdB (starts (N.length+1) pre)] :: h⟩)
  (fun _ _=>True)
  (fun _ o=>∃ env,o=some (.exit 0,⟨env,[.box 254 false (om need ks),ndQ (gtN N need ks),kdB (starts (N.length+1) ks)] :: h⟩)∧get env 1=.own (h.length,1) (N.length+1+Cd.sizes ks)∧get env 5=iV (N.length:Int)∧get env 6=.own (h.length,2) ks.length)
  (fun _ _=>False) ks
  (fun pre c r b hl' hb=>by
   obtain ⟨h1,h2,w1⟩:=aG hl' (by omega)
   have hp:pre.length < ks.length:=(List.getElem?_eq_some_iff.1 h2).1
   have hsz:Cd.sizes ks=Cd.sizes pre+(c.size+Cd.sizes r):=by rw [hl',fQ];rfl
   have hpl:=cQ pre
   have hix:=fun (kk:IntKind)=>eP (sz:=1) (l:=ks.map aN) (k:=kk) (j:=(pre.length:Int)) (v:=aN c) (by omega) (by simp [h2]) (by simp)
   have r3:(pre.length+1) * 8<=room:=by unfold room;omega
   have r4:pre.length+1<=room:=by unfold room;omega
   obtain ⟨t0,z0,hkB,hz⟩:=C7 (starts (N.length+1) pre)
   have hz:(z0=0∨t0=3∧z0=1)=True:=by simp [hz]
   have hkl:((starts (N.length+1) pre).map iV).length=pre.length:=by rw [List.length_map,bQ]
   have hst:(starts (N.length+1) (pre++[c])).map iV=(starts (N.length+1) pre).map iV++[iV ((N.length:Int)+1+(Cd.sizes pre:Int))]:=by
    rw [eN,List.map_append,List.map_cons,List.map_nil]
    congr 3
   have hg:hget ([.box 254 false (om need ks),ndQ (gtN N need pre),.arr 3 1 false ((starts (N.length+1) (pre++[c])).map iV)] :: h) (h.length,1)=some (ndQ (gtN N need pre)):=by simp
   have W:=hW c (List.mem_of_getElem? h2) (gtN N need pre) ([.box 254 false (om need ks),ndQ (gtN N need pre),.arr 3 1 false ((starts (N.length+1) (pre++[c])).map iV)] :: h) (h.length,1) (by rw [gw];omega) (by rw [gw];omega) hg
   have e3:N.length+1+Cd.sizes (pre++[c])=N.length+1+Cd.sizes pre+c.size:=by rw [uu];omega
   refine ⟨fun b' e=>⟨trivial,?_⟩,fun _ e=>by cases e⟩
   rw [ay]
   generalize (mu K).code (.aj 3 [1,5,6,18,19,20] fG)=FF
   rw [e3,C8,eN,F4,<-eN]
   rw [gw] at W ⊢
   rw [hst] at W ⊢
   rw [hkB]
   simp only [ndQ,List.map_append] at W ⊢
   have hEl:((gtN N need pre).map Nd.av).length=N.length+1+Cd.sizes pre:=by rw [List.length_map,gw]
   generalize (starts (N.length+1) pre).map iV=KS at *
   generalize (gtN N need pre).map Nd.av=E at *
   generalize (flat (N.length+1+Cd.sizes pre) c).map Nd.av=E2 at *
   clear hl' hg
   cases c with
   | atom ck cn vs=>
    have hd:aN (.atom ck cn vs)=HR ck cn vs:=by rw [aN]
    rw [hd] at hix
    simp only [wrF,wrV] at W
    generalize (Cd.atom ck cn vs).size=Z at *
    simp [fG,KL,aa,h1,hix,w1,hz,hkl,r3,r4,W]
   | gate cn cks=>
    have hd:aN (.gate cn cks)=.iface 254 (om cn cks):=by rw [aN,dV]
    rw [hd] at hix
    simp only [wrF,wrV] at W
    generalize (Cd.gate cn cks).size=Z at *
    have lk:List.lookup (254:TypeId) [((252:TypeId),(277:FuncId)),(254,278)]=some 278:=rfl
    simp [fG,KL,aa,h1,hix,w1,hz,hkl,r3,r4,W,lk])
  (fun b hb=>by
   rw [ay]
   generalize (mu K).code (.aj 3 [1,5,6,18,19,20] fG)=FF
   simp [fG]) () trivial
 have e:iter (fun (_:Unit) (x:Cd)=>(.inl ():Unit ⊕ Unit)) () ks=.inl ():=by
  generalize ks=l
  induction l with
  | nil=>rfl
  | cons x l ih=>simpa [iter] using ih
 rw [e] at key
 simpa [Cd.sizes,starts,kdB] using key.2
end Go.Ab.Pn
/-
  The nodes of a normal form, as the program writes them.
-/
namespace Go.Ab.Pn
open Go.Ab.Pol
set_option maxRecDepth 100000
set_option maxHeartbeats 4000000
theorem F5 (N:List Nd) (need:Int) (ks:List Cd):((gtN N need ks).map Nd.av)[N.length]?=some (.agg [iV 5,iV need,.str [],.str [],.af,iV 0]):=by
 unfold gtN
 rw [List.map_append,List.getElem?_append_right (by simp)]
 simp [gS]
theorem F6 (N:List Nd) (need:Int) (ks:List Cd) (h0:ks≠[]):((gtN N need ks).map Nd.av).set N.length (.agg [iV 5,iV need,.str [],.str [],.lst ((starts (N.length+1) ks).map iV),iV 0])=(N++flat N.length (.gate need ks)).map Nd.av:=by
 have hs:starts (N.length+1) ks≠[]:=fun e=>h0 (List.length_eq_zero_iff.1 (by rw [<-bQ ks (N.length+1),e];rfl))
 have hs2:(starts (N.length+1) ks).map iV≠[]:=by simpa using hs
 unfold gtN
 rw [List.map_append,List.set_append_right _ _ (by simp)]
 simp only [flat,List.length_map,Nat.sub_self,List.map_cons,List.set_cons_zero,List.map_append]
 congr 2
 simp [cS,Sl.avS,jT true hs2]
theorem JY {l:List Int} (h:l≠[]):kdB l=.arr 3 1 false (l.map iV):=by
 cases l with
 | nil=>exact absurd rfl h
 | cons x l=>rfl
theorem Va (need:Int) (ks:List Cd) (h0:ks≠[]) (hW:∀ c∈ks,EF c):EF (.gate need ks):=fun N h a hN1 hN ha=>by
 have hd:=fq ha
 have hsz:(Cd.gate need ks).size=Cd.sizes ks+1:=rfl
 rw [hsz] at hN ⊢
 obtain ⟨env,kl,g1,g5,g6⟩:=PW need N ks hW (by omega) h a hd
 have n1:=rV hd
 have gs:=fun B=>iy hd B
 have ss:=fun B C=>dS h a B C
 have hl:=fun B=>aW h a B
 have ll:=iY hd
 have e0:(gtN N need []).map Nd.av=N.map Nd.av++[.agg [iV 5,iV need,.str [],.str [],.af,iV 0]]:=by
  simp [gtN,fU,gS]
 have r1:(N.length+1) * 80<=room:=by unfold room;omega
 have r2:N.length+1<=room:=by unfold room;omega
 have p1:(0 < N.length)=True:=eq_true (by omega)
 have hNl:(N.map Nd.av).length=N.length:=by simp
 have hE:=F5 N need ks
 have hS:=F6 N need ks h0
 have hEl:((gtN N need ks).map Nd.av).length=N.length+1+Cd.sizes ks:=by rw [List.length_map,gw]
 have hs:starts (N.length+1) ks≠[]:=fun e=>h0 (List.length_eq_zero_iff.1 (by rw [<-bQ ks (N.length+1),e];rfl))
 have hSl:((starts (N.length+1) ks).map iV).length=ks.length:=by rw [List.length_map,bQ]
 have i1:((N.length:Int) < (N.length:Int)+1+(Cd.sizes ks:Int))=True:=eq_true (by omega)
 have i2:(N.length < N.length+1+Cd.sizes ks)=True:=eq_true (by omega)
 have k0:(0 < ks.length)=True:=eq_true (List.length_pos_iff.2 h0)
 have hE2:=nI hE
 rw [JY hs] at kl
 simp only [ndQ,wrF,wrV] at kl ha ⊢
 rw [e0] at kl
 rw [<-hS]
 have hkc:(ks.map aN).length=ks.length:=by simp
 have e4:N.length+(Cd.sizes ks+1)=N.length+1+Cd.sizes ks:=by omega
 rw [e4]
 rw [aD (KX _ _ _) N1 rfl (by simp [I7])]
 generalize (starts (N.length+1) ks).map iV=S at *
 generalize N.map Nd.av=M at *
 generalize (gtN N need ks).map Nd.av=E at *
 clear hS
 simp [I7,KL,aa,ha,n1,r1,r2,p1,hNl,kl,g1,g5,g6,ll,gs,ss,hl,hE,hE2,hEl,hSl,i1,i2,k0,hkc]
theorem Vb (need:Int) (ks:List Cd) (h0:ks≠[]) (hW:∀ c∈ks,EF c) (hs0:Cd.sizes ks<=90000) (h:Heap) :
  (mu K).fn 278 [om need ks,.af] h=some (.val (.lst ((flat 0 (.gate need ks)).map Nd.av)) h):=by
 obtain ⟨env,kl,g1,g5,g6⟩:=PX need [] ks hW (by simp;omega) h
 have e0:(gtN [] need []).map Nd.av=[.agg [iV 5,iV need,.str [],.str [],.af,iV 0]]:=by
  simp [gtN,fU,gS]
 have r1:80<=room:=by unfold room;omega
 have r2:1<=room:=by unfold room;omega
 have hE:=F5 [] need ks
 have hS:=F6 [] need ks h0
 have hEl:((gtN [] need ks).map Nd.av).length=1+Cd.sizes ks:=by rw [List.length_map,gw];simp
 have hs:starts 1 ks≠[]:=fun e=>h0 (List.length_eq_zero_iff.1 (by rw [<-bQ ks 1,e];rfl))
 have hSl:((starts 1 ks).map iV).length=ks.length:=by rw [List.length_map,bQ]
 have i1:((0:Int) < 1+(Cd.sizes ks:Int))=True:=eq_true (by omega)
 have i2:(0 < 1+Cd.sizes ks)=True:=eq_true (by omega)
 have k0:(0 < ks.length)=True:=eq_true (List.length_pos_iff.2 h0)
 simp only [List.length_nil,Nat.zero_add,List.nil_append,Int.natCast_zero] at hE hS kl g1 g5 g6
 have hE2:=nI hE
 have hS2:(((gtN [] need ks).map Nd.av).set 0 (.agg [iV 5,iV need,.str [],.str [],.lst ((starts 1 ks).map iV),iV 0])).length=1+Cd.sizes ks:=by rw [List.length_set,hEl]
 rw [JY hs] at kl
 simp only [ndQ] at kl ⊢
 rw [e0] at kl
 rw [<-hS]
 have hkc:(ks.map aN).length=ks.length:=by simp
 rw [aD (KX _ _ _) N1 rfl (by simp [I7])]
 generalize (starts 1 ks).map iV=S at *
 generalize (gtN [] need ks).map Nd.av=E at *
 clear hS
 simp [I7,KL,aa,r1,r2,kl,g1,g5,g6,hE,hE2,hEl,hSl,i1,i2,k0,hkc,hS2]
mutual
theorem Vc:∀ c:Cd,WOk c->EF c
 | .atom k num vs,hv=>fun N h a h1 h2 ha=>by
  have hsz:(Cd.atom k num vs).size=vs.length+1:=rfl
  rw [hsz] at h2 ⊢
  have:=Uj k num N vs ⟨h1,by omega⟩ hv h a ha
  rw [show N.length+(vs.length+1)=N.length+1+vs.length by omega]
  exact this
 | .gate need ks,hv=>Va need ks hv.1 (EG ks hv.2)
theorem EG:∀ cs:List Cd,MX cs->∀ c∈cs,EF c
 | [],_,c,hc=>by cases hc
 | x :: cs,h,c,hc=>by
  rcases List.mem_cons.1 hc with e | hc
  ·rw [e];exact Vc x h.1
  ·exact EG cs h.2 c hc
end
theorem PY (c:Cd) (hc:WOk c) (hs:c.size<=90000) (h:Heap):(mu K).fn (wrF c) [wrV c,.af] h=some (.val (.lst ((flat 0 c).map Nd.av)) h):=by
 cases c with
 | atom k num vs=>exact Uk k num vs hc h
 | gate need ks=>exact Vb need ks hc.1 (EG ks hc.2) (by simp only [Cd.size] at hs;omega) h
end Go.Ab.Pn
/-
  The normal form of a policy: what the program's function answers, in plain words.
-/
namespace Go.Ab.Pn
open Go.Ab.Pol
set_option maxRecDepth 100000
set_option maxHeartbeats 2000000
def aV (p:Po) (l:List Sc) (t:Tr):Cd:=norm (ak p.uses.l l) false t
def aX (p:Po) (l:List Sc) (t:Tr):Po:=jV p (aV p l t)
def fN (p:Po) (l:List Sc) (t:Tr):Po×Int:=
 if (jd p l t).2≠0 then (zPo,(jd p l t).2) else if chk (aX p l t)≠0 then (zPo,chk (aX p l t)) else (aX p l t,0)
theorem norm_le {p:Po} {t:Tr} (g:Pol.Good p t) (l:List Sc):(aV p l t).size<=9 * p.nodes.l.length:=by
 have h1:=sZ (ak p.uses.l l) t false
 have h2:t.subs.length=t.pre.length:=by rw [kF];simp
 rw [h2,g.all] at h1
 exact h1
theorem MZ (n:Int):okN (bg n):=by simp [bg,okN,okS]
theorem JZ {p:Po} (z:Sz p) {t:Tr} (ht:Pol.IsT p.nodes.l t) (fd:Nd->Pol.Fd) (neg:Bool):VsP okN (norm fd neg t):=
 BF MZ t neg fun s hs=>(z.nodes.2 s.n (List.mem_of_getElem? (vY (kG ht s hs)).1)).1
theorem PZ {p:Po} (z:Sz p) {c:Cd} (hc:VsP okN c) (hs:c.size<=1000):Sz (jV p c):=by
 refine ⟨z.name,z.scope,z.ct,z.uses,z.aA,?_,?_⟩
 ·show (flat 0 c).length<=1000
  rw [kI];exact hs
 ·intro n hn
  rcases F7 c 0 hc n hn with ⟨v,hv,rfl⟩ | ⟨q1,q2,q3,_⟩
  ·exact ⟨hv,by simp [aR]⟩
  ·exact ⟨⟨by rw [q1];simp [okS],by rw [q2];simp [okS]⟩,by omega⟩
theorem wF {p:Po} {l:List Sc} {t:Tr} (ht:chk p=0->Pol.Good p t) (h:(fN p l t).2=0) :
  Pol.Good p t∧M0 p l t∧(jd p l t).2=0∧chk (aX p l t)=0∧(fN p l t).1=aX p l t:=by
 unfold fN at h ⊢
 by_cases h1:(jd p l t).2=0
 case neg=>rw [if_pos h1] at h;exact absurd h h1
 rw [if_neg (by simp [h1])] at h ⊢
 by_cases h2:chk (aX p l t)=0
 case neg=>rw [if_pos h2] at h;exact absurd h h2
 rw [if_neg (by simp [h2])]
 obtain ⟨hF,_⟩:=BG h1
 exact ⟨ht (kM hF.ready).chk,hF,h1,h2,rfl⟩
end Go.Ab.Pn
/-
  The normal form of a policy: the program's functions Of and Is.
-/
namespace Go.Ab.Pn
open Go.Ab.Pol
set_option maxRecDepth 100000
set_option maxHeartbeats 4000000
mutual
theorem J0 {us:List Us} {l:List Sc} {Q:Nd->Prop}:∀ c:Cd,NF us l Q c->WOk c
 | .atom k num vs,h=>by
  rcases h.2 with ⟨_,a,b,rfl,_⟩ | ⟨_,_,x,lo,hi,rfl,_⟩<;>simp [WOk]
 | .gate need ks,h=>⟨fun e=>by
   have:=h.1
   rw [e] at this
   simp at this,F8 ks h.2.2.2⟩
theorem F8 {us:List Us} {l:List Sc} {Q:Nd->Prop} {need:Int} {n:Nat}:∀ cs:List Cd,NFs us l Q need n cs->MX cs
 | [],_=>trivial
 | c :: cs,h=>⟨J0 c h.1,F8 cs h.2.2⟩
end
theorem M3 {us:List Us} {l:List Sc} {Q:Nd->Prop} {c:Cd} (h:NFp us l Q c):WOk c:=by
 rcases h with ⟨b,rfl⟩ | h
 ·simp [cB,WOk]
 ·exact J0 c h
mutual
theorem J1:∀ {t:Tr} {c:Bool},WF t c->∀ s∈t.subs,∃ c',WF s c'
 | .nd i n ks,c,h,s,hs=>by
  simp only [Tr.subs,List.mem_cons] at hs
  rcases hs with rfl | hs
  ·exact ⟨c,h⟩
  ·exact F9 h.2 s hs
theorem F9:∀ {ts:List Tr} {c:Bool},WFs ts c->∀ s∈Tr.bp ts,∃ c',WF s c'
 | [],c,h,s,hs=>by simp [Tr.bp] at hs
 | t :: ts,c,h,s,hs=>by
  simp only [Tr.bp,List.mem_append] at hs
  rcases hs with hs | hs
  ·exact J1 h.1 s hs
  ·exact F9 h.2 s hs
end
theorem M4 {p:Po} {t:Tr} (g:Pol.Good p t):∀ n∈p.nodes.l,CD n:=fun n hn hk=>by
 obtain ⟨i,hi,e⟩:=List.getElem_of_mem hn
 obtain ⟨s,hs,es⟩:=JK g hi
 obtain ⟨c,w⟩:=J1 g.wf s hs
 have h1:=(vY (kG g.isT s hs)).1
 rw [es,List.getElem?_eq_getElem hi,e] at h1
 injection h1 with h1
 subst h1
 cases s with
 | nd j m ks=>
  obtain ⟨_,_,_,_,_,lo,hi2⟩:=gQ w.1
  simp only [Tr.n] at hk ⊢
  simp only [HF,zU,hk] at lo hi2
  simp at lo hi2
  omega
theorem vR {p:Po} (z:Sz p) {t:Tr} (g:Pol.Good p t) {l:List Sc} (hs:(aV p l t).size<=1000):Sz (aX p l t):=PZ z (JZ z g.isT _ _) hs
theorem size_le {p:Po} {l:List Sc} {t:Tr} (ht:chk p=0->Pol.Good p t) (hn:p.nodes.l.length<=100):(jd p l t).2=0->(aV p l t).size<=1000:=fun h0=>by
 have g:=ht (kM (BG h0).1.ready).chk
 have:=norm_le g l
 omega
theorem f15 (p:Po) (z:Sz p) (l:Sl Sc) (zl:okL l) (t:Tr) (ht:chk p=0->Pol.Good p t) (hn:(jd p l.l t).2=0->(aV p l.l t).size<=1000) (h:Heap) :
  (mu K).fn 15 [p.av,l.avS Sc.av] h=some (.val (.tup [(fN p l.l t).1.av,.int .i64 (fN p l.l t).2]) h):=by
 have k38:=fun h=>f47 p z l zl t ht h
 have q1:=au _ dI p.uses
 have q2:=au _ dh p.aA
 have q3:=au _ cW p.nodes
 have q4:=au _ fo l
 have ez:zPo.av=.agg [.str [],.af,.af,.af,iV 0,.str [],iV 0,.str []]:=rfl
 by_cases h0:(jd p l.l t).2=0
 case neg=>
  have e:fN p l.l t=(zPo,(jd p l.l t).2):=by unfold fN;rw [if_pos h0]
  rw [e]
  simp only [ez]
  rw [aD (KX _ _ _) Ox rfl (by simp [c15])]
  simp [c15,KL,aa,k38,h0,q1,q2,q3,q4]
 obtain ⟨hF,_⟩:=BG h0
 have hr:=kM hF.ready
 have g:=ht hr.chk
 have nok:NOk p l.l t:=⟨g.isT,J2 t g.isT g.wf (nJ h0).2.2,g.wf,by
  have h2:t.subs.length=t.pre.length:=by rw [kF];simp
  rw [h2,g.all];have:=g.sizes.1;omega⟩
 have mg:=fun h=>f50 p z l zl hF.ready (M4 g) t false nok h
 rw [g.root] at mg
 have hnf:NFp p.uses.l l.l (fun _=>True) (aV p l.l t):=qG g h0 (fun _ _ _=>trivial) false
 have hle:=hn h0
 have kw:=fun h=>PY (aV p l.l t) (M3 hnf) (by omega) h
 have zq:=vR z g (hn (by first | exact h0 | exact h1))
 have k24:=fun h=>f51 (aX p l.l t) zq h
 have k80:=fun h=>f48 p.uses z.uses.1 h
 have k81:=fun h=>f49 p.aA z.aA.1 h
 have eq:(aX p l.l t).av=.agg [.str p.name,p.uses.avS Us.av,p.aA.avS Rf.av,.lst ((flat 0 (aV p l.l t)).map Nd.av),iV 0,.str p.scope,iV p.limit,.str p.ct]:=by
  simp [aX,jV,Sl.avS]
 have lk:List.lookup (254:TypeId) [((252:TypeId),(277:FuncId)),(254,278)]=some 278:=rfl
 have e3:fN p l.l t=if chk (aX p l.l t)≠0 then (zPo,chk (aX p l.l t)) else (aX p l.l t,0):=by unfold fN;rw [if_neg (by simp [h0])]
 rw [e3]
 rw [eq] at k24
 have hC:norm (ak p.uses.l l.l) false t=aV p l.l t:=rfl
 rw [hC] at mg
 simp only [bZ,Po.cs,List.cons_append,List.nil_append] at mg
 by_cases hc:chk (aX p l.l t)=0
 ·rw [if_neg (by simp [hc])]
  rw [hc] at k24
  simp only [eq]
  generalize (flat 0 (aV p l.l t)).map Nd.av=M at *
  rw [aD (KX _ _ _) Ox rfl (by simp [c15])]
  generalize aV p l.l t=C at *
  cases C with
  | atom ck cn vs=>
   simp only [wrF,wrV] at kw
   rw [aN] at mg
   simp [c15,KL,aa,k38,h0,q1,q2,q3,q4,k80,k81,mg,kw,k24]
  | gate cn cks=>
   simp only [wrF,wrV] at kw
   rw [aN,dV] at mg
   simp [c15,KL,aa,k38,h0,q1,q2,q3,q4,k80,k81,mg,kw,k24,lk]
 ·rw [if_pos hc]
  simp only [ez]
  generalize (flat 0 (aV p l.l t)).map Nd.av=M at *
  rw [aD (KX _ _ _) Ox rfl (by simp [c15])]
  generalize chk (aX p l.l t)=e at *
  generalize aV p l.l t=C at *
  cases C with
  | atom ck cn vs=>
   simp only [wrF,wrV] at kw
   rw [aN] at mg
   simp [c15,KL,aa,k38,h0,q1,q2,q3,q4,k80,k81,mg,kw,k24,hc]
  | gate cn cks=>
   simp only [wrF,wrV] at kw
   rw [aN,dV] at mg
   simp [c15,KL,aa,k38,h0,q1,q2,q3,q4,k80,k81,mg,kw,k24,lk,hc]
end Go.Ab.Pn
/-
  The evaluator that knows all references;the place of a field.
-/
namespace Go.Ab.Pn
open Go.Ab.Pol
set_option maxRecDepth 100000
set_option maxHeartbeats 4000000
open Go.Proofs
noncomputable def K5:Cfg:=K4.know kN
theorem O1:bP Tryz.prog (mu K5):=Ew rfl rfl Vd JN
theorem up5 {f:FuncId} {a:List AV} {h:Heap} {r:Out} (e:(mu K4).fn f a h=some r):(mu K5).fn f a h=some r:=(FO K4 kN).fn _ _ _ _ e
theorem Cv {f:FuncId} {a:List AV} {h:Heap} {r:Out} (e:(mu K).fn f a h=some r):(mu K5).fn f a h=some r:=up5 (up4 e)
theorem KX5 (f:FuncId) (a:List AV) (h:Heap) (h0:hkF f=false:=by rfl) (h1:f≠120:=by decide) (h2:f≠16:=by decide) (h3:f≠15:=by decide):K5.X f a h=none:=by
 show (match K4.X f a h with
   | some r=>some r
   | none=>(match kN f a h with
    | some r=>(match (mu K4).fn f a h with
     | some r'=>some r'
     | none=>some r)
    | none=>none))=none
 rw [KX4 f a h h0 h1 h2 h3,JM h2]
theorem KL5 (f:FuncId):K5.ij f=aa f:=rfl
theorem Ue {f:FuncId} {cf:aQ} (h:K.fns f=some cf):K5.fns f=some cf:=h
theorem C9 (p:Po) (hp:Sz p) (hc:chk p=0) (h:Heap) (hX:K4.X 16 [p.av] h=none):(mu K4).fn 16 [p.av] h=none:=by
 have k24:=fun h=>up4 (f51 p hp h)
 rw [hc] at k24
 have k74:=fun T h=>up4 (f52 p T h)
 have cb:∀ s,evC K4 (mu K4) .bad s=none:=fun _=>rfl
 have gs:∀ b,goS K4 (mu K4) b none=none:=fun _=>rfl
 rw [aD hX (Xn SI) rfl (by simp [c16])]
 simp [c16,KL4,aa,k24,k74,cb,wV,gs,wW]
theorem Ga {p:Po} {t:Tr} (g:Pol.Good p t) (n:Int) (hc:chk (jw n)=0) (e:p.av=(jw n).av):bL p t=bL (jw n) (bD 0 (Ii n)):=by
 have g2:Pol.Good (jw n) (bD 0 (Ii n)):=kH hc
 exact FQ g.isT g2.isT g.root g2.root e
theorem Uf (p:Po) (hp:Sz p) (hc:chk p=0) (t:Tr) (g:Pol.Good p t) (h:Heap):(mu K5).fn 16 [p.av] h=some (.val (.lst ((bL p t).map Rf.av)) h):=by
 have hK:K.X 16 [p.av] h=none:=KX _ _ _
 have e:K5.X 16 [p.av] h=some (.val (.lst ((bL p t).map Rf.av)) h):=by
  show (match K4.X 16 [p.av] h with
   | some r=>some r
   | none=>(match kN 16 [p.av] h with
    | some r=>(match (mu K4).fn 16 [p.av] h with
     | some r'=>some r'
     | none=>some r)
    | none=>none))=_
  have e4:K4.X 16 [p.av] h=exX 16 [p.av] h:=by
   show (match K.X 16 [p.av] h with
    | some r=>some r
    | none=>exX 16 [p.av] h)=_
   rw [hK]
  have ex:exX 16 [p.av] h=(if AV.dF [p.av] [(jw 2).av]=true∨AV.dF [p.av] [(jw 1).av]=true then some (.val (.lst (xm.map Rf.av)) h) else none):=rfl
  by_cases c:AV.dF [p.av] [(jw 2).av]=true∨AV.dF [p.av] [(jw 1).av]=true
  ·rw [e4,ex,if_pos c]
   have:bL p t=xm:=by
    rcases c with c | c
    ·have:=AV.dg _ _ c
     injection this with this
     rw [Ga g 2 BH this,Da]
    ·have:=AV.dg _ _ c
     injection this with this
     rw [Ga g 1 BI this,Db]
   rw [this]
  ·have e0:K4.X 16 [p.av] h=none:=by rw [e4,ex,if_neg c]
   rw [e0,CZ hp g h,C9 p hp hc h e0]
 rw [eJ]
 simp [step,gq,e]
theorem f37 (p:Po) (hp:Sz p) (l:Sl Sc) (hl:okL l) (r:Rf) (u k:Nat) (f:Pol.Fd) (hr:bw p l.l=0) (hf:findF p.uses.l l.l r=some (u,k,f)) (h:Heap) (a a':Loc) (ha:hget h a=some (.box 26 false p.av)) (ha':hget h a'=some (.box 27 false (l.avS Sc.av))) :
  (mu K).fn 37 [r.av,.ptr a 0,.ptr a' 0] h=some (.val (.tup [(pcR p.uses.l l.l r).av,f.av]) h):=by
 obtain ⟨n1,n2⟩:=mL ha
 obtain ⟨n3,n4⟩:=mL ha'
 have k38:=fun h=>f38 p hp l hl r h
 have e:jM p l.l r=(some (u,k,f),0):=by unfold jM;rw [if_neg (by simp [hr]),hf]
 simp only [e,iW,iM] at k38
 have ep:pcR p.uses.l l.l r=⟨(u:Int),(k:Int)+2⟩:=by unfold pcR;rw [hf]
 have qw:=au _ bX f.words
 rw [ep]
 rw [aD (KX _ _ _) WK rfl (by simp [c37])]
 simp [c37,KL,aa,hget,ha,ha',n1,n2,n3,n4,k38,qw,AV.beq,AV.dF]
end Go.Ab.Pn
/-
  The tj fields are laid: the loops of the program's function Of.
-/
namespace Go.Ab.Pn
open Go.Ab.Pol
set_option maxRecDepth 100000
set_option maxHeartbeats 4000000
/- Maps of words and of fields. -/
def wsG (k:Nat):List Bs->List (AV×AV)
 | []=>[]
 | w :: l=>(.str w,iV (k:Int)) :: wsG (k+1) l
theorem J3 (w:Bs):∀ (l:List Bs) (k:Nat),w∉l->pW (.one .str) (.str w) (iV ((k+l.length:Nat):Int)) (wsG k l)=some (wsG k (l++[w]))
 | [],k,_=>by simp [wsG,pW]
 | y :: l,k,h=>by
  simp only [List.mem_cons,not_or] at h
  have ih:=J3 w l (k+1) h.2
  rw [show k+1+l.length=k+(y :: l).length by simp only [List.length_cons];omega] at ih
  simp only [wsG,pW,eqK,eqF,h.1,decide_false,ih,List.cons_append]
theorem Gb (w:Bs):∀ (l:List Bs) (k:Nat),eZ (.one .str) (.str w) (wsG k l)=some ((l.findIdx? fun x=>decide (x=w)).map fun i=>iV ((k+i:Nat):Int))
 | [],k=>by simp [wsG,eZ]
 | y :: l,k=>by
  have ih:=Gb w l (k+1)
  by_cases e:w=y
  ·subst e
   simp [wsG,eZ,eqK,eqF,List.findIdx?_cons]
  ·have e':¬ y=w:=fun q=>e q.symm
   simp only [wsG,eZ,eqK,eqF,List.findIdx?_cons,e,e',decide_false,ih,Option.map_map]
   simp only [Bool.false_eq_true,if_false,Option.map_map]
   congr 2
   funext i
   simp only [Function.comp]
   congr 2
   omega
theorem P4 (f:Pol.Fd):WdM f (wsG 0 f.words.l):=fun w=>by
 have:=Gb w f.words.l 0
 simp only [Nat.zero_add] at this
 exact this
section
variable (n:Nat) (fdR:Rf->Pol.Fd)
def flG (k:Nat):List Rf->List (AV×AV)
 | []=>[]
 | r :: l=>(r.av,gp (k:Int) (fdR r) (.mp (n,5 * k+14))) :: flG (k+1) l
theorem J4 (r:Rf):∀ (l:List Rf) (k:Nat),r∉l->pW (.st [.str,.str]) r.av (gp ((k+l.length:Nat):Int) (fdR r) (.mp (n,5 * (k+l.length)+14))) (flG n fdR k l)=some (flG n fdR k (l++[r]))
 | [],k,_=>by simp [flG,pW]
 | y :: l,k,h=>by
  simp only [List.mem_cons,not_or] at h
  have ih:=J4 r l (k+1) h.2
  rw [show k+1+l.length=k+(y :: l).length by simp only [List.length_cons];omega] at ih
  have hne:eqK (.st [.str,.str]) r.av y.av=some false:=by
   obtain ⟨a,b⟩:=r
   obtain ⟨c,d⟩:=y
   have:¬ (a=c∧b=d):=fun q=>h.1 (by rw [q.1,q.2])
   simp only [eqK,cX,eqF]
   by_cases e1:a=c
   ·have e2:¬ b=d:=fun q=>this ⟨e1,q⟩
    simp [e2]
   ·simp [e1]
  simp only [flG,pW,hne,ih,List.cons_append]
theorem Gc (r:Rf):∀ (l:List Rf) (k:Nat),r∈l->eZ (.st [.str,.str]) r.av (flG n fdR k l)=some (some (gp ((k+(l.findIdx? fun x=>decide (x=r)).getD 0:Nat):Int) (fdR r) (.mp (n,5 * (k+(l.findIdx? fun x=>decide (x=r)).getD 0)+14))))
 | [],k,h=>by cases h
 | y :: l,k,h=>by
  by_cases e:y=r
  ·subst e
   simp [flG,eZ,eqK,cX,eqF,List.findIdx?_cons]
  ·have hm:r∈l:=by
    rcases List.mem_cons.1 h with q | q
    ·exact absurd q.symm e
    ·exact q
   have ih:=Gc r l (k+1) hm
   have hne:eqK (.st [.str,.str]) r.av y.av=some false:=by
    obtain ⟨a,b⟩:=r
    obtain ⟨c,d⟩:=y
    have:¬ (a=c∧b=d):=fun q=>e (by rw [q.1,q.2])
    simp only [eqK,cX,eqF]
    by_cases e1:a=c
    ·have e2:¬ b=d:=fun q=>this ⟨e1,q⟩
     simp [e2]
    ·simp [e1]
   obtain ⟨i,hi⟩:∃ i,(l.findIdx? fun x=>decide (x=r))=some i:=by
    cases q:l.findIdx? fun x=>decide (x=r) with
    | none=>
     rw [List.findIdx?_eq_none_iff] at q
     have:=q r hm
     simp at this
    | some i=>exact ⟨i,rfl⟩
   rw [hi] at ih
   simp only [flG,eZ,hne,ih,List.findIdx?_cons,e,decide_false,Bool.false_eq_true,if_false,hi,Option.map_some,Option.getD_some]
   rw [show k+1+i=k+(i+1) by omega]
end
theorem Dc (a4 a5 a6 a7 a8 a9 a15 a16 a77 a78 a79:AV) (nl:Bool) (ws:List Bs) (hk:ws.length<=1000) (hd:ws.Nodup) (b15 b16 b17:Blk) (c0 c1 c2 c3 c4 c5:AV) (T:List Blk) (h:Heap) :
  ∀ (s pre:List Bs),ws=pre++s->∃ env,
   (mu K5).code (.aj (T.length+5) [4,5,6,7,8,9,15,16,18,77,78,79,95,96,97] zS) ⟨[(4,a4),(5,a5),(6,a6),(7,a7),(8,a8),(9,a9),(15,a15),(16,a16),(18,.ptr (h.length,T.length+4) 0),(77,a77),(78,a78),(79,a79),(95,(⟨nl,ws⟩:Sl Bs).avS .str),(96,iV (ws.length:Int)),(97,iV (pre.length:Int))],
    (T++[b15,b16,b17,.map (wsG 0 pre),.box 102 false (.agg [c0,c1,c2,c3,c4,c5,.mp (h.length,T.length+3)])]) :: h⟩ =
   some (.exit 4,⟨env,(T++[b15,b16,b17,.map (wsG 0 ws),.box 102 false (.agg [c0,c1,c2,c3,c4,c5,.mp (h.length,T.length+3)])]) :: h⟩) ∧
   get env 4=a4∧get env 5=a5∧get env 6=a6∧get env 7=a7∧get env 8=a8∧get env 9=a9∧get env 15=a15∧get env 16=a16∧get env 18=.ptr (h.length,T.length+4) 0∧get env 77=a77∧get env 78=a78∧get env 79=a79
 | [],pre,e=>by
  rw [List.append_nil] at e
  subst e
  rw [ay]
  generalize (mu K5).code (.aj (T.length+5) [4,5,6,7,8,9,15,16,18,77,78,79,95,96,97] zS)=F
  simp [zS]
 | w :: s,pre,e=>by
  obtain ⟨env,ih,x⟩:=Dc a4 a5 a6 a7 a8 a9 a15 a16 a77 a78 a79 nl ws hk hd b15 b16 b17 c0 c1 c2 c3 c4 c5 T h s (pre++[w]) (by simp [e])
  refine ⟨env,?_,x⟩
  rw [<-ih]
  have hl:ws.length=pre.length+(s.length+1):=by rw [e];simp
  have c1:(pre.length < ws.length)=True:=eq_true (by omega)
  have hn:w∉pre:=fun hm=>by
   rw [e,List.nodup_append] at hd
   exact hd.2.2 w hm w (by simp) rfl
  have hu:=J3 w pre 0 hn
  simp only [Nat.zero_add] at hu
  have w2:IntKind.i64.wrap ((pre.length:Int)+1)=(pre.length:Int)+1:=wrap64 (by omega) (by omega)
  have hia:=fun (q:IntKind)=>aH (av:=AV.str) (sz:=1) (s:=⟨nl,ws⟩) (k:=q) (j:=(pre.length:Int)) (x:=w) (by omega) (by rw [e];simp) rfl
  rw [ay]
  generalize (mu K5).code (.aj (T.length+5) [4,5,6,7,8,9,15,16,18,77,78,79,95,96,97] zS)=F at *
  simp only [List.length_append,List.length_cons,List.length_nil,Nat.zero_add]
  rw [show ((pre.length+1:Nat):Int)=(pre.length:Int)+1 by omega]
  simp [zS,c1,hia,nS,nT,w2,hu,eqK,eqF]
end Go.Ab.Pn
/-
  The RF and the tj places.
-/
namespace Go.Ab.Pn
open Go.Ab.Pol
set_option maxRecDepth 100000
set_option maxHeartbeats 4000000
def pcB:List Pc->Blk
 | []=>.arr 0 0 false []
 | x :: r=>.arr 47 2 false ((x :: r).map Pc.av)
theorem pX (l:List Pc):∃ t z,pcB l=.arr t z false (l.map Pc.av)∧(z=0∨t=47∧z=2):=by
 cases l with
 | nil=>exact ⟨0,0,rfl,.inl rfl⟩
 | cons i s=>exact ⟨47,2,rfl,.inr ⟨rfl,rfl⟩⟩
theorem Dd (l:List Pc) (x:Pc):pcB (l++[x])=.arr 47 2 false (l.map Pc.av++[x.av]):=by
 cases l with
 | nil=>rfl
 | cons j s=>simp [pcB]
abbrev fnd (n:Nat):AV:=.fn (.func 37) [] [.ptr (n,0) 0,.ptr (n,1) 0]
abbrev OfF (p:Po) (l:Sl Sc) (q:Po) (nodes:Sl Nd) (es:List (AV×AV)) (D C:List Pc) (A S:List Pt) (n:Nat):List Blk:=
 [.box 26 false p.av,.box 27 false (l.avS Sc.av),.box 36 false (.agg [.af,.af,.af,.af,.af]),.box 37 false (iV 0),.box 26 false q.av,.map es,pcB D,pcB C,ptB A,ptB S,
  mkB nodes (n,5) (.own (n,6) D.length) (.own (n,7) C.length) (n,8) (n,9) A.length S.length]
theorem Cz (f:Loc->Bool) (p:Po):p.av.aJ f=true:=by simp [AV.aJ,AV.bH]
section
variable (p:Po) (hp:Sz p) (l:Sl Sc) (hl:okL l) (hr:bw p l.l=0) (q:Po) (nodes:Sl Nd) (h:Heap) (a7:AV) (p7:a7.pure=true)
include hp hl hr p7
theorem De (hv:∀ r∈p.aA.l,(findF p.uses.l l.l r).isSome=true) (hs:p.aA.l.length<=1000):∀ (s pre:List Rf),p.aA.l=pre++s->∃ env,
  (mu K5).code (.aj 11 [4,5,6,7,8,9,51,52,53] vC) ⟨[(4,.ptr (h.length,2) 0),(5,.ptr (h.length,3) 0),(6,.ptr (h.length,4) 0),(7,a7),(8,.ptr (h.length,10) 0),(9,fnd h.length),(51,p.aA.avS Rf.av),(52,iV (p.aA.l.length:Int)),(53,iV (pre.length:Int))],OfF p l q nodes [] (pre.map (pcR p.uses.l l.l)) [] [] [] h.length :: h⟩ =
   some (.exit 0,⟨env,OfF p l q nodes [] (p.aA.l.map (pcR p.uses.l l.l)) [] [] [] h.length :: h⟩) ∧
   get env 4=.ptr (h.length,2) 0∧get env 5=.ptr (h.length,3) 0∧get env 6=.ptr (h.length,4) 0∧get env 7=a7∧get env 8=.ptr (h.length,10) 0∧get env 9=fnd h.length
 | [],pre,hh=>by
  rw [List.append_nil] at hh
  rw [ay]
  generalize (mu K5).code (.aj 11 [4,5,6,7,8,9,51,52,53] vC)=F
  rw [hh]
  simp [vC]
 | r :: s,pre,hh=>by
  obtain ⟨env,ih,x⟩:=De hv hs s (pre++[r]) (by simp [hh])
  refine ⟨env,?_,x⟩
  rw [<-ih]
  have hlen:p.aA.l.length=pre.length+(s.length+1):=by rw [hh];simp
  have c1:(pre.length < p.aA.l.length)=True:=eq_true (by omega)
  have w2:IntKind.i64.wrap ((pre.length:Int)+1)=(pre.length:Int)+1:=wrap64 (by omega) (by omega)
  have hia:=fun (k:IntKind)=>aH (av:=Rf.av) (sz:=2) (s:=p.aA) (k:=k) (j:=(pre.length:Int)) (x:=r) (by omega) (by rw [hh];simp) rfl
  obtain ⟨⟨u,k,f⟩,hf⟩:=Option.isSome_iff_exists.1 (hv r (by rw [hh];simp))
  have k37:=fun H ha ha'=>Cv (f37 p hp l hl r u k f hr hf H (h.length,0) (h.length,1) ha ha')
  rw [List.map_append,List.map_cons,List.map_nil]
  have hlp:(pre.map (pcR p.uses.l l.l)).length=pre.length:=by simp
  generalize hD:pre.map (pcR p.uses.l l.l)=D at *
  generalize pcR p.uses.l l.l r=pc at *
  obtain ⟨ot,oz,ho,hz⟩:=pX D
  have r1:(D.length+1) * 16<=room:=by unfold room;omega
  have r2:D.length+1<=room:=by unfold room;omega
  have hs2:=Dd D pc
  have pq:=Cz
  have q7:=dW a7 p7
  have qw:=au _ bX f.words
  simp only [OfF,hs2,mkB,List.length_append,List.length_cons,List.length_nil,Nat.zero_add]
  rw [ho,show ((pre.length+1:Nat):Int)=(pre.length:Int)+1 by omega]
  rw [ay]
  generalize (mu K5).code (.aj 11 [4,5,6,7,8,9,51,52,53] vC)=F at *
  simp [vC,KL5,aa,c1,hia,w2,k37,r1,r2,hz,eW,pcB,q7,qw,AV.beq,AV.dF]
end
end Go.Ab.Pn
/-
  The tj fields.
-/
namespace Go.Ab.Pn
open Go.Ab.Pol
set_option maxRecDepth 100000
set_option maxHeartbeats 4000000
def fB (us:List Us) (l:List Sc) (r:Rf):Pol.Fd:=match findF us l r with
 | none=>zFd
 | some (_,_,f)=>f
theorem Gd (us:List Us) (l:List Sc) (n:Nd):ak us l n=fB us l ⟨n.nm,n.attr⟩:=rfl
def RR (n:Nat) (us:List Us) (l:List Sc) (k:Nat):List Rf->List Blk
 | []=>[]
 | r :: s=>.box 54 false r.av :: .box 47 false (pcR us l r).av :: .box 50 false (fB us l r).av :: .map (wsG 0 (fB us l r).words.l) :: .box 102 false (gp (k:Int) (fB us l r) (.mp (n,5 * k+14))) :: RR n us l (k+1) s
theorem Ge (n:Nat) (us:List Us) (l:List Sc) (r:Rf):∀ (s:List Rf) (k:Nat),RR n us l k (s++[r])=RR n us l k s++[.box 54 false r.av,.box 47 false (pcR us l r).av,.box 50 false (fB us l r).av,.map (wsG 0 (fB us l r).words.l),.box 102 false (gp ((k+s.length:Nat):Int) (fB us l r) (.mp (n,5 * (k+s.length)+14)))]
 | [],k=>by simp [RR]
 | x :: s,k=>by
  have ih:=Ge n us l r s (k+1)
  rw [show k+1+s.length=k+(x :: s).length by simp only [List.length_cons];omega] at ih
  simp only [List.cons_append,RR,ih]
theorem J5 (n:Nat) (us:List Us) (l:List Sc):∀ (s:List Rf) (k:Nat),(RR n us l k s).length=5 * s.length
 | [],k=>rfl
 | x :: s,k=>by simp only [RR,List.length_cons,J5 n us l s];omega
theorem Df (n:Nat) (F:Rf->Pol.Fd) (r:Rf):∀ (s:List Rf) (k:Nat),flG n F k (s++[r])=flG n F k s++[(r.av,gp ((k+s.length:Nat):Int) (F r) (.mp (n,5 * (k+s.length)+14)))]
 | [],k=>by simp [flG]
 | x :: s,k=>by
  have ih:=Df n F r s (k+1)
  rw [show k+1+s.length=k+(x :: s).length by simp only [List.length_cons];omega] at ih
  simp only [List.cons_append,flG,ih]
theorem M5 {p:Po} {l:List Sc} (hr:bw p l=0) (r:Rf) (hs:(findF p.uses.l l r).isSome=true):FdW (fB p.uses.l l r)∧(fB p.uses.l l r).words.l.Nodup:=by
 have e:=Gd p.uses.l l ⟨9,0,r.al,r.attr,⟨true,[]⟩,0⟩
 refine ⟨by have:=sG hr p.uses.l ⟨9,0,r.al,r.attr,⟨true,[]⟩,0⟩;rw [e] at this;exact this,?_⟩
 obtain ⟨⟨u,k,f⟩,hf⟩:=Option.isSome_iff_exists.1 hs
 have:fB p.uses.l l r=f:=by unfold fB;rw [hf]
 rw [this]
 obtain ⟨x,s,_,_,a3,a4,_⟩:=mO hf
 have h1:=(pT (lN (fO hr).2.1 s (rP a3).1)).2 f (List.mem_of_getElem? a4)
 unfold dm at h1
 split at h1
 ·split at h1
  ·exact absurd h1 (by decide)
  ·rename_i q
   have:f.words.l=[]:=by simpa using q
   rw [this]
   exact List.nodup_nil
 ·split at h1
  ·split at h1
   ·exact absurd h1 (by decide)
   ·unfold rW at h1
    split at h1
    ·exact absurd h1 (by decide)
    ·have key:∀ (ws met:List Bs),lD met ws=0->met.Nodup->(met++ws).Nodup:=by
      intro ws
      induction ws with
      | nil=>intro met _ h;simpa using h
      | cons w ws ih=>
       intro met hw hm
       simp only [lD] at hw
       split at hw
       ·exact absurd hw (by decide)
       split at hw
       ·exact absurd hw (by decide)
       ·rename_i q
        have:=ih (met++[w]) hw (by
         rw [List.nodup_append]
         exact ⟨hm,by simp,fun a ha b hb=>by
          rw [List.mem_singleton.1 hb]
          rintro rfl
          exact q ha⟩)
        simpa using this
     simpa using key f.words.l [] h1 List.nodup_nil
  ·exact absurd h1 (by decide)
section
variable (p:Po) (hp:Sz p) (l:Sl Sc) (hl:okL l) (hr:bw p l.l=0) (q:Po) (nodes:Sl Nd) (h:Heap) (a7:AV) (p7:a7.pure=true) (D:List Pc)
include hp hl hr p7
theorem M6 (refs pre s:List Rf) (r:Rf) (hh:refs=pre++r :: s) (hd:refs.Nodup) (hv:(findF p.uses.l l.l r).isSome=true) (hs:refs.length<=1000) :
  (mu K5).code (.aj 11 [4,5,6,7,8,9,77,78,79] qo) ⟨[(4,.ptr (h.length,2) 0),(5,.ptr (h.length,3) 0),(6,.ptr (h.length,4) 0),(7,a7),(8,.ptr (h.length,10) 0),(9,fnd h.length),(77,.lst (refs.map Rf.av)),(78,iV (refs.length:Int)),(79,iV (pre.length:Int))],(OfF p l q nodes (flG h.length (fB p.uses.l l.l) 0 pre) D (pre.map (pcR p.uses.l l.l)) [] [] h.length++RR h.length p.uses.l l.l 0 pre) :: h⟩ =
  (mu K5).code (.aj 11 [4,5,6,7,8,9,77,78,79] qo) ⟨[(4,.ptr (h.length,2) 0),(5,.ptr (h.length,3) 0),(6,.ptr (h.length,4) 0),(7,a7),(8,.ptr (h.length,10) 0),(9,fnd h.length),(77,.lst (refs.map Rf.av)),(78,iV (refs.length:Int)),(79,iV ((pre++[r]).length:Int))],(OfF p l q nodes (flG h.length (fB p.uses.l l.l) 0 (pre++[r])) D ((pre++[r]).map (pcR p.uses.l l.l)) [] [] h.length++RR h.length p.uses.l l.l 0 (pre++[r])) :: h⟩:=by
 have hlen:refs.length=pre.length+(s.length+1):=by rw [hh];simp
 have c1:(pre.length < refs.length)=True:=eq_true (by omega)
 have w2:IntKind.i64.wrap ((pre.length:Int)+1)=(pre.length:Int)+1:=wrap64 (by omega) (by omega)
 have hia:∀ (k:IntKind),iaF 2 (.lst (refs.map Rf.av)) (.int k (pre.length:Int))=some (.cV r.av 0):=fun k=>eP (by omega) (by rw [hh];simp) rfl
 obtain ⟨hw1,hw2⟩:=M5 hr r hv
 obtain ⟨⟨u,k,f⟩,hf⟩:=Option.isSome_iff_exists.1 hv
 have ef:fB p.uses.l l.l r=f:=by unfold fB;rw [hf]
 have k37:=fun H ha ha'=>Cv (f37 p hp l hl r u k f hr hf H (h.length,0) (h.length,1) ha ha')
 have hn:r∉pre:=fun hm=>by
  rw [hh,List.nodup_append] at hd
  exact hd.2.2 r hm r (by simp) rfl
 have hu:=J4 h.length (fB p.uses.l l.l) r pre 0 hn
 rw [Df] at hu ⊢
 rw [Ge,List.map_append,List.map_cons,List.map_nil]
 have rl:=J5 h.length p.uses.l l.l pre 0
 have hlp:(pre.map (pcR p.uses.l l.l)).length=pre.length:=by simp
 rw [ef] at hw1 hw2 hu ⊢
 simp only [Nat.zero_add] at hu ⊢
 generalize hD:pre.map (pcR p.uses.l l.l)=C at *
 generalize pcR p.uses.l l.l r=pc at *
 generalize flG h.length (fB p.uses.l l.l) 0 pre=es at *
 generalize RR h.length p.uses.l l.l 0 pre=R at *
 obtain ⟨ot,oz,ho,hz⟩:=pX C
 have r1:(C.length+1) * 16<=room:=by unfold room;omega
 have r2:C.length+1<=room:=by unfold room;omega
 have hs2:=Dd C pc
 have q7:=dW a7 p7
 have qw:=au _ bX f.words
 have n1:5 * pre.length+14=R.length+14:=by omega
 rw [n1] at hu ⊢
 simp only [OfF,hs2,mkB,List.length_append,List.length_cons,List.length_nil,Nat.zero_add]
 rw [ho,show ((pre.length+1:Nat):Int)=(pre.length:Int)+1 by omega]
 obtain ⟨env,k1,x4,x5,x6,x7,x8,x9,x15,x16,x18,x77,x78,x79⟩:=Dc (.ptr (h.length,2) 0) (.ptr (h.length,3) 0) (.ptr (h.length,4) 0) a7 (.ptr (h.length,10) 0) (fnd h.length) (.ptr (h.length,R.length+11) 0) (.ptr (h.length,R.length+12) 0) (.lst (refs.map Rf.av)) (iV (refs.length:Int)) (iV (pre.length:Int))
  f.words.nl f.words.l (by have:=hw1.2.2.2.2;omega) hw2 (.box 54 false r.av) (.box 47 false pc.av) (.box 50 false f.av) (iV (pre.length:Int)) (.str f.name) (iV f.kind) (iV f.mn) (iV f.mx) (f.words.avS .str)
  (.box 26 false p.av :: .box 27 false (l.avS Sc.av) :: .box 36 false (.agg [.af,.af,.af,.af,.af]) :: .box 37 false (iV 0) :: .box 26 false q.av :: .map es :: pcB D :: .arr ot oz false (C.map Pc.av) :: ptB [] :: ptB [] ::
   .box 95 false (.agg [nodes.avS Nd.av,.mp (h.length,5),.own (h.length,6) D.length,.own (h.length,7) C.length,.own (h.length,8) 0,.af,.own (h.length,9) 0]) :: R) h f.words.l [] rfl
 have ew:(⟨f.words.nl,f.words.l⟩:Sl Bs)=f.words:=rfl
 have w0:wsG 0 []=[]:=rfl
 rw [ew,w0] at k1
 rw [ay]
 generalize (mu K5).code (.aj 11 [4,5,6,7,8,9,77,78,79] qo)=F at *
 obtain ⟨ot2,oz2,ho2,_⟩:=pX D
 rw [ho2,eW] at k1
 rw [ho2,eW]
 have n2:(R.length+14 < 11)=False:=eq_false (by omega)
 simp [Nat.add_assoc] at k1
 have ek:eqK (.st [.str,.str]) r.av r.av=some true:=by simp [eqK,cX,eqF]
 simp [qo,KL5,aa,c1,hia,w2,k37,r1,r2,hz,q7,qw,AV.beq,AV.dF,k1,x4,x5,x6,x7,x8,x9,x15,x16,x18,x77,x78,x79,nS,mR,nT,mS,Nat.add_assoc,hu,ek,n2]
theorem Dh (refs:List Rf) (hd:refs.Nodup) (hv:∀ r∈refs,(findF p.uses.l l.l r).isSome=true) (hs:refs.length<=1000):∀ (s pre:List Rf),refs=pre++s->∃ env,
  (mu K5).code (.aj 11 [4,5,6,7,8,9,77,78,79] qo) ⟨[(4,.ptr (h.length,2) 0),(5,.ptr (h.length,3) 0),(6,.ptr (h.length,4) 0),(7,a7),(8,.ptr (h.length,10) 0),(9,fnd h.length),(77,.lst (refs.map Rf.av)),(78,iV (refs.length:Int)),(79,iV (pre.length:Int))],(OfF p l q nodes (flG h.length (fB p.uses.l l.l) 0 pre) D (pre.map (pcR p.uses.l l.l)) [] [] h.length++RR h.length p.uses.l l.l 0 pre) :: h⟩ =
   some (.exit 2,⟨env,(OfF p l q nodes (flG h.length (fB p.uses.l l.l) 0 refs) D (refs.map (pcR p.uses.l l.l)) [] [] h.length++RR h.length p.uses.l l.l 0 refs) :: h⟩) ∧
   get env 4=.ptr (h.length,2) 0∧get env 5=.ptr (h.length,3) 0∧get env 6=.ptr (h.length,4) 0∧get env 7=a7∧get env 8=.ptr (h.length,10) 0
 | [],pre,hh=>by
  rw [List.append_nil] at hh
  rw [ay]
  generalize (mu K5).code (.aj 11 [4,5,6,7,8,9,77,78,79] qo)=F
  rw [hh]
  simp [qo]
 | r :: s,pre,hh=>by
  obtain ⟨env,ih,x⟩:=Dh refs hd hv hs s (pre++[r]) (by simp [hh])
  refine ⟨env,?_,x⟩
  rw [<-ih]
  exact M6 p hp l hl hr q nodes h a7 p7 D refs pre s r hh hd (hv r (by rw [hh];simp)) hs
end
end Go.Ab.Pn
