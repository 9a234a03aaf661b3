/-
  What is put is got: the plain law.
-/
import Derived.Test.YtmedbcjomklohaaAb5tS1
import Derived.Test.YtmedbcjomklohaaAb5tS2
set_option linter.unusedVariables false
set_option linter.unusedSimpArgs false
set_option linter.unusedSectionVars false
namespace Go.Ab.WireT
set_option maxRecDepth 100000
set_option maxHeartbeats 1000000
theorem natV_trim:∀ s:List UInt8,natV (trim0 s) 0=natV s 0
 | []=>rfl
 | b :: s=>by
  simp only [trim0]
  split
  ·rename_i hb
   subst hb
   rw [natV_trim s]
   simp [natV]
  ·rfl
theorem natV_nat8 (n:Nat) (h:n < 18446744073709551616):natV (nat8 n) 0=n:=by
 simp only [nat8,natV]
 simp
 omega
theorem canon_trim:∀ s:List UInt8,s.length≤128→canon (trim0 s)=true
 | [],_=>by simp [trim0,canon]
 | b :: s,h=>by
  simp only [trim0]
  split
  ·exact canon_trim s (by simp at h;omega)
  ·rename_i hb
   simp [canon,hb] at h ⊢
   omega
theorem trim_len:∀ s:List UInt8,(trim0 s).length≤s.length
 | []=>by simp [trim0]
 | b :: s=>by
  have:=trim_len s
  simp only [trim0]
  split<;>simp<;>omega
theorem numV_numB {n:Int} (h:outB n=false):numV (numB n)=(n,false):=by
 unfold outB at h
 simp only [decide_eq_false_iff_not] at h
 have hm:n.toNat < 18446744073709551616:=by omega
 have e1:numB n=natB n.toNat:=by unfold numB;rw [if_neg h]
 have e2:smallN (natB n.toNat)=(n.toNat,true):=by
  unfold smallN
  have h8:(natB n.toNat).length≤8:=Nat.le_trans (trim_len _) (by simp [nat8])
  rw [if_pos ⟨canon_trim _ (by simp [nat8]),h8⟩]
  simp only [natB,natV_trim,natV_nat8 _ hm]
 unfold numV
 rw [e1,e2]
 have h1:n.toNat≤2147483647:=by omega
 simp [h1]
 omega
def Fwd {α:Type} (ip:IP α) (r:α→It) (bad out:α→Bool) (z:α→α):Prop:=∀ (x:α) (b:Bool),bad x=false→out x=false→ip (nm (r x)) b=some (z x,b)
theorem fwd_nat:Fwd iNat nI bN no id:=fun x b h _=>by simp [iNat,nm,It.k,It.nn]
theorem fwd_text:Fwd iText tI no no id:=fun x b h _=>by simp [iText,nm,It.k,It.tt]
theorem fwd_num:Fwd iNum (fun n=>nI (numB n)) no outB id:=fun x b h h2=>by simp [iNum,nm,It.k,It.nn,numV_numB h2]
theorem fwd_int:Fwd iInt rI bI no id:=fun g b h _=>by
 have e:nm (rI g)=intI g.ng g.ab:=rfl
 have h':canon g.ab=true∧(g.ng=true→g.ab≠[]):=by
  simp only [bI,Bool.not_eq_false',Bool.and_eq_true,Bool.not_eq_true',Bool.and_eq_false_iff,decide_eq_false_iff_not] at h
  exact ⟨h.1,fun e=>h.2.resolve_left (by simp [e])⟩
 simp only [iInt,e,toI_intI,if_pos h']
 simp [It.k]
theorem fwd_all {α:Type} {ip:IP α} {r:α→It} {bad out:α→Bool} {z:α→α} (H:Fwd ip r bad out z):∀ (l:List α) (b:Bool),l.any bad=false→l.any out=false→mItems ip (nms (l.map r)) b=some (l.map z,b)
 | [],b,_,_=>rfl
 | x :: l,b,h1,h2=>by
  simp only [List.any_cons,Bool.or_eq_false_iff] at h1 h2
  simp only [List.map_cons,nms,mItems,H x b h1.1 h2.1,fwd_all H l b h1.2 h2.2]
abbrev Sl.z {α:Type} (z:α→α) (s:Sl α):Sl α:=⟨false,s.l.map z⟩
theorem fwd_sl {α:Type} {ip:IP α} {r:α→It} {bad out:α→Bool} {z:α→α} (H:Fwd ip r bad out z):Fwd (iSl ip) (rL r) (fun s=>s.l.any bad) (fun s=>s.l.any out) (Sl.z z):=fun s b h1 h2=>by
 simp [iMap,iInner,sAll,nm,It.k,It.ll,fwd_all H s.l b h1 h2]
theorem fwd_Ns:Fwd iNs rNs bNs no (Sl.z id):=fun s b h1 h2=>fwd_sl fwd_nat s b h1 (any_no _)
theorem fwd_Is:Fwd iIs rIs bIs no (Sl.z id):=fun s b h1 h2=>fwd_sl fwd_int s b h1 (any_no _)
theorem fwd_Nss:Fwd iNss rNss bNss no (Sl.z (Sl.z id)):=fun s b h1 h2=>fwd_sl fwd_Ns s b h1 (any_no _)
theorem fwd_Iss:Fwd iIss rIss bIss no (Sl.z (Sl.z id)):=fun s b h1 h2=>fwd_sl fwd_Is s b h1 (any_no _)
def Pf.z (x:Pf):Pf:=⟨x.c,x.rs.z id,x.gs.z id,x.ls.z (Sl.z id)⟩
theorem fwd_Pf:Fwd iPf rPf bPf no Pf.z:=fun x b h _=>by
 simp only [bPf,Bool.or_eq_false_iff] at h
 have k1:=fwd_nat x.c b h.1 rfl
 have k2:=fwd_Is x.rs b h.2.1 rfl
 have k3:=fwd_Ns x.gs b h.2.2.1 rfl
 have k4:=fwd_Iss x.ls b h.2.2.2 rfl
 simp only [nm,nms] at k1 k2 k3 k4
 simp only [iPf,iInner,sPf,sBind,sRet,nm,nms,It.k,It.ll,one,k1,k2,k3,k4,if_true]
 rfl
def Sh.z (x:Sh):Sh:=⟨x.is,x.ve,x.a,x.w,x.ds.z id⟩
theorem fwd_Sh:Fwd iSh rSh bSh (fun x=>outB x.ve) Sh.z:=fun x b h h2=>by
 simp only [bSh,Bool.or_eq_false_iff] at h
 have k0:=fwd_text x.is b rfl rfl
 have k1:=fwd_num x.ve b rfl h2
 have k2:=fwd_nat x.a b h.1 rfl
 have k3:=fwd_nat x.w b h.2.1 rfl
 have k4:=fwd_Ns x.ds b h.2.2 rfl
 simp only [nm,nms] at k0 k1 k2 k3 k4
 simp only [iSh,iInner,sSh,sBind,sRet,nm,nms,It.k,It.ll,one,k0,k1,k2,k3,k4,if_true]
 rfl
theorem fwd_P2 (a b':List UInt8) (b:Bool):iP2 (nm (rNs ⟨false,[a,b']⟩)) b=some (⟨a,b'⟩,b):=by
 simp [iInner,sP2,sBind,sRet,one,nm,nms,It.k,It.ll,It.nn,iNat]
theorem fwd_Shs:Fwd (iSl iSh) rShs (fun s=>s.l.any bSh) (fun s=>s.l.any fun y=>outB y.ve) (Sl.z Sh.z):=fwd_sl fwd_Sh
theorem enc_ok {i:It} (he:(enc i).2=0):enc i=(wr i,0)∧vld i=true∧dep i≤32∧(wr i).length≤65536:=by
 unfold enc at *
 split at he
 ·cases he
 split at he
 ·cases he
 split at he
 ·cases he
 ·rename_i h1 h2 h3
  exact ⟨by rw [if_neg h1,if_neg h2,if_neg h3],by simpa using h1,by omega,by omega⟩
theorem put_ok {f l:Bool} {items:List It} (h:(putS f l items).2=0):f=false∧l=false∧(enc (.mk 2 [] [] true items)).2=0∧putS f l items=(wr (.mk 2 [] [] true items),0):=by
 unfold putS at *
 cases f
 ·cases l
  ·simp at h ⊢
   exact ⟨h,(enc_ok h).1⟩
  ·simp at h
 ·simp at h
theorem get_put {α:Type} (z x:α) (kind:List UInt8) (sp:SP α) (items:List It) (he:(enc (.mk 2 [] [] true (tI kind :: items))).2=0)
  (hs:sp (nms items) false=some (x,[],false)):getS z kind sp (wr (.mk 2 [] [] true (tI kind :: items)))=(x,0):=by
 obtain ⟨_,e2,e3,e4⟩:=enc_ok he
 have hd:=dcS_wr e2 e3 e4
 have k0:=fwd_text kind false rfl rfl
 unfold getS
 rw [hd]
 simp only [nm,nms] at k0 ⊢
 simp [one,iInner,sKind,It.k,It.ll,k0,hs]
def Rq.z (x:Rq):Rq:=⟨x.c,x.n,x.p.z⟩
def Rs.z (x:Rs):Rs:=⟨x.ats.z id,x.sg,x.w,x.e⟩
def Hd.z (x:Hd):Hd:=⟨x.is,x.sc,x.ve,x.ats.z id,x.sg,x.e,x.w⟩
def Dl.z (x:Dl):Dl:=⟨x.f,x.t,x.ad.z id,x.rm.z id,x.be,x.af,x.sg⟩
def Pr.z (x:Pr):Pr:=⟨x.sh.z Sh.z,x.cm.z id,x.pa.z (Sl.z id),x.sq.z (Sl.z id),x.ny,x.se,x.co,x.cp.z id,x.es,x.p.z⟩
def Qu.z (x:Qu):Qu:=x
def zPr:Pr:=⟨⟨true,[]⟩,⟨true,[]⟩,⟨true,[]⟩,⟨true,[]⟩,[],[],[],⟨true,[]⟩,⟨[],[]⟩,⟨[],⟨true,[]⟩,⟨true,[]⟩,⟨true,[]⟩⟩⟩
def gPr (s:List UInt8):Pr×Int:=getS zPr kPr sPr s
theorem fwd_Pr (x:Pr) (h1:bPr x=false) (h2:oPr x=false):sPr (nms (rPr x)) false=some (x.z,[],false):=by
 simp only [bPr,Bool.or_eq_false_iff] at h1
 have k0:=fwd_Shs x.sh false h1.1 h2
 have k1:=fwd_Ns x.cm false h1.2.1 rfl
 have k2:=fwd_Nss x.pa false h1.2.2.1 rfl
 have k3:=fwd_Nss x.sq false h1.2.2.2.1 rfl
 have k4:=fwd_nat x.ny false h1.2.2.2.2.1 rfl
 have k5:=fwd_nat x.se false h1.2.2.2.2.2.1 rfl
 have k6:=fwd_nat x.co false h1.2.2.2.2.2.2.1 rfl
 have k7:=fwd_Ns x.cp false h1.2.2.2.2.2.2.2.1 rfl
 have k8:=fwd_P2 x.es.a x.es.b false
 have k9:=fwd_Pf x.p false (by simp only [bPf,Bool.or_eq_false_iff];exact h1.2.2.2.2.2.2.2.2.2) rfl
 simp only [nm,nms] at k0 k1 k2 k3 k4 k5 k6 k7 k8 k9
 simp only [sPr,sBind,sRet,nm,nms,one,k0,k1,k2,k3,k4,k5,k6,k7,k8,k9]
 rfl
theorem got_Pr (x:Pr) (he:(pPr x).2=0):gPr (pPr x).1=(x.z,0):=by
 obtain ⟨h1,h2,h3,h4⟩:=put_ok he
 unfold pPr
 rw [h4]
 exact get_put _ _ _ _ _ h3 (fwd_Pr x h1 h2)
end Go.Ab.WireT
