/-
  Messages: how the package wire puts them.
-/
import Derived.Test.YtmedbcjomklohaaAb5tS1
set_option linter.unusedVariables false
set_option linter.unusedSimpArgs false
set_option linter.unusedSectionVars false
namespace Go.Ab.WireT
set_option maxRecDepth 100000
set_option maxHeartbeats 1000000
theorem enc_nms {a b:List It} (h:nms a=nms b):enc (.mk 2 [] [] true a)=enc (.mk 2 [] [] true b):=by
 rw [←enc_list,←enc_list,h]
theorem putS_nms {a b:List It} (h:nms a=nms b) (F L:Bool):putS F L a=putS F L b:=by
 unfold putS
 rw [enc_nms h]
theorem put_ok_ (kind:List UInt8) (g:FuncId) (cap:List AV) (hcap:∀ q hh,AV.views q cap hh=some (cap,hh)) (items:List It) (F L:Bool) (h:Heap) (hw:wts items≤900000) (hk:kind.length≤100)
  (hcl:(mu K).fn g (.ptr (h.length,0) 0 :: cap) (WR 84 ([.box 84 false (.agg [.bool false,.bool false]),.arr 56 4 false [(tI kind).av]] :: h) (h.length,0) false false) =
   some (.val (.lst (It.avs items)) (WR 84 ([.box 84 false (.agg [.bool false,.bool false]),.arr 56 4 false [(tI kind).av]] :: h) (h.length,0) F L))) :
  (mu K).fn 12 [.str kind,.fn (.func g) [] cap] h=some (.val (.tup [.str (putS F L (tI kind :: items)).1,.int .i64 (putS F L (tI kind :: items)).2]) h):=by
 have h27:=fun h=>f34 kind h
 have ok:=okL_wts items (by omega)
 have hn:=len_wts items
 have ok2:okL (tI kind :: items):=⟨⟨by simp,by omega,by simp,trivial⟩,ok⟩
 have hwt:wts (tI kind :: items)≤1000000:=by simp [wts,wt];omega
 have h64:∀ h,(mu K).fn 37 [.lst ((tI kind).av :: It.avs items)] h=some (.val (It.mk 2 [] [] false (nms (tI kind :: items))).av h):=fun h=>by
  have:=f37 false (tI kind :: items) h ok2 (by simp;omega) hwt
  simpa [It.avs] using this
 have okM:okI (It.mk 2 [] [] false (nms (tI kind :: items))):=⟨by simp,by simp,by rw [nms_len];simp;omega,okL_nms _ ok2⟩
 have hwM:wt (It.mk 2 [] [] false (nms (tI kind :: items)))≤1000000:=by simp only [wt,wts_nms];simp [wts,wt];omega
 have hdM:=dep_wt (It.mk 2 [] [] false (nms (tI kind :: items)))
 have hrM:=wr_wt (It.mk 2 [] [] false (nms (tI kind :: items))) hwM
 have h63:=fun h=>f36 (It.mk 2 [] [] false (nms (tI kind :: items))) h okM (by omega) (by omega)
 rw [enc_list] at h63
 have hr1:(1+items.length) * 64≤room:=by unfold room;omega
 have hr2:1+items.length≤room:=by unfold room;omega
 have hcm:items.length+1=1+items.length:=by omega
 have hz:=avs_sized items
 simp only [WR,hset] at hcl
 simp at hcl
 rw [fn_go (KX _ _ _) fn12 rfl (by simp [c12])]
 unfold putS
 cases F
 ·cases L
  ·simp [-sized,c12,KL,h27,hcl,hcap,h64,h63,hr1,hr2,hcm,hz,List.replicate]
  ·simp [-sized,c12,KL,h27,hcl,hcap,h64,h63,hr1,hr2,hcm,hz,List.replicate]
 ·simp [-sized,c12,KL,h27,hcl,hcap,h64,h63,hr1,hr2,hcm,hz,List.replicate]
abbrev kPr:List UInt8:=[112,114,101,115,101,110,116,97,116,105,111,110]
abbrev rPr (x:Pr):List It:=[rShs x.sh,rNs x.cm,rNss x.pa,rNss x.sq,nI x.ny,nI x.se,nI x.co,rNs x.cp,rNs ⟨false,[x.es.a,x.es.b]⟩,rPf x.p]
abbrev wPr (x:Pr):List It:=[nm (rShs x.sh),nm (rNs x.cm),nm (rNss x.pa),nm (rNss x.sq),nI x.ny,nI x.se,nI x.co,nm (rNs x.cp),nm (rNs ⟨false,[x.es.a,x.es.b]⟩),nm (rPf x.p)]
abbrev bPr (x:Pr):Bool:=x.sh.l.any bSh || (bNs x.cm || (bNss x.pa || (bNss x.sq || (bN x.ny || (bN x.se || (bN x.co || (bNs x.cp || (bNs ⟨false,[x.es.a,x.es.b]⟩ || (bPf x.p)))))))))
abbrev oPr (x:Pr):Bool:=x.sh.l.any (fun y=>outB y.ve)
theorem nms_wPr (x:Pr):nms (wPr x)=nms (rPr x):=by simp [nms,nm_nm]
theorem wts_wPr (x:Pr):wts (wPr x)=wts (rPr x):=by rw [←wts_nms,nms_wPr,wts_nms]
def pPr (x:Pr):List UInt8×Int:=putS (bPr x) (oPr x) (tI kPr :: rPr x)
theorem w92 (x:Pr) (hx:wts (rPr x)≤900000) {h:Heap} {a c:Loc} {fz:Bool} (d:dom h a) (hc:hget h c=some (.box 33 fz x.av)) (hne:c≠a) (f l:Bool) :
  (mu K).fn 13 [.ptr a 0,.ptr c 0] (WR 84 h a f l)=some (.val (.lst (It.avs (wPr x))) (WR 84 h a (f || bPr x) (l || oPr x))):=by
 have gc:∀ f l,hget (WR 84 h a f l) c=some (.box 33 fz x.av):=fun f l=>by rw [get_other hne];exact hc
 have lc:=ne_len (dom_of hc)
 simp only [wts] at hx
 have d2:=dom_push' (f:=[]) d
 have kn:=fun f l s=>w78 _ a d2 f l s trivial
 simp only [wr_push d] at kn
 have h0:wt (rShs x.sh)≤900000:=by omega
 have k0:=fun f l=>list_wA (av:=Sh.cs) L93 rfl (by omega) (fun y=>rfl) (fun y=>by simp) w94 (fun y=>nm_nm _) d2 f l x.sh h0
 simp only [wr_push d] at k0
 have h1:wt (rNs x.cm)≤900000:=by omega
 have k1:=fun f l=>w86 _ a d2 f l x.cm h1
 simp only [wr_push d] at k1
 have h2:wt (rNss x.pa)≤900000:=by omega
 have k2:=fun f l=>list_w L95 (fun y=>by simp) (fun y=>by simp) (fun y=>by simp) w86 (fun y=>nm_nm _) d2 f l x.pa h2
 simp only [wr_push d] at k2
 have h3:wt (rNss x.sq)≤900000:=by omega
 have k3:=fun f l=>list_w L95 (fun y=>by simp) (fun y=>by simp) (fun y=>by simp) w86 (fun y=>nm_nm _) d2 f l x.sq h3
 simp only [wr_push d] at k3
 have h7:wt (rNs x.cp)≤900000:=by omega
 have k7:=fun f l=>w86 _ a d2 f l x.cp h7
 simp only [wr_push d] at k7
 have h8:wt (rNs ⟨false,[x.es.a,x.es.b]⟩)≤900000:=by omega
 have k8:=fun f l=>w86 _ a d2 f l ⟨false,[x.es.a,x.es.b]⟩ h8
 simp only [wr_push d,avNs,Sl.avS,lv_false,List.map_cons,List.map_nil] at k8
 have h9:wt (rPf x.p)≤900000:=by omega
 have k9:=fun f l=>w80 _ a d2 f l x.p h9
 simp only [wr_push d] at k9
 rw [fn_go (KX _ _ _) fn13 rfl (by simp [c13])]
 simp [c13,KL,gc,lc,kn,k0,k1,k2,k3,k7,k8,k9,no,any_no,List.replicate,Bool.or_assoc,It.avs,beq_Ns,beq_Is,beq_Nss,beq_Iss,beq_Shs]
 try simp [bPr,oPr,bSg,bPf,Bool.or_assoc]
theorem f6 (x:Pr) (hx:wts (rPr x)≤900000) (h:Heap):(mu K).fn 6 [x.av] h=some (.val (.tup [.str (pPr x).1,.int .i64 (pPr x).2]) h):=by
 have hcl:=w92 x hx (h:=[.box 84 false (.agg [.bool false,.bool false]),.arr 56 4 false [(tI kPr).av]] :: [.box 33 false x.av] :: h) (a:=(h.length+1,0)) (c:=(h.length,0)) (fz:=false) (by simp [dom,hget]) (by simp [hget]) (by simp) false false
 have k:=put_ok_ kPr 13 [.ptr (h.length,0) 0] (fun q hh=>by simp) (wPr x) (bPr x) (oPr x) ([.box 33 false x.av] :: h) (by rw [wts_wPr];exact hx) (by simp) (by simpa only [List.length_cons,Bool.false_or] using hcl)
 rw [putS_nms (a:=tI kPr :: wPr x) (b:=tI kPr :: rPr x) (by show nm (tI kPr) :: nms (wPr x)=nm (tI kPr) :: nms (rPr x);rw [nms_wPr])] at k
 unfold pPr
 generalize putS (bPr x) (oPr x) (tI kPr :: rPr x)=R at *
 rw [fn_go (KX _ _ _) fn6 rfl (by simp [c6])]
 simp [c6,KL,k]
end Go.Ab.WireT
