/-
  Messages: their shapes, and how they are read.
-/
import Derived.Test.YtmedbcjomklohaaAb5tR3
set_option linter.unusedVariables false
set_option linter.unusedSimpArgs false
set_option linter.unusedSectionVars false
namespace Go.Ab.WireT
set_option maxRecDepth 100000
set_option maxHeartbeats 1000000
structure Sl (α:Type) where
 nl:Bool
 l:List α
abbrev Sl.avS {α:Type} (av:α→AV) (s:Sl α):AV:=lv s.nl (s.l.map av)
structure Ig where
 ng:Bool
 ab:List UInt8
abbrev Ig.av (i:Ig):AV:=iav i.ng i.ab
abbrev avNs (s:Sl (List UInt8)):AV:=s.avS .str
abbrev avNss (s:Sl (Sl (List UInt8))):AV:=s.avS avNs
abbrev avIs (s:Sl Ig):AV:=s.avS Ig.av
abbrev avIss (s:Sl (Sl Ig)):AV:=s.avS avIs
structure Qu where
 p:List UInt8
 v:List UInt8
 n:List UInt8
 e:Int
 d:Int
abbrev Qu.cs (x:Qu):List AV:=[.str x.p,.str x.v,.str x.n,.int .i64 x.e,.int .i64 x.d]
abbrev Qu.av (x:Qu):AV:=.agg x.cs
structure Sg where
 a:List UInt8
 e:List UInt8
 v:List UInt8
abbrev Sg.cs (x:Sg):List AV:=[.str x.a,.str x.e,.str x.v]
abbrev Sg.av (x:Sg):AV:=.agg x.cs
structure P2 where
 a:List UInt8
 b:List UInt8
abbrev P2.cs (x:P2):List AV:=[.str x.a,.str x.b]
abbrev P2.av (x:P2):AV:=.agg x.cs
structure Pf where
 c:List UInt8
 rs:Sl Ig
 gs:Sl (List UInt8)
 ls:Sl (Sl Ig)
abbrev Pf.cs (x:Pf):List AV:=[.str x.c,avIs x.rs,avNs x.gs,avIss x.ls]
abbrev Pf.av (x:Pf):AV:=.agg x.cs
structure Sh where
 is:List UInt8
 ve:Int
 a:List UInt8
 w:List UInt8
 ds:Sl (List UInt8)
abbrev Sh.cs (x:Sh):List AV:=[.str x.is,.int .i64 x.ve,.str x.a,.str x.w,avNs x.ds]
abbrev Sh.av (x:Sh):AV:=.agg x.cs
abbrev avShs (s:Sl Sh):AV:=s.avS Sh.av
structure Rq where
 c:List UInt8
 n:List UInt8
 p:Pf
abbrev Rq.cs (x:Rq):List AV:=[.str x.c,.str x.n,.str x.p.c,avIs x.p.rs,avNs x.p.gs,avIss x.p.ls]
abbrev Rq.av (x:Rq):AV:=.agg x.cs
structure Rs where
 ats:Sl (List UInt8)
 sg:Sg
 w:List UInt8
 e:Int
abbrev Rs.cs (x:Rs):List AV:=[avNs x.ats,.str x.sg.a,.str x.sg.e,.str x.sg.v,.str x.w,.int .i64 x.e]
abbrev Rs.av (x:Rs):AV:=.agg x.cs
structure Hd where
 is:List UInt8
 sc:List UInt8
 ve:Int
 ats:Sl (List UInt8)
 sg:Sg
 e:Int
 w:List UInt8
abbrev Hd.cs (x:Hd):List AV:=[.str x.is,.str x.sc,.int .i64 x.ve,avNs x.ats,.str x.sg.a,.str x.sg.e,.str x.sg.v,.int .i64 x.e,.str x.w]
abbrev Hd.av (x:Hd):AV:=.agg x.cs
structure Dl where
 f:Int
 t:Int
 ad:Sl (List UInt8)
 rm:Sl (List UInt8)
 be:List UInt8
 af:List UInt8
 sg:P2
abbrev Dl.cs (x:Dl):List AV:=[.int .i64 x.f,.int .i64 x.t,avNs x.ad,avNs x.rm,.str x.be,.str x.af,.str x.sg.a,.str x.sg.b]
abbrev Dl.av (x:Dl):AV:=.agg x.cs
structure Pr where
 sh:Sl Sh
 cm:Sl (List UInt8)
 pa:Sl (Sl (List UInt8))
 sq:Sl (Sl (List UInt8))
 ny:List UInt8
 se:List UInt8
 co:List UInt8
 cp:Sl (List UInt8)
 es:P2
 p:Pf
abbrev Pr.cs (x:Pr):List AV:=[avShs x.sh,avNs x.cm,avNss x.pa,avNss x.sq,.str x.ny,.str x.se,.str x.co,avNs x.cp,.str x.es.a,.str x.es.b,.str x.p.c,avIs x.p.rs,avNs x.p.gs,avIss x.p.ls]
abbrev Pr.av (x:Pr):AV:=.agg x.cs
def sBind {α β:Type} (s:SP α) (k:α→SP β):SP β:=fun l b=>match s l b with
 | none=>none
 | some (x,l1,b1)=>k x l1 b1
def sRet {α:Type} (x:α):SP α:=fun l b=>some (x,l,b)
def iMap {α β:Type} (f:α→β) (ip:IP α):IP β:=fun i b=>match ip i b with
 | some (x,b')=>some (f x,b')
 | none=>none
theorem one_map {α β:Type} (f:α→β) (ip:IP α) (l:List It) (b:Bool):one (iMap f ip) l b=match one ip l b with
  | some (x,r,b')=>some (f x,r,b')
  | none=>none:=by
 cases l with
 | nil=>rfl
 | cons i r=>
  simp only [one,iMap]
  cases ip i b with
  | none=>rfl
  | some y=>rfl
abbrev iSl {α:Type} (ip:IP α):IP (Sl α):=iMap (Sl.mk false) (iInner (sAll ip))
def iInt:IP Ig:=fun i b=>if i.k=2 then (if (toI i).2.2=true then some (⟨(toI i).1,(toI i).2.1⟩,b) else none) else none
theorem reads_sl {f f1 fi M:FuncId} {et sz bytes:Nat} {z:AV} {tf:TypeId} {α:Type} {ip:IP α} {av:α→AV} (hf:K.fns f=some (elemsF tf f1 fi)) (hf1:K.fns f1=some (elems1 et sz bytes z)) (hfi:K.fns fi=some innerS)
  (hz:z.cells.length=sz) (hzp:z.pure=true) (hby:bytes≤1000) (hav:∀ x,(av x).cells.length=sz) (hpu:∀ x,(av x).refOk (fun _=>false)=true) (hM:Reads M (one ip) av)
  {h:Heap} {a g:Loc} (p:RP h a g) (nl:Bool) (l:List It) (b:Bool) (hw:wts l≤1000000):match one (iSl ip) l b with
  | some (x,r,b')=>∃ nl',(mu K).fn f [.ptr a 0,.fn (.func M) [] []] (RD h a g nl l b)=some (.val (Sl.avS av x) (RD h a g nl' r b'))
  | none=>∃ nl' r b',(mu K).fn f [.ptr a 0,.fn (.func M) [] []] (RD h a g nl l b)=some (.pan wrong (RD h a g nl' r b')):=by
 have:=elems_ok hf hf1 hfi hz hzp hby hav hpu hM p nl l b hw
 rw [one_map]
 cases e:one (iInner (sAll ip)) l b with
 | none=>rw [e] at this;exact this
 | some y=>
  obtain ⟨x,r,b'⟩:=y
  rw [e] at this
  simp only [Sl.avS,lv_false]
  exact this
theorem r76:Reads 76 (one iInt) Ig.av:=fun h a g p _ nl l b hw=>by
 have p2:=p.push [.box 118 false (.agg [.bool false,.str []])]
 have k1:=f56 2 nl l (RD ([.box 118 false (.agg [.bool false,.str []])] :: h) a g nl l b) a g (rd_a p2 nl l b) p.le
 simp only [rd_push p,hset,rd_len p,rd_length,if_false,rd_seta p] at k1
 cases l with
 | nil=>
  simp only [rItem] at k1
  refine ⟨nl,[],b,?_⟩
  rw [fn_go (KX _ _ _) fn76 rfl (by simp [c76])]
  simp [c76,KL,k1]
 | cons i r=>
  simp only [rItem] at k1
  by_cases hk:i.k=2
  ·have ok:okI i:=ok_wt i (by simp only [wts] at hw;omega)
   have k2:=fun h=>f90 i h ok
   simp only [one,iInt,hk,if_true] at k1 ⊢
   generalize toI i=T at *
   obtain ⟨ng,ab,q⟩:=T
   cases q
   ·refine ⟨false,r,b,?_⟩
    rw [fn_go (KX _ _ _) fn76 rfl (by simp [c76])]
    simp [c76,KL,k1,k2]
   ·refine ⟨false,?_⟩
    rw [fn_go (KX _ _ _) fn76 rfl (by simp [c76])]
    simp [c76,KL,k1,k2]
  ·simp only [one,iInt,hk,if_false] at k1 ⊢
   refine ⟨nl,i :: r,b,?_⟩
   rw [fn_go (KX _ _ _) fn76 rfl (by simp [c76])]
   simp [c76,KL,k1]
theorem e122:K.fns 53=some (elemsF 106 74 73):=fn53
theorem e165:K.fns 74=some (elems1 25 1 16 (.str [])):=fn74
theorem e164:K.fns 73=some (innerS):=fn73
theorem e159:K.fns 75=some (elemsF 133 89 88):=fn75
theorem e183:K.fns 89=some (elems1 118 2 24 (.agg [(.bool false),(.str [])])):=fn89
theorem e182:K.fns 88=some (innerS):=fn88
theorem e70:K.fns 25=some (elemsF 71 55 54):=fn25
theorem e141:K.fns 55=some (elems1 23 1 24 .nils):=fn55
theorem e140:K.fns 54=some (innerS):=fn54
theorem e116:K.fns 62=some (elemsF 114 78 77):=fn62
theorem e162:K.fns 78=some (elems1 28 1 24 .nils):=fn78
theorem e161:K.fns 77=some (innerS):=fn77
theorem e68:K.fns 22=some (elemsF 67 49 48):=fn22
theorem e137:K.fns 49=some (elems1 46 5 80 (.agg [(.str []),(.int .i64 (0:Int)),(.str []),(.str []),.nils])):=fn49
theorem e136:K.fns 48=some (innerS):=fn48
abbrev iNs:IP (Sl (List UInt8)):=iSl iNat
abbrev iIs:IP (Sl Ig):=iSl iInt
abbrev iNss:IP (Sl (Sl (List UInt8))):=iSl iNs
abbrev iIss:IP (Sl (Sl Ig)):=iSl iIs
theorem r24:Reads 24 (one iNs) avNs:=fun h a g p _ nl l b hw=>by
 have k:=reads_sl e122 e165 e164 rfl rfl (by omega) (fun x=>rfl) (fun x=>rfl) r26 (p.push []) nl l b hw
 simp only [rd_push p] at k
 rw [fn_go (KX _ _ _) fn24 rfl (by simp [c24])]
 cases e:one iNs l b with
 | none=>
  rw [e] at k
  obtain ⟨nl',r,b',k⟩:=k
  exact ⟨nl',r,b',by simp [c24,KL,k]⟩
 | some y=>
  obtain ⟨x,r,b'⟩:=y
  rw [e] at k
  simp only at k ⊢
  obtain ⟨nl',k⟩:=k
  exact ⟨nl',by simp [c24,KL,k]⟩
theorem r61:Reads 61 (one iIs) avIs:=fun h a g p _ nl l b hw=>by
 have k:=reads_sl e159 e183 e182 rfl rfl (by omega) (fun x=>rfl) (fun x=>rfl) r76 (p.push []) nl l b hw
 simp only [rd_push p] at k
 rw [fn_go (KX _ _ _) fn61 rfl (by simp [c61])]
 cases e:one iIs l b with
 | none=>
  rw [e] at k
  obtain ⟨nl',r,b',k⟩:=k
  exact ⟨nl',r,b',by simp [c61,KL,k]⟩
 | some y=>
  obtain ⟨x,r,b'⟩:=y
  rw [e] at k
  simp only at k ⊢
  obtain ⟨nl',k⟩:=k
  exact ⟨nl',by simp [c61,KL,k]⟩
theorem i131:K.fns 57=some (innerA 73 [.str [],.str []] 2):=fn57
def sP2:SP P2:=sBind (one iNat) fun x_a=>sBind (one iNat) fun x_b=>sRet ⟨x_a,x_b⟩
theorem r58:Reads 58 sP2 P2.av:=fun h a g p _ nl l b hw=>by
 simp only [sP2,sBind]
 have k0:=r26.at_ (p.push [.box 73 false (.agg [.str [],.str []])]) nl l b hw
 simp only [rd_push p] at k0
 cases e0:(one iNat) l b with
 | none=>
  rw [e0] at k0
  obtain ⟨nl',r,b',k0⟩:=k0
  refine ⟨nl',r,b',?_⟩
  rw [fn_go (KX _ _ _) fn58 rfl (by simp [c58])]
  simp [c58,KL,k0]
 | some y0=>
  obtain ⟨x_a,l0,b0⟩:=y0
  rw [e0] at k0
  simp only at k0 ⊢
  obtain ⟨nl0,k0⟩:=k0
  have hw0:=one_wts e0 hw
  have k1:=r26.at_ (p.push [.box 73 false (.agg [.str [],.str []])]) nl0 l0 b0 hw0
  simp only [rd_push p] at k1
  cases e1:(one iNat) l0 b0 with
  | none=>
   rw [e1] at k1
   obtain ⟨nl',r,b',k1⟩:=k1
   refine ⟨nl',r,b',?_⟩
   rw [fn_go (KX _ _ _) fn58 rfl (by simp [c58])]
   simp [c58,KL,k0,k1]
  | some y1=>
   obtain ⟨x_b,l1,b1⟩:=y1
   rw [e1] at k1
   simp only at k1 ⊢
   obtain ⟨nl1,k1⟩:=k1
   have hw1:=one_wts e1 hw0
   simp only [sRet]
   refine ⟨nl1,?_⟩
   rw [fn_go (KX _ _ _) fn58 rfl (by simp [c58])]
   simp [c58,KL,k0,k1]
abbrev iP2:IP P2:=iInner sP2
theorem r27:Reads 27 (one iP2) P2.av:=fun h a g p _ nl l b hw=>by
 have k:=innerA_ok i131 rfl (by omega) (fun x=>rfl) (fun x=>by simp) (fun q hh=>rfl) r58 (p.push [.box 73 false (.agg [.str [],.str []])]) (fun x hx=>by cases hx) nl l b hw
 simp only [rd_push p] at k
 rw [fn_go (KX _ _ _) fn27 rfl (by simp [c27])]
 cases e:one iP2 l b with
 | none=>
  rw [e] at k
  obtain ⟨nl',r,b',k⟩:=k
  exact ⟨nl',r,b',by simp [c27,KL,k]⟩
 | some y=>
  obtain ⟨x,r,b'⟩:=y
  rw [e] at k
  simp only at k ⊢
  obtain ⟨nl',k⟩:=k
  exact ⟨nl',by simp [c27,KL,k]⟩
theorem i113:K.fns 59=some (innerA 31 [.str [],.nils,.nils,.nils] 4):=fn59
def sPf:SP Pf:=sBind (one iNat) fun x_c=>sBind (one iIs) fun x_rs=>sBind (one iNs) fun x_gs=>sBind (one iIss) fun x_ls=>sRet ⟨x_c,x_rs,x_gs,x_ls⟩
theorem r60:Reads 60 sPf Pf.av:=fun h a g p _ nl l b hw=>by
 simp only [sPf,sBind]
 have k0:=r26.at_ (p.push [.box 31 false (.agg [.str [],.nils,.nils,.nils])]) nl l b hw
 simp only [rd_push p] at k0
 cases e0:(one iNat) l b with
 | none=>
  rw [e0] at k0
  obtain ⟨nl',r,b',k0⟩:=k0
  refine ⟨nl',r,b',?_⟩
  rw [fn_go (KX _ _ _) fn60 rfl (by simp [c60])]
  simp [c60,KL,k0]
 | some y0=>
  obtain ⟨x_c,l0,b0⟩:=y0
  rw [e0] at k0
  simp only at k0 ⊢
  obtain ⟨nl0,k0⟩:=k0
  have hw0:=one_wts e0 hw
  have k1:=r61.at_ (p.push [.box 31 false (.agg [.str [],.nils,.nils,.nils])]) nl0 l0 b0 hw0
  simp only [rd_push p] at k1
  cases e1:(one iIs) l0 b0 with
  | none=>
   rw [e1] at k1
   obtain ⟨nl',r,b',k1⟩:=k1
   refine ⟨nl',r,b',?_⟩
   rw [fn_go (KX _ _ _) fn60 rfl (by simp [c60])]
   simp [c60,KL,k0,k1]
  | some y1=>
   obtain ⟨x_rs,l1,b1⟩:=y1
   rw [e1] at k1
   simp only at k1 ⊢
   obtain ⟨nl1,k1⟩:=k1
   have hw1:=one_wts e1 hw0
   have k2:=r24.at_ (p.push [.box 31 false (.agg [.str [],.nils,.nils,.nils])]) nl1 l1 b1 hw1
   simp only [rd_push p] at k2
   cases e2:(one iNs) l1 b1 with
   | none=>
    rw [e2] at k2
    obtain ⟨nl',r,b',k2⟩:=k2
    refine ⟨nl',r,b',?_⟩
    rw [fn_go (KX _ _ _) fn60 rfl (by simp [c60])]
    simp [c60,KL,k0,k1,k2]
   | some y2=>
    obtain ⟨x_gs,l2,b2⟩:=y2
    rw [e2] at k2
    simp only at k2 ⊢
    obtain ⟨nl2,k2⟩:=k2
    have hw2:=one_wts e2 hw1
    have k3:=reads_sl e116 e162 e161 rfl rfl (by omega) (fun x=>by simp) (fun x=>by simp) r61 (p.push [.box 31 false (.agg [.str [],.nils,.nils,.nils])]) nl2 l2 b2 hw2
    simp only [rd_push p] at k3
    cases e3:(one iIss) l2 b2 with
    | none=>
     rw [e3] at k3
     obtain ⟨nl',r,b',k3⟩:=k3
     refine ⟨nl',r,b',?_⟩
     rw [fn_go (KX _ _ _) fn60 rfl (by simp [c60])]
     simp [c60,KL,k0,k1,k2,k3]
    | some y3=>
     obtain ⟨x_ls,l3,b3⟩:=y3
     rw [e3] at k3
     simp only at k3 ⊢
     obtain ⟨nl3,k3⟩:=k3
     have hw3:=one_wts e3 hw2
     simp only [sRet]
     refine ⟨nl3,?_⟩
     rw [fn_go (KX _ _ _) fn60 rfl (by simp [c60])]
     simp [c60,KL,k0,k1,k2,k3]
abbrev iPf:IP Pf:=iInner sPf
theorem r28:Reads 28 (one iPf) Pf.av:=fun h a g p _ nl l b hw=>by
 have k:=innerA_ok i113 rfl (by omega) (fun x=>rfl) (fun x=>by simp) (fun q hh=>rfl) r60 (p.push [.box 31 false (.agg [.str [],.nils,.nils,.nils])]) (fun x hx=>by cases hx) nl l b hw
 simp only [rd_push p] at k
 rw [fn_go (KX _ _ _) fn28 rfl (by simp [c28])]
 cases e:one iPf l b with
 | none=>
  rw [e] at k
  obtain ⟨nl',r,b',k⟩:=k
  exact ⟨nl',r,b',by simp [c28,KL,k]⟩
 | some y=>
  obtain ⟨x,r,b'⟩:=y
  rw [e] at k
  simp only at k ⊢
  obtain ⟨nl',k⟩:=k
  exact ⟨nl',by simp [c28,KL,k]⟩
theorem i138:K.fns 50=some (innerA 46 [.str [],.int .i64 0,.str [],.str [],.nils] 5):=fn50
def sSh:SP Sh:=sBind (one iText) fun x_is=>sBind (one iNum) fun x_ve=>sBind (one iNat) fun x_a=>sBind (one iNat) fun x_w=>sBind (one iNs) fun x_ds=>sRet ⟨x_is,x_ve,x_a,x_w,x_ds⟩
theorem r51:Reads 51 sSh Sh.av:=fun h a g p _ nl l b hw=>by
 simp only [sSh,sBind]
 have k0:=r47.at_ (p.push [.box 46 false (.agg [.str [],.int .i64 0,.str [],.str [],.nils])]) nl l b hw
 simp only [rd_push p] at k0
 cases e0:(one iText) l b with
 | none=>
  rw [e0] at k0
  obtain ⟨nl',r,b',k0⟩:=k0
  refine ⟨nl',r,b',?_⟩
  rw [fn_go (KX _ _ _) fn51 rfl (by simp [c51])]
  simp [c51,KL,k0]
 | some y0=>
  obtain ⟨x_is,l0,b0⟩:=y0
  rw [e0] at k0
  simp only at k0 ⊢
  obtain ⟨nl0,k0⟩:=k0
  have hw0:=one_wts e0 hw
  have k1:=r52.at_ (p.push [.box 46 false (.agg [.str [],.int .i64 0,.str [],.str [],.nils])]) nl0 l0 b0 hw0
  simp only [rd_push p] at k1
  cases e1:(one iNum) l0 b0 with
  | none=>
   rw [e1] at k1
   obtain ⟨nl',r,b',k1⟩:=k1
   refine ⟨nl',r,b',?_⟩
   rw [fn_go (KX _ _ _) fn51 rfl (by simp [c51])]
   simp [c51,KL,k0,k1]
  | some y1=>
   obtain ⟨x_ve,l1,b1⟩:=y1
   rw [e1] at k1
   simp only at k1 ⊢
   obtain ⟨nl1,k1⟩:=k1
   have hw1:=one_wts e1 hw0
   have k2:=r26.at_ (p.push [.box 46 false (.agg [.str [],.int .i64 0,.str [],.str [],.nils])]) nl1 l1 b1 hw1
   simp only [rd_push p] at k2
   cases e2:(one iNat) l1 b1 with
   | none=>
    rw [e2] at k2
    obtain ⟨nl',r,b',k2⟩:=k2
    refine ⟨nl',r,b',?_⟩
    rw [fn_go (KX _ _ _) fn51 rfl (by simp [c51])]
    simp [c51,KL,k0,k1,k2]
   | some y2=>
    obtain ⟨x_a,l2,b2⟩:=y2
    rw [e2] at k2
    simp only at k2 ⊢
    obtain ⟨nl2,k2⟩:=k2
    have hw2:=one_wts e2 hw1
    have k3:=r26.at_ (p.push [.box 46 false (.agg [.str [],.int .i64 0,.str [],.str [],.nils])]) nl2 l2 b2 hw2
    simp only [rd_push p] at k3
    cases e3:(one iNat) l2 b2 with
    | none=>
     rw [e3] at k3
     obtain ⟨nl',r,b',k3⟩:=k3
     refine ⟨nl',r,b',?_⟩
     rw [fn_go (KX _ _ _) fn51 rfl (by simp [c51])]
     simp [c51,KL,k0,k1,k2,k3]
    | some y3=>
     obtain ⟨x_w,l3,b3⟩:=y3
     rw [e3] at k3
     simp only at k3 ⊢
     obtain ⟨nl3,k3⟩:=k3
     have hw3:=one_wts e3 hw2
     have k4:=r24.at_ (p.push [.box 46 false (.agg [.str [],.int .i64 0,.str [],.str [],.nils])]) nl3 l3 b3 hw3
     simp only [rd_push p] at k4
     cases e4:(one iNs) l3 b3 with
     | none=>
      rw [e4] at k4
      obtain ⟨nl',r,b',k4⟩:=k4
      refine ⟨nl',r,b',?_⟩
      rw [fn_go (KX _ _ _) fn51 rfl (by simp [c51])]
      simp [c51,KL,k0,k1,k2,k3,k4]
     | some y4=>
      obtain ⟨x_ds,l4,b4⟩:=y4
      rw [e4] at k4
      simp only at k4 ⊢
      obtain ⟨nl4,k4⟩:=k4
      have hw4:=one_wts e4 hw3
      simp only [sRet]
      refine ⟨nl4,?_⟩
      rw [fn_go (KX _ _ _) fn51 rfl (by simp [c51])]
      simp [c51,KL,k0,k1,k2,k3,k4]
abbrev iSh:IP Sh:=iInner sSh
theorem r23:Reads 23 (one iSh) Sh.av:=fun h a g p _ nl l b hw=>by
 have k:=innerA_ok i138 rfl (by omega) (fun x=>rfl) (fun x=>by simp) (fun q hh=>rfl) r51 (p.push [.box 46 false (.agg [.str [],.int .i64 0,.str [],.str [],.nils])]) (fun x hx=>by cases hx) nl l b hw
 simp only [rd_push p] at k
 rw [fn_go (KX _ _ _) fn23 rfl (by simp [c23])]
 cases e:one iSh l b with
 | none=>
  rw [e] at k
  obtain ⟨nl',r,b',k⟩:=k
  exact ⟨nl',r,b',by simp [c23,KL,k]⟩
 | some y=>
  obtain ⟨x,r,b'⟩:=y
  rw [e] at k
  simp only at k ⊢
  obtain ⟨nl',k⟩:=k
  exact ⟨nl',by simp [c23,KL,k]⟩
abbrev iShs:IP (Sl Sh):=iSl iSh
end Go.Ab.WireT
