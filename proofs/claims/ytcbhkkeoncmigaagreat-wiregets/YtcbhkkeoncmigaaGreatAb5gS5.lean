/-
  Messages: their shapes, and how they are read.
-/
import Derived.Test.YtcbhkkeoncmigaaGreatAb5gR3
set_option linter.unusedVariables false
set_option linter.unusedSimpArgs false
set_option linter.unusedSectionVars false
namespace Go.Ab.WireG
set_option maxRecDepth 100000
set_option maxHeartbeats 1000000
structure Sl (α:Type) where
 nl:Bool
 l:List α
abbrev Sl.avS {α:Type} (av:α→AV) (s:Sl α):AV:=lv s.nl (s.l.map av)
structure Ig where
 ng:Bool
 ab:List UInt8
abbrev Ig.av (i:Ig):AV:=iav i.ng i.ab
abbrev avNs (s:Sl (List UInt8)):AV:=s.avS .str
abbrev avNss (s:Sl (Sl (List UInt8))):AV:=s.avS avNs
abbrev avIs (s:Sl Ig):AV:=s.avS Ig.av
abbrev avIss (s:Sl (Sl Ig)):AV:=s.avS avIs
structure Qu where
 p:List UInt8
 v:List UInt8
 n:List UInt8
 e:Int
 d:Int
abbrev Qu.cs (x:Qu):List AV:=[.str x.p,.str x.v,.str x.n,.int .i64 x.e,.int .i64 x.d]
abbrev Qu.av (x:Qu):AV:=.agg x.cs
structure Sg where
 a:List UInt8
 e:List UInt8
 v:List UInt8
abbrev Sg.cs (x:Sg):List AV:=[.str x.a,.str x.e,.str x.v]
abbrev Sg.av (x:Sg):AV:=.agg x.cs
structure P2 where
 a:List UInt8
 b:List UInt8
abbrev P2.cs (x:P2):List AV:=[.str x.a,.str x.b]
abbrev P2.av (x:P2):AV:=.agg x.cs
structure Pf where
 c:List UInt8
 rs:Sl Ig
 gs:Sl (List UInt8)
 ls:Sl (Sl Ig)
abbrev Pf.cs (x:Pf):List AV:=[.str x.c,avIs x.rs,avNs x.gs,avIss x.ls]
abbrev Pf.av (x:Pf):AV:=.agg x.cs
structure Sh where
 is:List UInt8
 ve:Int
 a:List UInt8
 w:List UInt8
 ds:Sl (List UInt8)
abbrev Sh.cs (x:Sh):List AV:=[.str x.is,.int .i64 x.ve,.str x.a,.str x.w,avNs x.ds]
abbrev Sh.av (x:Sh):AV:=.agg x.cs
abbrev avShs (s:Sl Sh):AV:=s.avS Sh.av
structure Rq where
 c:List UInt8
 n:List UInt8
 p:Pf
abbrev Rq.cs (x:Rq):List AV:=[.str x.c,.str x.n,.str x.p.c,avIs x.p.rs,avNs x.p.gs,avIss x.p.ls]
abbrev Rq.av (x:Rq):AV:=.agg x.cs
structure Rs where
 ats:Sl (List UInt8)
 sg:Sg
 w:List UInt8
 e:Int
abbrev Rs.cs (x:Rs):List AV:=[avNs x.ats,.str x.sg.a,.str x.sg.e,.str x.sg.v,.str x.w,.int .i64 x.e]
abbrev Rs.av (x:Rs):AV:=.agg x.cs
structure Hd where
 is:List UInt8
 sc:List UInt8
 ve:Int
 ats:Sl (List UInt8)
 sg:Sg
 e:Int
 w:List UInt8
abbrev Hd.cs (x:Hd):List AV:=[.str x.is,.str x.sc,.int .i64 x.ve,avNs x.ats,.str x.sg.a,.str x.sg.e,.str x.sg.v,.int .i64 x.e,.str x.w]
abbrev Hd.av (x:Hd):AV:=.agg x.cs
structure Dl where
 f:Int
 t:Int
 ad:Sl (List UInt8)
 rm:Sl (List UInt8)
 be:List UInt8
 af:List UInt8
 sg:P2
abbrev Dl.cs (x:Dl):List AV:=[.int .i64 x.f,.int .i64 x.t,avNs x.ad,avNs x.rm,.str x.be,.str x.af,.str x.sg.a,.str x.sg.b]
abbrev Dl.av (x:Dl):AV:=.agg x.cs
structure Pr where
 sh:Sl Sh
 cm:Sl (List UInt8)
 pa:Sl (Sl (List UInt8))
 sq:Sl (Sl (List UInt8))
 ny:List UInt8
 se:List UInt8
 co:List UInt8
 cp:Sl (List UInt8)
 es:P2
 p:Pf
abbrev Pr.cs (x:Pr):List AV:=[avShs x.sh,avNs x.cm,avNss x.pa,avNss x.sq,.str x.ny,.str x.se,.str x.co,avNs x.cp,.str x.es.a,.str x.es.b,.str x.p.c,avIs x.p.rs,avNs x.p.gs,avIss x.p.ls]
abbrev Pr.av (x:Pr):AV:=.agg x.cs
def sBind {α β:Type} (s:SP α) (k:α→SP β):SP β:=fun l b=>match s l b with
 | none=>none
 | some (x,l1,b1)=>k x l1 b1
def sRet {α:Type} (x:α):SP α:=fun l b=>some (x,l,b)
def iMap {α β:Type} (f:α→β) (ip:IP α):IP β:=fun i b=>match ip i b with
 | some (x,b')=>some (f x,b')
 | none=>none
theorem one_map {α β:Type} (f:α→β) (ip:IP α) (l:List It) (b:Bool):one (iMap f ip) l b=match one ip l b with
  | some (x,r,b')=>some (f x,r,b')
  | none=>none:=by
 cases l with
 | nil=>rfl
 | cons i r=>
  simp only [one,iMap]
  cases ip i b with
  | none=>rfl
  | some y=>rfl
abbrev iSl {α:Type} (ip:IP α):IP (Sl α):=iMap (Sl.mk false) (iInner (sAll ip))
def iInt:IP Ig:=fun i b=>if i.k=2 then (if (toI i).2.2=true then some (⟨(toI i).1,(toI i).2.1⟩,b) else none) else none
theorem reads_sl {f f1 fi M:FuncId} {et sz bytes:Nat} {z:AV} {tf:TypeId} {α:Type} {ip:IP α} {av:α→AV} (hf:K.fns f=some (elemsF tf f1 fi)) (hf1:K.fns f1=some (elems1 et sz bytes z)) (hfi:K.fns fi=some innerS)
  (hz:z.cells.length=sz) (hzp:z.pure=true) (hby:bytes≤1000) (hav:∀ x,(av x).cells.length=sz) (hpu:∀ x,(av x).refOk (fun _=>false)=true) (hM:Reads M (one ip) av)
  {h:Heap} {a g:Loc} (p:RP h a g) (nl:Bool) (l:List It) (b:Bool) (hw:wts l≤1000000):match one (iSl ip) l b with
  | some (x,r,b')=>∃ nl',(mu K).fn f [.ptr a 0,.fn (.func M) [] []] (RD h a g nl l b)=some (.val (Sl.avS av x) (RD h a g nl' r b'))
  | none=>∃ nl' r b',(mu K).fn f [.ptr a 0,.fn (.func M) [] []] (RD h a g nl l b)=some (.pan wrong (RD h a g nl' r b')):=by
 have:=elems_ok hf hf1 hfi hz hzp hby hav hpu hM p nl l b hw
 rw [one_map]
 cases e:one (iInner (sAll ip)) l b with
 | none=>rw [e] at this;exact this
 | some y=>
  obtain ⟨x,r,b'⟩:=y
  rw [e] at this
  simp only [Sl.avS,lv_false]
  exact this
theorem r160:Reads 160 (one iInt) Ig.av:=fun h a g p _ nl l b hw=>by
 have p2:=p.push [.box 198 false (.agg [.bool false,.str []])]
 have k1:=f105 2 nl l (RD ([.box 198 false (.agg [.bool false,.str []])] :: h) a g nl l b) a g (rd_a p2 nl l b) p.le
 simp only [rd_push p,hset,rd_len p,rd_length,if_false,rd_seta p] at k1
 cases l with
 | nil=>
  simp only [rItem] at k1
  refine ⟨nl,[],b,?_⟩
  rw [fn_go (KX _ _ _) fn160 rfl (by simp [c160])]
  simp [c160,KL,k1]
 | cons i r=>
  simp only [rItem] at k1
  by_cases hk:i.k=2
  ·have ok:okI i:=ok_wt i (by simp only [wts] at hw;omega)
   have k2:=fun h=>f184 i h ok
   simp only [one,iInt,hk,if_true] at k1 ⊢
   generalize toI i=T at *
   obtain ⟨ng,ab,q⟩:=T
   cases q
   ·refine ⟨false,r,b,?_⟩
    rw [fn_go (KX _ _ _) fn160 rfl (by simp [c160])]
    simp [c160,KL,k1,k2]
   ·refine ⟨false,?_⟩
    rw [fn_go (KX _ _ _) fn160 rfl (by simp [c160])]
    simp [c160,KL,k1,k2]
  ·simp only [one,iInt,hk,if_false] at k1 ⊢
   refine ⟨nl,i :: r,b,?_⟩
   rw [fn_go (KX _ _ _) fn160 rfl (by simp [c160])]
   simp [c160,KL,k1]
theorem e122:K.fns 122=some (elemsF 184 165 164):=fn122
theorem e165:K.fns 165=some (elems1 30 1 16 (.str [])):=fn165
theorem e164:K.fns 164=some (innerS):=fn164
theorem e159:K.fns 159=some (elemsF 216 183 182):=fn159
theorem e183:K.fns 183=some (elems1 198 2 24 (.agg [(.bool false),(.str [])])):=fn183
theorem e182:K.fns 182=some (innerS):=fn182
theorem e70:K.fns 70=some (elemsF 131 141 140):=fn70
theorem e141:K.fns 141=some (elems1 32 1 24 .nils):=fn141
theorem e140:K.fns 140=some (innerS):=fn140
theorem e116:K.fns 116=some (elemsF 179 162 161):=fn116
theorem e162:K.fns 162=some (elems1 31 1 24 .nils):=fn162
theorem e161:K.fns 161=some (innerS):=fn161
theorem e68:K.fns 68=some (elemsF 128 137 136):=fn68
theorem e137:K.fns 137=some (elems1 127 5 80 (.agg [(.str []),(.int .i64 (0:Int)),(.str []),(.str []),.nils])):=fn137
theorem e136:K.fns 136=some (innerS):=fn136
abbrev iNs:IP (Sl (List UInt8)):=iSl iNat
abbrev iIs:IP (Sl Ig):=iSl iInt
abbrev iNss:IP (Sl (Sl (List UInt8))):=iSl iNs
abbrev iIss:IP (Sl (Sl Ig)):=iSl iIs
theorem r55:Reads 55 (one iNs) avNs:=fun h a g p _ nl l b hw=>by
 have k:=reads_sl e122 e165 e164 rfl rfl (by omega) (fun x=>rfl) (fun x=>rfl) r48 (p.push []) nl l b hw
 simp only [rd_push p] at k
 rw [fn_go (KX _ _ _) fn55 rfl (by simp [c55])]
 cases e:one iNs l b with
 | none=>
  rw [e] at k
  obtain ⟨nl',r,b',k⟩:=k
  exact ⟨nl',r,b',by simp [c55,KL,k]⟩
 | some y=>
  obtain ⟨x,r,b'⟩:=y
  rw [e] at k
  simp only at k ⊢
  obtain ⟨nl',k⟩:=k
  exact ⟨nl',by simp [c55,KL,k]⟩
theorem r115:Reads 115 (one iIs) avIs:=fun h a g p _ nl l b hw=>by
 have k:=reads_sl e159 e183 e182 rfl rfl (by omega) (fun x=>rfl) (fun x=>rfl) r160 (p.push []) nl l b hw
 simp only [rd_push p] at k
 rw [fn_go (KX _ _ _) fn115 rfl (by simp [c115])]
 cases e:one iIs l b with
 | none=>
  rw [e] at k
  obtain ⟨nl',r,b',k⟩:=k
  exact ⟨nl',r,b',by simp [c115,KL,k]⟩
 | some y=>
  obtain ⟨x,r,b'⟩:=y
  rw [e] at k
  simp only at k ⊢
  obtain ⟨nl',k⟩:=k
  exact ⟨nl',by simp [c115,KL,k]⟩
theorem i131:K.fns 131=some (innerA 120 [.str [],.str []] 2):=fn131
def sP2:SP P2:=sBind (one iNat) fun x_a=>sBind (one iNat) fun x_b=>sRet ⟨x_a,x_b⟩
theorem r132:Reads 132 sP2 P2.av:=fun h a g p _ nl l b hw=>by
 simp only [sP2,sBind]
 have k0:=r48.at_ (p.push [.box 120 false (.agg [.str [],.str []])]) nl l b hw
 simp only [rd_push p] at k0
 cases e0:(one iNat) l b with
 | none=>
  rw [e0] at k0
  obtain ⟨nl',r,b',k0⟩:=k0
  refine ⟨nl',r,b',?_⟩
  rw [fn_go (KX _ _ _) fn132 rfl (by simp [c132])]
  simp [c132,KL,k0]
 | some y0=>
  obtain ⟨x_a,l0,b0⟩:=y0
  rw [e0] at k0
  simp only at k0 ⊢
  obtain ⟨nl0,k0⟩:=k0
  have hw0:=one_wts e0 hw
  have k1:=r48.at_ (p.push [.box 120 false (.agg [.str [],.str []])]) nl0 l0 b0 hw0
  simp only [rd_push p] at k1
  cases e1:(one iNat) l0 b0 with
  | none=>
   rw [e1] at k1
   obtain ⟨nl',r,b',k1⟩:=k1
   refine ⟨nl',r,b',?_⟩
   rw [fn_go (KX _ _ _) fn132 rfl (by simp [c132])]
   simp [c132,KL,k0,k1]
  | some y1=>
   obtain ⟨x_b,l1,b1⟩:=y1
   rw [e1] at k1
   simp only at k1 ⊢
   obtain ⟨nl1,k1⟩:=k1
   have hw1:=one_wts e1 hw0
   simp only [sRet]
   refine ⟨nl1,?_⟩
   rw [fn_go (KX _ _ _) fn132 rfl (by simp [c132])]
   simp [c132,KL,k0,k1]
abbrev iP2:IP P2:=iInner sP2
theorem r64:Reads 64 (one iP2) P2.av:=fun h a g p _ nl l b hw=>by
 have k:=innerA_ok i131 rfl (by omega) (fun x=>rfl) (fun x=>by simp) (fun q hh=>rfl) r132 (p.push [.box 120 false (.agg [.str [],.str []])]) (fun x hx=>by cases hx) nl l b hw
 simp only [rd_push p] at k
 rw [fn_go (KX _ _ _) fn64 rfl (by simp [c64])]
 cases e:one iP2 l b with
 | none=>
  rw [e] at k
  obtain ⟨nl',r,b',k⟩:=k
  exact ⟨nl',r,b',by simp [c64,KL,k]⟩
 | some y=>
  obtain ⟨x,r,b'⟩:=y
  rw [e] at k
  simp only at k ⊢
  obtain ⟨nl',k⟩:=k
  exact ⟨nl',by simp [c64,KL,k]⟩
theorem i123:K.fns 123=some (innerA 44 [.str [],.str [],.str []] 3):=fn123
def sSg:SP Sg:=sBind (one iNat) fun x_a=>sBind (one iNat) fun x_e=>sBind (one iNat) fun x_v=>sRet ⟨x_a,x_e,x_v⟩
theorem r124:Reads 124 sSg Sg.av:=fun h a g p _ nl l b hw=>by
 simp only [sSg,sBind]
 have k0:=r48.at_ (p.push [.box 44 false (.agg [.str [],.str [],.str []])]) nl l b hw
 simp only [rd_push p] at k0
 cases e0:(one iNat) l b with
 | none=>
  rw [e0] at k0
  obtain ⟨nl',r,b',k0⟩:=k0
  refine ⟨nl',r,b',?_⟩
  rw [fn_go (KX _ _ _) fn124 rfl (by simp [c124])]
  simp [c124,KL,k0]
 | some y0=>
  obtain ⟨x_a,l0,b0⟩:=y0
  rw [e0] at k0
  simp only at k0 ⊢
  obtain ⟨nl0,k0⟩:=k0
  have hw0:=one_wts e0 hw
  have k1:=r48.at_ (p.push [.box 44 false (.agg [.str [],.str [],.str []])]) nl0 l0 b0 hw0
  simp only [rd_push p] at k1
  cases e1:(one iNat) l0 b0 with
  | none=>
   rw [e1] at k1
   obtain ⟨nl',r,b',k1⟩:=k1
   refine ⟨nl',r,b',?_⟩
   rw [fn_go (KX _ _ _) fn124 rfl (by simp [c124])]
   simp [c124,KL,k0,k1]
  | some y1=>
   obtain ⟨x_e,l1,b1⟩:=y1
   rw [e1] at k1
   simp only at k1 ⊢
   obtain ⟨nl1,k1⟩:=k1
   have hw1:=one_wts e1 hw0
   have k2:=r48.at_ (p.push [.box 44 false (.agg [.str [],.str [],.str []])]) nl1 l1 b1 hw1
   simp only [rd_push p] at k2
   cases e2:(one iNat) l1 b1 with
   | none=>
    rw [e2] at k2
    obtain ⟨nl',r,b',k2⟩:=k2
    refine ⟨nl',r,b',?_⟩
    rw [fn_go (KX _ _ _) fn124 rfl (by simp [c124])]
    simp [c124,KL,k0,k1,k2]
   | some y2=>
    obtain ⟨x_v,l2,b2⟩:=y2
    rw [e2] at k2
    simp only at k2 ⊢
    obtain ⟨nl2,k2⟩:=k2
    have hw2:=one_wts e2 hw1
    simp only [sRet]
    refine ⟨nl2,?_⟩
    rw [fn_go (KX _ _ _) fn124 rfl (by simp [c124])]
    simp [c124,KL,k0,k1,k2]
abbrev iSg:IP Sg:=iInner sSg
theorem r56:Reads 56 (one iSg) Sg.av:=fun h a g p _ nl l b hw=>by
 have k:=innerA_ok i123 rfl (by omega) (fun x=>rfl) (fun x=>by simp) (fun q hh=>rfl) r124 (p.push [.box 44 false (.agg [.str [],.str [],.str []])]) (fun x hx=>by cases hx) nl l b hw
 simp only [rd_push p] at k
 rw [fn_go (KX _ _ _) fn56 rfl (by simp [c56])]
 cases e:one iSg l b with
 | none=>
  rw [e] at k
  obtain ⟨nl',r,b',k⟩:=k
  exact ⟨nl',r,b',by simp [c56,KL,k]⟩
 | some y=>
  obtain ⟨x,r,b'⟩:=y
  rw [e] at k
  simp only at k ⊢
  obtain ⟨nl',k⟩:=k
  exact ⟨nl',by simp [c56,KL,k]⟩
theorem i113:K.fns 113=some (innerA 35 [.str [],.nils,.nils,.nils] 4):=fn113
def sPf:SP Pf:=sBind (one iNat) fun x_c=>sBind (one iIs) fun x_rs=>sBind (one iNs) fun x_gs=>sBind (one iIss) fun x_ls=>sRet ⟨x_c,x_rs,x_gs,x_ls⟩
theorem r114:Reads 114 sPf Pf.av:=fun h a g p _ nl l b hw=>by
 simp only [sPf,sBind]
 have k0:=r48.at_ (p.push [.box 35 false (.agg [.str [],.nils,.nils,.nils])]) nl l b hw
 simp only [rd_push p] at k0
 cases e0:(one iNat) l b with
 | none=>
  rw [e0] at k0
  obtain ⟨nl',r,b',k0⟩:=k0
  refine ⟨nl',r,b',?_⟩
  rw [fn_go (KX _ _ _) fn114 rfl (by simp [c114])]
  simp [c114,KL,k0]
 | some y0=>
  obtain ⟨x_c,l0,b0⟩:=y0
  rw [e0] at k0
  simp only at k0 ⊢
  obtain ⟨nl0,k0⟩:=k0
  have hw0:=one_wts e0 hw
  have k1:=r115.at_ (p.push [.box 35 false (.agg [.str [],.nils,.nils,.nils])]) nl0 l0 b0 hw0
  simp only [rd_push p] at k1
  cases e1:(one iIs) l0 b0 with
  | none=>
   rw [e1] at k1
   obtain ⟨nl',r,b',k1⟩:=k1
   refine ⟨nl',r,b',?_⟩
   rw [fn_go (KX _ _ _) fn114 rfl (by simp [c114])]
   simp [c114,KL,k0,k1]
  | some y1=>
   obtain ⟨x_rs,l1,b1⟩:=y1
   rw [e1] at k1
   simp only at k1 ⊢
   obtain ⟨nl1,k1⟩:=k1
   have hw1:=one_wts e1 hw0
   have k2:=r55.at_ (p.push [.box 35 false (.agg [.str [],.nils,.nils,.nils])]) nl1 l1 b1 hw1
   simp only [rd_push p] at k2
   cases e2:(one iNs) l1 b1 with
   | none=>
    rw [e2] at k2
    obtain ⟨nl',r,b',k2⟩:=k2
    refine ⟨nl',r,b',?_⟩
    rw [fn_go (KX _ _ _) fn114 rfl (by simp [c114])]
    simp [c114,KL,k0,k1,k2]
   | some y2=>
    obtain ⟨x_gs,l2,b2⟩:=y2
    rw [e2] at k2
    simp only at k2 ⊢
    obtain ⟨nl2,k2⟩:=k2
    have hw2:=one_wts e2 hw1
    have k3:=reads_sl e116 e162 e161 rfl rfl (by omega) (fun x=>by simp) (fun x=>by simp) r115 (p.push [.box 35 false (.agg [.str [],.nils,.nils,.nils])]) nl2 l2 b2 hw2
    simp only [rd_push p] at k3
    cases e3:(one iIss) l2 b2 with
    | none=>
     rw [e3] at k3
     obtain ⟨nl',r,b',k3⟩:=k3
     refine ⟨nl',r,b',?_⟩
     rw [fn_go (KX _ _ _) fn114 rfl (by simp [c114])]
     simp [c114,KL,k0,k1,k2,k3]
    | some y3=>
     obtain ⟨x_ls,l3,b3⟩:=y3
     rw [e3] at k3
     simp only at k3 ⊢
     obtain ⟨nl3,k3⟩:=k3
     have hw3:=one_wts e3 hw2
     simp only [sRet]
     refine ⟨nl3,?_⟩
     rw [fn_go (KX _ _ _) fn114 rfl (by simp [c114])]
     simp [c114,KL,k0,k1,k2,k3]
abbrev iPf:IP Pf:=iInner sPf
theorem r49:Reads 49 (one iPf) Pf.av:=fun h a g p _ nl l b hw=>by
 have k:=innerA_ok i113 rfl (by omega) (fun x=>rfl) (fun x=>by simp) (fun q hh=>rfl) r114 (p.push [.box 35 false (.agg [.str [],.nils,.nils,.nils])]) (fun x hx=>by cases hx) nl l b hw
 simp only [rd_push p] at k
 rw [fn_go (KX _ _ _) fn49 rfl (by simp [c49])]
 cases e:one iPf l b with
 | none=>
  rw [e] at k
  obtain ⟨nl',r,b',k⟩:=k
  exact ⟨nl',r,b',by simp [c49,KL,k]⟩
 | some y=>
  obtain ⟨x,r,b'⟩:=y
  rw [e] at k
  simp only at k ⊢
  obtain ⟨nl',k⟩:=k
  exact ⟨nl',by simp [c49,KL,k]⟩
theorem i138:K.fns 138=some (innerA 127 [.str [],.int .i64 0,.str [],.str [],.nils] 5):=fn138
def sSh:SP Sh:=sBind (one iText) fun x_is=>sBind (one iNum) fun x_ve=>sBind (one iNat) fun x_a=>sBind (one iNat) fun x_w=>sBind (one iNs) fun x_ds=>sRet ⟨x_is,x_ve,x_a,x_w,x_ds⟩
theorem r139:Reads 139 sSh Sh.av:=fun h a g p _ nl l b hw=>by
 simp only [sSh,sBind]
 have k0:=r40.at_ (p.push [.box 127 false (.agg [.str [],.int .i64 0,.str [],.str [],.nils])]) nl l b hw
 simp only [rd_push p] at k0
 cases e0:(one iText) l b with
 | none=>
  rw [e0] at k0
  obtain ⟨nl',r,b',k0⟩:=k0
  refine ⟨nl',r,b',?_⟩
  rw [fn_go (KX _ _ _) fn139 rfl (by simp [c139])]
  simp [c139,KL,k0]
 | some y0=>
  obtain ⟨x_is,l0,b0⟩:=y0
  rw [e0] at k0
  simp only at k0 ⊢
  obtain ⟨nl0,k0⟩:=k0
  have hw0:=one_wts e0 hw
  have k1:=r41.at_ (p.push [.box 127 false (.agg [.str [],.int .i64 0,.str [],.str [],.nils])]) nl0 l0 b0 hw0
  simp only [rd_push p] at k1
  cases e1:(one iNum) l0 b0 with
  | none=>
   rw [e1] at k1
   obtain ⟨nl',r,b',k1⟩:=k1
   refine ⟨nl',r,b',?_⟩
   rw [fn_go (KX _ _ _) fn139 rfl (by simp [c139])]
   simp [c139,KL,k0,k1]
  | some y1=>
   obtain ⟨x_ve,l1,b1⟩:=y1
   rw [e1] at k1
   simp only at k1 ⊢
   obtain ⟨nl1,k1⟩:=k1
   have hw1:=one_wts e1 hw0
   have k2:=r48.at_ (p.push [.box 127 false (.agg [.str [],.int .i64 0,.str [],.str [],.nils])]) nl1 l1 b1 hw1
   simp only [rd_push p] at k2
   cases e2:(one iNat) l1 b1 with
   | none=>
    rw [e2] at k2
    obtain ⟨nl',r,b',k2⟩:=k2
    refine ⟨nl',r,b',?_⟩
    rw [fn_go (KX _ _ _) fn139 rfl (by simp [c139])]
    simp [c139,KL,k0,k1,k2]
   | some y2=>
    obtain ⟨x_a,l2,b2⟩:=y2
    rw [e2] at k2
    simp only at k2 ⊢
    obtain ⟨nl2,k2⟩:=k2
    have hw2:=one_wts e2 hw1
    have k3:=r48.at_ (p.push [.box 127 false (.agg [.str [],.int .i64 0,.str [],.str [],.nils])]) nl2 l2 b2 hw2
    simp only [rd_push p] at k3
    cases e3:(one iNat) l2 b2 with
    | none=>
     rw [e3] at k3
     obtain ⟨nl',r,b',k3⟩:=k3
     refine ⟨nl',r,b',?_⟩
     rw [fn_go (KX _ _ _) fn139 rfl (by simp [c139])]
     simp [c139,KL,k0,k1,k2,k3]
    | some y3=>
     obtain ⟨x_w,l3,b3⟩:=y3
     rw [e3] at k3
     simp only at k3 ⊢
     obtain ⟨nl3,k3⟩:=k3
     have hw3:=one_wts e3 hw2
     have k4:=r55.at_ (p.push [.box 127 false (.agg [.str [],.int .i64 0,.str [],.str [],.nils])]) nl3 l3 b3 hw3
     simp only [rd_push p] at k4
     cases e4:(one iNs) l3 b3 with
     | none=>
      rw [e4] at k4
      obtain ⟨nl',r,b',k4⟩:=k4
      refine ⟨nl',r,b',?_⟩
      rw [fn_go (KX _ _ _) fn139 rfl (by simp [c139])]
      simp [c139,KL,k0,k1,k2,k3,k4]
     | some y4=>
      obtain ⟨x_ds,l4,b4⟩:=y4
      rw [e4] at k4
      simp only at k4 ⊢
      obtain ⟨nl4,k4⟩:=k4
      have hw4:=one_wts e4 hw3
      simp only [sRet]
      refine ⟨nl4,?_⟩
      rw [fn_go (KX _ _ _) fn139 rfl (by simp [c139])]
      simp [c139,KL,k0,k1,k2,k3,k4]
abbrev iSh:IP Sh:=iInner sSh
theorem r69:Reads 69 (one iSh) Sh.av:=fun h a g p _ nl l b hw=>by
 have k:=innerA_ok i138 rfl (by omega) (fun x=>rfl) (fun x=>by simp) (fun q hh=>rfl) r139 (p.push [.box 127 false (.agg [.str [],.int .i64 0,.str [],.str [],.nils])]) (fun x hx=>by cases hx) nl l b hw
 simp only [rd_push p] at k
 rw [fn_go (KX _ _ _) fn69 rfl (by simp [c69])]
 cases e:one iSh l b with
 | none=>
  rw [e] at k
  obtain ⟨nl',r,b',k⟩:=k
  exact ⟨nl',r,b',by simp [c69,KL,k]⟩
 | some y=>
  obtain ⟨x,r,b'⟩:=y
  rw [e] at k
  simp only at k ⊢
  obtain ⟨nl',k⟩:=k
  exact ⟨nl',by simp [c69,KL,k]⟩
abbrev iShs:IP (Sl Sh):=iSl iSh
def sQu:SP Qu:=sBind (one iText) fun x_p=>sBind (one iText) fun x_v=>sBind (one iText) fun x_n=>sBind (one iNum) fun x_e=>sBind (one iNum) fun x_d=>sRet ⟨x_p,x_v,x_n,x_e,x_d⟩
theorem r39:Reads 39 sQu Qu.av:=fun h a g p _ nl l b hw=>by
 simp only [sQu,sBind]
 have k0:=r40.at_ (p.push [.box 24 false (.agg [.str [],.str [],.str [],.int .i64 0,.int .i64 0])]) nl l b hw
 simp only [rd_push p] at k0
 cases e0:(one iText) l b with
 | none=>
  rw [e0] at k0
  obtain ⟨nl',r,b',k0⟩:=k0
  refine ⟨nl',r,b',?_⟩
  rw [fn_go (KX _ _ _) fn39 rfl (by simp [c39])]
  simp [c39,KL,k0]
 | some y0=>
  obtain ⟨x_p,l0,b0⟩:=y0
  rw [e0] at k0
  simp only at k0 ⊢
  obtain ⟨nl0,k0⟩:=k0
  have hw0:=one_wts e0 hw
  have k1:=r40.at_ (p.push [.box 24 false (.agg [.str [],.str [],.str [],.int .i64 0,.int .i64 0])]) nl0 l0 b0 hw0
  simp only [rd_push p] at k1
  cases e1:(one iText) l0 b0 with
  | none=>
   rw [e1] at k1
   obtain ⟨nl',r,b',k1⟩:=k1
   refine ⟨nl',r,b',?_⟩
   rw [fn_go (KX _ _ _) fn39 rfl (by simp [c39])]
   simp [c39,KL,k0,k1]
  | some y1=>
   obtain ⟨x_v,l1,b1⟩:=y1
   rw [e1] at k1
   simp only at k1 ⊢
   obtain ⟨nl1,k1⟩:=k1
   have hw1:=one_wts e1 hw0
   have k2:=r40.at_ (p.push [.box 24 false (.agg [.str [],.str [],.str [],.int .i64 0,.int .i64 0])]) nl1 l1 b1 hw1
   simp only [rd_push p] at k2
   cases e2:(one iText) l1 b1 with
   | none=>
    rw [e2] at k2
    obtain ⟨nl',r,b',k2⟩:=k2
    refine ⟨nl',r,b',?_⟩
    rw [fn_go (KX _ _ _) fn39 rfl (by simp [c39])]
    simp [c39,KL,k0,k1,k2]
   | some y2=>
    obtain ⟨x_n,l2,b2⟩:=y2
    rw [e2] at k2
    simp only at k2 ⊢
    obtain ⟨nl2,k2⟩:=k2
    have hw2:=one_wts e2 hw1
    have k3:=r41.at_ (p.push [.box 24 false (.agg [.str [],.str [],.str [],.int .i64 0,.int .i64 0])]) nl2 l2 b2 hw2
    simp only [rd_push p] at k3
    cases e3:(one iNum) l2 b2 with
    | none=>
     rw [e3] at k3
     obtain ⟨nl',r,b',k3⟩:=k3
     refine ⟨nl',r,b',?_⟩
     rw [fn_go (KX _ _ _) fn39 rfl (by simp [c39])]
     simp [c39,KL,k0,k1,k2,k3]
    | some y3=>
     obtain ⟨x_e,l3,b3⟩:=y3
     rw [e3] at k3
     simp only at k3 ⊢
     obtain ⟨nl3,k3⟩:=k3
     have hw3:=one_wts e3 hw2
     have k4:=r41.at_ (p.push [.box 24 false (.agg [.str [],.str [],.str [],.int .i64 0,.int .i64 0])]) nl3 l3 b3 hw3
     simp only [rd_push p] at k4
     cases e4:(one iNum) l3 b3 with
     | none=>
      rw [e4] at k4
      obtain ⟨nl',r,b',k4⟩:=k4
      refine ⟨nl',r,b',?_⟩
      rw [fn_go (KX _ _ _) fn39 rfl (by simp [c39])]
      simp [c39,KL,k0,k1,k2,k3,k4]
     | some y4=>
      obtain ⟨x_d,l4,b4⟩:=y4
      rw [e4] at k4
      simp only at k4 ⊢
      obtain ⟨nl4,k4⟩:=k4
      have hw4:=one_wts e4 hw3
      simp only [sRet]
      refine ⟨nl4,?_⟩
      rw [fn_go (KX _ _ _) fn39 rfl (by simp [c39])]
      simp [c39,KL,k0,k1,k2,k3,k4]
def sRq:SP Rq:=sBind (one iNat) fun x_c=>sBind (one iText) fun x_n=>sBind (one iPf) fun x_p=>sRet ⟨x_c,x_n,x_p⟩
theorem r47:Reads 47 sRq Rq.av:=fun h a g p _ nl l b hw=>by
 simp only [sRq,sBind]
 have k0:=r48.at_ (p.push [.box 37 false (.agg [.str [],.str [],.str [],.nils,.nils,.nils])]) nl l b hw
 simp only [rd_push p] at k0
 cases e0:(one iNat) l b with
 | none=>
  rw [e0] at k0
  obtain ⟨nl',r,b',k0⟩:=k0
  refine ⟨nl',r,b',?_⟩
  rw [fn_go (KX _ _ _) fn47 rfl (by simp [c47])]
  simp [c47,KL,k0]
 | some y0=>
  obtain ⟨x_c,l0,b0⟩:=y0
  rw [e0] at k0
  simp only at k0 ⊢
  obtain ⟨nl0,k0⟩:=k0
  have hw0:=one_wts e0 hw
  have k1:=r40.at_ (p.push [.box 37 false (.agg [.str [],.str [],.str [],.nils,.nils,.nils])]) nl0 l0 b0 hw0
  simp only [rd_push p] at k1
  cases e1:(one iText) l0 b0 with
  | none=>
   rw [e1] at k1
   obtain ⟨nl',r,b',k1⟩:=k1
   refine ⟨nl',r,b',?_⟩
   rw [fn_go (KX _ _ _) fn47 rfl (by simp [c47])]
   simp [c47,KL,k0,k1]
  | some y1=>
   obtain ⟨x_n,l1,b1⟩:=y1
   rw [e1] at k1
   simp only at k1 ⊢
   obtain ⟨nl1,k1⟩:=k1
   have hw1:=one_wts e1 hw0
   have k2:=r49.at_ (p.push [.box 37 false (.agg [.str [],.str [],.str [],.nils,.nils,.nils])]) nl1 l1 b1 hw1
   simp only [rd_push p] at k2
   cases e2:(one iPf) l1 b1 with
   | none=>
    rw [e2] at k2
    obtain ⟨nl',r,b',k2⟩:=k2
    refine ⟨nl',r,b',?_⟩
    rw [fn_go (KX _ _ _) fn47 rfl (by simp [c47])]
    simp [c47,KL,k0,k1,k2]
   | some y2=>
    obtain ⟨x_p,l2,b2⟩:=y2
    rw [e2] at k2
    simp only at k2 ⊢
    obtain ⟨nl2,k2⟩:=k2
    have hw2:=one_wts e2 hw1
    simp only [sRet]
    refine ⟨nl2,?_⟩
    rw [fn_go (KX _ _ _) fn47 rfl (by simp [c47])]
    simp [c47,KL,k0,k1,k2]
def sRs:SP Rs:=sBind (one iNs) fun x_ats=>sBind (one iSg) fun x_sg=>sBind (one iNat) fun x_w=>sBind (one iNum) fun x_e=>sRet ⟨x_ats,x_sg,x_w,x_e⟩
theorem r54:Reads 54 sRs Rs.av:=fun h a g p _ nl l b hw=>by
 simp only [sRs,sBind]
 have k0:=r55.at_ (p.push [.box 46 false (.agg [.nils,.str [],.str [],.str [],.str [],.int .i64 0])]) nl l b hw
 simp only [rd_push p] at k0
 cases e0:(one iNs) l b with
 | none=>
  rw [e0] at k0
  obtain ⟨nl',r,b',k0⟩:=k0
  refine ⟨nl',r,b',?_⟩
  rw [fn_go (KX _ _ _) fn54 rfl (by simp [c54])]
  simp [c54,KL,k0]
 | some y0=>
  obtain ⟨x_ats,l0,b0⟩:=y0
  rw [e0] at k0
  simp only at k0 ⊢
  obtain ⟨nl0,k0⟩:=k0
  have hw0:=one_wts e0 hw
  have k1:=r56.at_ (p.push [.box 46 false (.agg [.nils,.str [],.str [],.str [],.str [],.int .i64 0])]) nl0 l0 b0 hw0
  simp only [rd_push p] at k1
  cases e1:(one iSg) l0 b0 with
  | none=>
   rw [e1] at k1
   obtain ⟨nl',r,b',k1⟩:=k1
   refine ⟨nl',r,b',?_⟩
   rw [fn_go (KX _ _ _) fn54 rfl (by simp [c54])]
   simp [c54,KL,k0,k1]
  | some y1=>
   obtain ⟨x_sg,l1,b1⟩:=y1
   rw [e1] at k1
   simp only at k1 ⊢
   obtain ⟨nl1,k1⟩:=k1
   have hw1:=one_wts e1 hw0
   have k2:=r48.at_ (p.push [.box 46 false (.agg [.nils,.str [],.str [],.str [],.str [],.int .i64 0])]) nl1 l1 b1 hw1
   simp only [rd_push p] at k2
   cases e2:(one iNat) l1 b1 with
   | none=>
    rw [e2] at k2
    obtain ⟨nl',r,b',k2⟩:=k2
    refine ⟨nl',r,b',?_⟩
    rw [fn_go (KX _ _ _) fn54 rfl (by simp [c54])]
    simp [c54,KL,k0,k1,k2]
   | some y2=>
    obtain ⟨x_w,l2,b2⟩:=y2
    rw [e2] at k2
    simp only at k2 ⊢
    obtain ⟨nl2,k2⟩:=k2
    have hw2:=one_wts e2 hw1
    have k3:=r41.at_ (p.push [.box 46 false (.agg [.nils,.str [],.str [],.str [],.str [],.int .i64 0])]) nl2 l2 b2 hw2
    simp only [rd_push p] at k3
    cases e3:(one iNum) l2 b2 with
    | none=>
     rw [e3] at k3
     obtain ⟨nl',r,b',k3⟩:=k3
     refine ⟨nl',r,b',?_⟩
     rw [fn_go (KX _ _ _) fn54 rfl (by simp [c54])]
     simp [c54,KL,k0,k1,k2,k3]
    | some y3=>
     obtain ⟨x_e,l3,b3⟩:=y3
     rw [e3] at k3
     simp only at k3 ⊢
     obtain ⟨nl3,k3⟩:=k3
     have hw3:=one_wts e3 hw2
     simp only [sRet]
     refine ⟨nl3,?_⟩
     rw [fn_go (KX _ _ _) fn54 rfl (by simp [c54])]
     simp [c54,KL,k0,k1,k2,k3]
end Go.Ab.WireG
/-
  Messages with several parts: how they are read.
-/
namespace Go.Ab.WireG
set_option maxRecDepth 100000
set_option maxHeartbeats 1000000
theorem strs_beq:∀ l:List (List UInt8),AV.beqs (l.map .str) (l.map .str)=true
 | []=>rfl
 | s :: r=>by simp [AV.beqs,AV.beq,strs_beq r]
theorem lv_beq (nl:Bool) (l:List (List UInt8)):(lv nl (l.map .str)).beq (lv nl (l.map .str))=true:=by
 have:=strs_beq l
 cases l<;>cases nl<;>simp_all [lv,AV.beq]
def sHd:SP Hd:=sBind (one iText) fun x_is=>sBind (one iText) fun x_sc=>sBind (one iNum) fun x_ve=>sBind (one iNs) fun x_ats=>sBind (one iSg) fun x_sg=>sBind (one iNum) fun x_e=>sBind (one iNat) fun x_w=>sRet ⟨x_is,x_sc,x_ve,x_ats,x_sg,x_e,x_w⟩
theorem r61:Reads 61 sHd Hd.av:=fun h a g p _ nl l b hw=>by
 simp only [sHd,sBind]
 have k0:=r40.at_ (p.push [.box 55 false (.agg [.str [],.str [],.int .i64 0,.nils,.str [],.str [],.str [],.int .i64 0,.str []])]) nl l b hw
 simp only [rd_push p] at k0
 cases e0:(one iText) l b with
 | none=>
  rw [e0] at k0
  obtain ⟨nl',r,b',k0⟩:=k0
  refine ⟨nl',r,b',?_⟩
  rw [fn_go (KX _ _ _) fn61 rfl (by simp [c61])]
  simp [c61,KL,k0]
 | some y0=>
  obtain ⟨x_is,l0,b0⟩:=y0
  rw [e0] at k0
  simp only at k0 ⊢
  obtain ⟨nl0,k0⟩:=k0
  have hw0:=one_wts e0 hw
  have k1:=r40.at_ (p.push [.box 55 false (.agg [.str [],.str [],.int .i64 0,.nils,.str [],.str [],.str [],.int .i64 0,.str []])]) nl0 l0 b0 hw0
  simp only [rd_push p] at k1
  cases e1:(one iText) l0 b0 with
  | none=>
   rw [e1] at k1
   obtain ⟨nl',r,b',k1⟩:=k1
   refine ⟨nl',r,b',?_⟩
   rw [fn_go (KX _ _ _) fn61 rfl (by simp [c61])]
   simp [c61,KL,k0,k1]
  | some y1=>
   obtain ⟨x_sc,l1,b1⟩:=y1
   rw [e1] at k1
   simp only at k1 ⊢
   obtain ⟨nl1,k1⟩:=k1
   have hw1:=one_wts e1 hw0
   have k2:=r41.at_ (p.push [.box 55 false (.agg [.str [],.str [],.int .i64 0,.nils,.str [],.str [],.str [],.int .i64 0,.str []])]) nl1 l1 b1 hw1
   simp only [rd_push p] at k2
   cases e2:(one iNum) l1 b1 with
   | none=>
    rw [e2] at k2
    obtain ⟨nl',r,b',k2⟩:=k2
    refine ⟨nl',r,b',?_⟩
    rw [fn_go (KX _ _ _) fn61 rfl (by simp [c61])]
    simp [c61,KL,k0,k1,k2]
   | some y2=>
    obtain ⟨x_ve,l2,b2⟩:=y2
    rw [e2] at k2
    simp only at k2 ⊢
    obtain ⟨nl2,k2⟩:=k2
    have hw2:=one_wts e2 hw1
    have k3:=r55.at_ (p.push [.box 55 false (.agg [.str [],.str [],.int .i64 0,.nils,.str [],.str [],.str [],.int .i64 0,.str []])]) nl2 l2 b2 hw2
    simp only [rd_push p] at k3
    cases e3:(one iNs) l2 b2 with
    | none=>
     rw [e3] at k3
     obtain ⟨nl',r,b',k3⟩:=k3
     refine ⟨nl',r,b',?_⟩
     rw [fn_go (KX _ _ _) fn61 rfl (by simp [c61])]
     simp [c61,KL,k0,k1,k2,k3]
    | some y3=>
     obtain ⟨x_ats,l3,b3⟩:=y3
     rw [e3] at k3
     simp only at k3 ⊢
     obtain ⟨nl3,k3⟩:=k3
     have hw3:=one_wts e3 hw2
     have k4:=r56.at_ (p.push [.box 55 false (.agg [.str [],.str [],.int .i64 0,.nils,.str [],.str [],.str [],.int .i64 0,.str []])]) nl3 l3 b3 hw3
     simp only [rd_push p] at k4
     cases e4:(one iSg) l3 b3 with
     | none=>
      rw [e4] at k4
      obtain ⟨nl',r,b',k4⟩:=k4
      refine ⟨nl',r,b',?_⟩
      rw [fn_go (KX _ _ _) fn61 rfl (by simp [c61])]
      simp [c61,KL,k0,k1,k2,k3,k4]
     | some y4=>
      obtain ⟨x_sg,l4,b4⟩:=y4
      rw [e4] at k4
      simp only at k4 ⊢
      obtain ⟨nl4,k4⟩:=k4
      have hw4:=one_wts e4 hw3
      have k5:=r41.at_ (p.push [.box 55 false (.agg [.str [],.str [],.int .i64 0,.nils,.str [],.str [],.str [],.int .i64 0,.str []]),.box 53 false (.agg [.str x_is,.str x_sc,.int .i64 x_ve,avNs x_ats,.str x_sg.a,.str x_sg.e,.str x_sg.v])]) nl4 l4 b4 hw4
      simp only [rd_push p] at k5
      cases e5:(one iNum) l4 b4 with
      | none=>
       rw [e5] at k5
       obtain ⟨nl',r,b',k5⟩:=k5
       refine ⟨nl',r,b',?_⟩
       rw [fn_go (KX _ _ _) fn61 rfl (by simp [c61])]
       simp [c61,KL,k0,k1,k2,k3,k4,k5,lv_beq]
      | some y5=>
       obtain ⟨x_e,l5,b5⟩:=y5
       rw [e5] at k5
       simp only at k5 ⊢
       obtain ⟨nl5,k5⟩:=k5
       have hw5:=one_wts e5 hw4
       have k6:=r48.at_ (p.push [.box 55 false (.agg [.str [],.str [],.int .i64 0,.nils,.str [],.str [],.str [],.int .i64 0,.str []]),.box 53 false (.agg [.str x_is,.str x_sc,.int .i64 x_ve,avNs x_ats,.str x_sg.a,.str x_sg.e,.str x_sg.v])]) nl5 l5 b5 hw5
       simp only [rd_push p] at k6
       cases e6:(one iNat) l5 b5 with
       | none=>
        rw [e6] at k6
        obtain ⟨nl',r,b',k6⟩:=k6
        refine ⟨nl',r,b',?_⟩
        rw [fn_go (KX _ _ _) fn61 rfl (by simp [c61])]
        simp [c61,KL,k0,k1,k2,k3,k4,k5,k6,lv_beq]
       | some y6=>
        obtain ⟨x_w,l6,b6⟩:=y6
        rw [e6] at k6
        simp only at k6 ⊢
        obtain ⟨nl6,k6⟩:=k6
        have hw6:=one_wts e6 hw5
        simp only [sRet]
        refine ⟨nl6,?_⟩
        rw [fn_go (KX _ _ _) fn61 rfl (by simp [c61])]
        simp [c61,KL,k0,k1,k2,k3,k4,k5,k6,lv_beq]
def sDl:SP Dl:=sBind (one iNum) fun x_f=>sBind (one iNum) fun x_t=>sBind (one iNs) fun x_ad=>sBind (one iNs) fun x_rm=>sBind (one iNat) fun x_be=>sBind (one iNat) fun x_af=>sBind (one iP2) fun x_sg=>sRet ⟨x_f,x_t,x_ad,x_rm,x_be,x_af,x_sg⟩
theorem r63:Reads 63 sDl Dl.av:=fun h a g p _ nl l b hw=>by
 simp only [sDl,sBind]
 have k0:=r41.at_ (p.push [.box 64 false (.agg [.int .i64 0,.int .i64 0,.nils,.nils,.str [],.str [],.str [],.str []])]) nl l b hw
 simp only [rd_push p] at k0
 cases e0:(one iNum) l b with
 | none=>
  rw [e0] at k0
  obtain ⟨nl',r,b',k0⟩:=k0
  refine ⟨nl',r,b',?_⟩
  rw [fn_go (KX _ _ _) fn63 rfl (by simp [c63])]
  simp [c63,KL,k0]
 | some y0=>
  obtain ⟨x_f,l0,b0⟩:=y0
  rw [e0] at k0
  simp only at k0 ⊢
  obtain ⟨nl0,k0⟩:=k0
  have hw0:=one_wts e0 hw
  have k1:=r41.at_ (p.push [.box 64 false (.agg [.int .i64 0,.int .i64 0,.nils,.nils,.str [],.str [],.str [],.str []])]) nl0 l0 b0 hw0
  simp only [rd_push p] at k1
  cases e1:(one iNum) l0 b0 with
  | none=>
   rw [e1] at k1
   obtain ⟨nl',r,b',k1⟩:=k1
   refine ⟨nl',r,b',?_⟩
   rw [fn_go (KX _ _ _) fn63 rfl (by simp [c63])]
   simp [c63,KL,k0,k1]
  | some y1=>
   obtain ⟨x_t,l1,b1⟩:=y1
   rw [e1] at k1
   simp only at k1 ⊢
   obtain ⟨nl1,k1⟩:=k1
   have hw1:=one_wts e1 hw0
   have k2:=r55.at_ (p.push [.box 64 false (.agg [.int .i64 0,.int .i64 0,.nils,.nils,.str [],.str [],.str [],.str []])]) nl1 l1 b1 hw1
   simp only [rd_push p] at k2
   cases e2:(one iNs) l1 b1 with
   | none=>
    rw [e2] at k2
    obtain ⟨nl',r,b',k2⟩:=k2
    refine ⟨nl',r,b',?_⟩
    rw [fn_go (KX _ _ _) fn63 rfl (by simp [c63])]
    simp [c63,KL,k0,k1,k2]
   | some y2=>
    obtain ⟨x_ad,l2,b2⟩:=y2
    rw [e2] at k2
    simp only at k2 ⊢
    obtain ⟨nl2,k2⟩:=k2
    have hw2:=one_wts e2 hw1
    have k3:=r55.at_ (p.push [.box 64 false (.agg [.int .i64 0,.int .i64 0,.nils,.nils,.str [],.str [],.str [],.str []])]) nl2 l2 b2 hw2
    simp only [rd_push p] at k3
    cases e3:(one iNs) l2 b2 with
    | none=>
     rw [e3] at k3
     obtain ⟨nl',r,b',k3⟩:=k3
     refine ⟨nl',r,b',?_⟩
     rw [fn_go (KX _ _ _) fn63 rfl (by simp [c63])]
     simp [c63,KL,k0,k1,k2,k3]
    | some y3=>
     obtain ⟨x_rm,l3,b3⟩:=y3
     rw [e3] at k3
     simp only at k3 ⊢
     obtain ⟨nl3,k3⟩:=k3
     have hw3:=one_wts e3 hw2
     have k4:=r48.at_ (p.push [.box 64 false (.agg [.int .i64 0,.int .i64 0,.nils,.nils,.str [],.str [],.str [],.str []])]) nl3 l3 b3 hw3
     simp only [rd_push p] at k4
     cases e4:(one iNat) l3 b3 with
     | none=>
      rw [e4] at k4
      obtain ⟨nl',r,b',k4⟩:=k4
      refine ⟨nl',r,b',?_⟩
      rw [fn_go (KX _ _ _) fn63 rfl (by simp [c63])]
      simp [c63,KL,k0,k1,k2,k3,k4]
     | some y4=>
      obtain ⟨x_be,l4,b4⟩:=y4
      rw [e4] at k4
      simp only at k4 ⊢
      obtain ⟨nl4,k4⟩:=k4
      have hw4:=one_wts e4 hw3
      have k5:=r48.at_ (p.push [.box 64 false (.agg [.int .i64 0,.int .i64 0,.nils,.nils,.str [],.str [],.str [],.str []])]) nl4 l4 b4 hw4
      simp only [rd_push p] at k5
      cases e5:(one iNat) l4 b4 with
      | none=>
       rw [e5] at k5
       obtain ⟨nl',r,b',k5⟩:=k5
       refine ⟨nl',r,b',?_⟩
       rw [fn_go (KX _ _ _) fn63 rfl (by simp [c63])]
       simp [c63,KL,k0,k1,k2,k3,k4,k5]
      | some y5=>
       obtain ⟨x_af,l5,b5⟩:=y5
       rw [e5] at k5
       simp only at k5 ⊢
       obtain ⟨nl5,k5⟩:=k5
       have hw5:=one_wts e5 hw4
       have k6:=r64.at_ (p.push [.box 64 false (.agg [.int .i64 0,.int .i64 0,.nils,.nils,.str [],.str [],.str [],.str []]),.box 64 false (.agg [.int .i64 x_f,.int .i64 x_t,avNs x_ad,avNs x_rm,.str x_be,.str x_af,.str [],.str []])]) nl5 l5 b5 hw5
       simp only [rd_push p] at k6
       cases e6:(one iP2) l5 b5 with
       | none=>
        rw [e6] at k6
        obtain ⟨nl',r,b',k6⟩:=k6
        refine ⟨nl',r,b',?_⟩
        rw [fn_go (KX _ _ _) fn63 rfl (by simp [c63])]
        simp [c63,KL,k0,k1,k2,k3,k4,k5,k6]
       | some y6=>
        obtain ⟨x_sg,l6,b6⟩:=y6
        rw [e6] at k6
        simp only at k6 ⊢
        obtain ⟨nl6,k6⟩:=k6
        have hw6:=one_wts e6 hw5
        simp only [sRet]
        refine ⟨nl6,?_⟩
        rw [fn_go (KX _ _ _) fn63 rfl (by simp [c63])]
        simp [c63,KL,k0,k1,k2,k3,k4,k5,k6]
def sPr:SP Pr:=sBind (one iShs) fun x_sh=>sBind (one iNs) fun x_cm=>sBind (one iNss) fun x_pa=>sBind (one iNss) fun x_sq=>sBind (one iNat) fun x_ny=>sBind (one iNat) fun x_se=>sBind (one iNat) fun x_co=>sBind (one iNs) fun x_cp=>sBind (one iP2) fun x_es=>sBind (one iPf) fun x_p=>sRet ⟨x_sh,x_cm,x_pa,x_sq,x_ny,x_se,x_co,x_cp,x_es,x_p⟩
theorem r67:Reads 67 sPr Pr.av:=fun h a g p _ nl l b hw=>by
 simp only [sPr,sBind]
 have k0:=reads_sl e68 e137 e136 rfl rfl (by omega) (fun x=>by simp) (fun x=>by simp) r69 (p.push [.box 75 false (.agg [.nils,.nils,.nils,.nils,.str [],.str [],.str [],.nils,.str [],.str [],.str [],.nils,.nils,.nils])]) nl l b hw
 simp only [rd_push p] at k0
 cases e0:(one iShs) l b with
 | none=>
  rw [e0] at k0
  obtain ⟨nl',r,b',k0⟩:=k0
  refine ⟨nl',r,b',?_⟩
  rw [fn_go (KX _ _ _) fn67 rfl (by simp [c67])]
  simp [c67,KL,k0]
 | some y0=>
  obtain ⟨x_sh,l0,b0⟩:=y0
  rw [e0] at k0
  simp only at k0 ⊢
  obtain ⟨nl0,k0⟩:=k0
  have hw0:=one_wts e0 hw
  have k1:=r55.at_ (p.push [.box 75 false (.agg [.nils,.nils,.nils,.nils,.str [],.str [],.str [],.nils,.str [],.str [],.str [],.nils,.nils,.nils])]) nl0 l0 b0 hw0
  simp only [rd_push p] at k1
  cases e1:(one iNs) l0 b0 with
  | none=>
   rw [e1] at k1
   obtain ⟨nl',r,b',k1⟩:=k1
   refine ⟨nl',r,b',?_⟩
   rw [fn_go (KX _ _ _) fn67 rfl (by simp [c67])]
   simp [c67,KL,k0,k1]
  | some y1=>
   obtain ⟨x_cm,l1,b1⟩:=y1
   rw [e1] at k1
   simp only at k1 ⊢
   obtain ⟨nl1,k1⟩:=k1
   have hw1:=one_wts e1 hw0
   have k2:=reads_sl e70 e141 e140 rfl rfl (by omega) (fun x=>by simp) (fun x=>by simp) r55 (p.push [.box 75 false (.agg [.nils,.nils,.nils,.nils,.str [],.str [],.str [],.nils,.str [],.str [],.str [],.nils,.nils,.nils])]) nl1 l1 b1 hw1
   simp only [rd_push p] at k2
   cases e2:(one iNss) l1 b1 with
   | none=>
    rw [e2] at k2
    obtain ⟨nl',r,b',k2⟩:=k2
    refine ⟨nl',r,b',?_⟩
    rw [fn_go (KX _ _ _) fn67 rfl (by simp [c67])]
    simp [c67,KL,k0,k1,k2]
   | some y2=>
    obtain ⟨x_pa,l2,b2⟩:=y2
    rw [e2] at k2
    simp only at k2 ⊢
    obtain ⟨nl2,k2⟩:=k2
    have hw2:=one_wts e2 hw1
    have k3:=reads_sl e70 e141 e140 rfl rfl (by omega) (fun x=>by simp) (fun x=>by simp) r55 (p.push [.box 75 false (.agg [.nils,.nils,.nils,.nils,.str [],.str [],.str [],.nils,.str [],.str [],.str [],.nils,.nils,.nils])]) nl2 l2 b2 hw2
    simp only [rd_push p] at k3
    cases e3:(one iNss) l2 b2 with
    | none=>
     rw [e3] at k3
     obtain ⟨nl',r,b',k3⟩:=k3
     refine ⟨nl',r,b',?_⟩
     rw [fn_go (KX _ _ _) fn67 rfl (by simp [c67])]
     simp [c67,KL,k0,k1,k2,k3]
    | some y3=>
     obtain ⟨x_sq,l3,b3⟩:=y3
     rw [e3] at k3
     simp only at k3 ⊢
     obtain ⟨nl3,k3⟩:=k3
     have hw3:=one_wts e3 hw2
     have k4:=r48.at_ (p.push [.box 75 false (.agg [.nils,.nils,.nils,.nils,.str [],.str [],.str [],.nils,.str [],.str [],.str [],.nils,.nils,.nils])]) nl3 l3 b3 hw3
     simp only [rd_push p] at k4
     cases e4:(one iNat) l3 b3 with
     | none=>
      rw [e4] at k4
      obtain ⟨nl',r,b',k4⟩:=k4
      refine ⟨nl',r,b',?_⟩
      rw [fn_go (KX _ _ _) fn67 rfl (by simp [c67])]
      simp [c67,KL,k0,k1,k2,k3,k4]
     | some y4=>
      obtain ⟨x_ny,l4,b4⟩:=y4
      rw [e4] at k4
      simp only at k4 ⊢
      obtain ⟨nl4,k4⟩:=k4
      have hw4:=one_wts e4 hw3
      have k5:=r48.at_ (p.push [.box 75 false (.agg [.nils,.nils,.nils,.nils,.str [],.str [],.str [],.nils,.str [],.str [],.str [],.nils,.nils,.nils])]) nl4 l4 b4 hw4
      simp only [rd_push p] at k5
      cases e5:(one iNat) l4 b4 with
      | none=>
       rw [e5] at k5
       obtain ⟨nl',r,b',k5⟩:=k5
       refine ⟨nl',r,b',?_⟩
       rw [fn_go (KX _ _ _) fn67 rfl (by simp [c67])]
       simp [c67,KL,k0,k1,k2,k3,k4,k5]
      | some y5=>
       obtain ⟨x_se,l5,b5⟩:=y5
       rw [e5] at k5
       simp only at k5 ⊢
       obtain ⟨nl5,k5⟩:=k5
       have hw5:=one_wts e5 hw4
       have k6:=r48.at_ (p.push [.box 75 false (.agg [.nils,.nils,.nils,.nils,.str [],.str [],.str [],.nils,.str [],.str [],.str [],.nils,.nils,.nils])]) nl5 l5 b5 hw5
       simp only [rd_push p] at k6
       cases e6:(one iNat) l5 b5 with
       | none=>
        rw [e6] at k6
        obtain ⟨nl',r,b',k6⟩:=k6
        refine ⟨nl',r,b',?_⟩
        rw [fn_go (KX _ _ _) fn67 rfl (by simp [c67])]
        simp [c67,KL,k0,k1,k2,k3,k4,k5,k6]
       | some y6=>
        obtain ⟨x_co,l6,b6⟩:=y6
        rw [e6] at k6
        simp only at k6 ⊢
        obtain ⟨nl6,k6⟩:=k6
        have hw6:=one_wts e6 hw5
        have k7:=r55.at_ (p.push [.box 75 false (.agg [.nils,.nils,.nils,.nils,.str [],.str [],.str [],.nils,.str [],.str [],.str [],.nils,.nils,.nils])]) nl6 l6 b6 hw6
        simp only [rd_push p] at k7
        cases e7:(one iNs) l6 b6 with
        | none=>
         rw [e7] at k7
         obtain ⟨nl',r,b',k7⟩:=k7
         refine ⟨nl',r,b',?_⟩
         rw [fn_go (KX _ _ _) fn67 rfl (by simp [c67])]
         simp [c67,KL,k0,k1,k2,k3,k4,k5,k6,k7]
        | some y7=>
         obtain ⟨x_cp,l7,b7⟩:=y7
         rw [e7] at k7
         simp only at k7 ⊢
         obtain ⟨nl7,k7⟩:=k7
         have hw7:=one_wts e7 hw6
         have k8:=r64.at_ (p.push [.box 75 false (.agg [.nils,.nils,.nils,.nils,.str [],.str [],.str [],.nils,.str [],.str [],.str [],.nils,.nils,.nils]),.box 75 false (.agg [avShs x_sh,avNs x_cm,avNss x_pa,avNss x_sq,.str x_ny,.str x_se,.str x_co,avNs x_cp,.str [],.str [],.str [],.nils,.nils,.nils])]) nl7 l7 b7 hw7
         simp only [rd_push p] at k8
         cases e8:(one iP2) l7 b7 with
         | none=>
          rw [e8] at k8
          obtain ⟨nl',r,b',k8⟩:=k8
          refine ⟨nl',r,b',?_⟩
          rw [fn_go (KX _ _ _) fn67 rfl (by simp [c67])]
          simp [c67,KL,k0,k1,k2,k3,k4,k5,k6,k7,k8]
         | some y8=>
          obtain ⟨x_es,l8,b8⟩:=y8
          rw [e8] at k8
          simp only at k8 ⊢
          obtain ⟨nl8,k8⟩:=k8
          have hw8:=one_wts e8 hw7
          have k9:=r49.at_ (p.push [.box 75 false (.agg [.nils,.nils,.nils,.nils,.str [],.str [],.str [],.nils,.str [],.str [],.str [],.nils,.nils,.nils]),.box 75 false (.agg [avShs x_sh,avNs x_cm,avNss x_pa,avNss x_sq,.str x_ny,.str x_se,.str x_co,avNs x_cp,.str x_es.a,.str x_es.b,.str [],.nils,.nils,.nils]),.box 120 false (.agg [.str x_es.a,.str x_es.b])]) nl8 l8 b8 hw8
          simp only [rd_push p] at k9
          cases e9:(one iPf) l8 b8 with
          | none=>
           rw [e9] at k9
           obtain ⟨nl',r,b',k9⟩:=k9
           refine ⟨nl',r,b',?_⟩
           rw [fn_go (KX _ _ _) fn67 rfl (by simp [c67])]
           simp [c67,KL,k0,k1,k2,k3,k4,k5,k6,k7,k8,k9]
          | some y9=>
           obtain ⟨x_p,l9,b9⟩:=y9
           rw [e9] at k9
           simp only at k9 ⊢
           obtain ⟨nl9,k9⟩:=k9
           have hw9:=one_wts e9 hw8
           simp only [sRet]
           refine ⟨nl9,?_⟩
           rw [fn_go (KX _ _ _) fn67 rfl (by simp [c67])]
           simp [c67,KL,k0,k1,k2,k3,k4,k5,k6,k7,k8,k9]
end Go.Ab.WireG
/-
  Generic functions of the package wire: lists of structs, written.
-/
namespace Go.Ab.WireG
set_option maxRecDepth 100000
set_option maxHeartbeats 1000000
theorem lv_beq_ {α:Type} {av:α→AV} (H:∀ x,(av x).beq (av x)=true) (nl:Bool) (l:List α):(lv nl (l.map av)).beq (lv nl (l.map av))=true:=by
 have k:∀ l:List α,AV.beqs (l.map av) (l.map av)=true:=fun l=>by
  induction l with
  | nil=>rfl
  | cons x l ih=>simp [AV.beqs,H x,ih]
 have:=k l
 cases l<;>cases nl<;>simp_all [lv,AV.beq]
theorem beq_Ns (s:Sl (List UInt8)):(avNs s).beq (avNs s)=true:=lv_beq_ (fun x=>by simp [AV.beq]) s.nl s.l
end Go.Ab.WireG
/-
  Messages: the items that the package wire makes of them.
-/
namespace Go.Ab.WireG
set_option maxRecDepth 100000
set_option maxHeartbeats 1000000
theorem wt_mem {α:Type} {r:α→It} {x:α}:∀ {l:List α},x∈l→wt (r x)≤wts (l.map r)
 | y :: l,h=>by
  simp only [List.map_cons,wts]
  rcases List.mem_cons.1 h with rfl | h
  ·omega
  ·have:=wt_mem (r:=r) h
   omega
abbrev rL {α:Type} (r:α→It) (s:Sl α):It:=.mk 2 [] [] true (s.l.map r)
abbrev rI (g:Ig):It:=intR g.ng g.ab
abbrev rNs (s:Sl (List UInt8)):It:=rL nI s
abbrev rIs (s:Sl Ig):It:=rL rI s
abbrev rNss (s:Sl (Sl (List UInt8))):It:=rL rNs s
abbrev rIss (s:Sl (Sl Ig)):It:=rL rIs s
abbrev rSg (x:Sg):It:=.mk 2 [] [] true [nI x.a,nI x.e,nI x.v]
abbrev rPf (x:Pf):It:=.mk 2 [] [] true [nI x.c,rIs x.rs,rNs x.gs,rIss x.ls]
abbrev rSh (x:Sh):It:=.mk 2 [] [] true [tI x.is,nI (numB x.ve),nI x.a,nI x.w,rNs x.ds]
abbrev rShs (s:Sl Sh):It:=rL rSh s
abbrev bN (s:List UInt8):Bool:=!canon s
abbrev bI (g:Ig):Bool:=!(canon g.ab && !(g.ng && decide (g.ab=[])))
abbrev bNs (s:Sl (List UInt8)):Bool:=s.l.any bN
abbrev bIs (s:Sl Ig):Bool:=s.l.any bI
abbrev bNss (s:Sl (Sl (List UInt8))):Bool:=s.l.any bNs
abbrev bIss (s:Sl (Sl Ig)):Bool:=s.l.any bIs
abbrev bSg (x:Sg):Bool:=bN x.a || (bN x.e || bN x.v)
abbrev bPf (x:Pf):Bool:=bN x.c || (bIs x.rs || (bNs x.gs || bIss x.ls))
abbrev bSh (x:Sh):Bool:=bN x.a || (bN x.w || bNs x.ds)
abbrev no {α:Type} (_:α):Bool:=false
end Go.Ab.WireG
/-
  Sameness of messages;their sizes.
-/
namespace Go.Ab.WireG
set_option maxRecDepth 100000
set_option maxHeartbeats 1000000
def retOf (t:Nat):Option (Ex×St)→Option (Ex×AV×Heap)
 | some (ex,s)=>some (ex,get s.env t,s.h)
 | none=>none
theorem retOf_some {t:Nat} {o:Option (Ex×St)} {ex:Ex} {v:AV} {h:Heap} (e:retOf t o=some (ex,v,h)):∃ env,o=some (ex,⟨env,h⟩)∧get env t=v:=by
 unfold retOf at e
 split at e
 ·simp only [Option.some.injEq,Prod.mk.injEq] at e
  obtain ⟨rfl,rfl,rfl⟩:=e
  exact ⟨_,rfl,rfl⟩
 ·cases e
def eqL {α:Type} (e:α→α→Bool):List α→List α→Bool
 | [],[]=>true
 | x :: s,y :: t=>e x y && eqL e s t
 | _,_=>false
theorem eqL_len {α:Type} {e:α→α→Bool}:∀ {s t:List α},eqL e s t=true→s.length=t.length
 | [],[],_=>rfl
 | x :: s,y :: t,h=>by
  simp only [eqL,Bool.and_eq_true] at h
  simp [eqL_len h.2]
 | [],_ :: _,h=>by cases h
 | _ :: _,[],h=>by cases h
abbrev eqB (a b:List UInt8):Bool:=decide (a=b)
abbrev eqI (a b:Ig):Bool:=decide (a.ng=b.ng) && decide (a.ab=b.ab)
abbrev eqNs (a b:Sl (List UInt8)):Bool:=eqL eqB a.l b.l
abbrev eqIs (a b:Sl Ig):Bool:=eqL eqI a.l b.l
abbrev eqNss (a b:Sl (Sl (List UInt8))):Bool:=eqL eqNs a.l b.l
abbrev eqPf (a b:Pf):Bool:=eqB a.c b.c && (eqIs a.rs b.rs && (eqNs a.gs b.gs && eqL eqIs a.ls.l b.ls.l))
abbrev eqSh (a b:Sh):Bool:=eqB a.is b.is && (decide (a.ve=b.ve) && (eqB a.a b.a && (eqB a.w b.w && eqNs a.ds b.ds)))
abbrev eqPr (a b:Pr):Bool:=eqL eqSh a.sh.l b.sh.l && (eqNs a.cm b.cm && (eqNss a.pa b.pa && (eqNss a.sq b.sq && (eqB a.ny b.ny && (eqB a.se b.se && (eqB a.co b.co && (eqNs a.cp b.cp && ((eqB a.es.a b.es.a && eqB a.es.b b.es.b) && eqPf a.p b.p))))))))
theorem f59_loop (na nb:Bool) {h:Heap}:∀ (s t pa pb:List (List UInt8)),s.length=t.length→pa.length=pb.length→(pa++s).length≤140737488355328 →
  (eqL eqB s t=true→∃ env,(mu K).code (.loopAt 0 [0,1,5] l59_0) ⟨[(0,lv na ((pa++s).map AV.str)),(1,lv nb ((pb++t).map AV.str)),(5,.int .i64 (pa.length:Int))],[] :: h⟩=some (.exit 0,⟨env,[] :: h⟩)) ∧
  (eqL eqB s t=false→retOf 4 ((mu K).code (.loopAt 0 [0,1,5] l59_0) ⟨[(0,lv na ((pa++s).map AV.str)),(1,lv nb ((pb++t).map AV.str)),(5,.int .i64 (pa.length:Int))],[] :: h⟩)=some (.ret,.bool false,[] :: h))
 | [],[],pa,pb,hl,hp,hb=>by
  refine ⟨fun _=>?_,fun e=>by cases e⟩
  rw [loop_go]
  generalize (mu K).code (CC.loopAt 0 [0,1,5] l59_0)=F
  simp [l59_0]
 | [],_ :: _,pa,pb,hl,hp,hb=>by simp at hl
 | _ :: _,[],pa,pb,hl,hp,hb=>by simp at hl
 | x :: s,y :: t,pa,pb,hl,hp,hb=>by
  have ih:=f59_loop na nb (h:=h) s t (pa++[x]) (pb++[y]) (by simpa using hl) (by simp [hp]) (by simpa using hb)
  have hl':s.length=t.length:=by simpa using hl
  have hb2:pa.length+(s.length+1)≤140737488355328:=by simpa using hb
  have h1:(pa.length:Int) < (pa.length:Int)+((s.length:Int)+1):=by omega
  have w1:IntKind.i64.wrap ((pa.length:Int)+1)=(pa.length:Int)+1:=wrap64 (by omega) (by omega)
  have hnA:(pa++x :: s).map AV.str≠[]:=by simp
  have hnB:(pb++y :: t).map AV.str≠[]:=by simp
  have hgA:∀ hh,((pa++x :: s).map AV.str)[pa.length]'hh=AV.str x:=fun hh=>by simp
  have hgB:∀ hh,((pb++y :: t).map AV.str)[pa.length]'hh=AV.str y:=fun hh=>by simp [hp]
  have hlA:((pa++x :: s).map AV.str).length=pa.length+(s.length+1):=by simp
  have hlB:((pb++y :: t).map AV.str).length=pa.length+(s.length+1):=by simp [hp,hl']
  simp only [List.append_assoc,List.singleton_append,List.length_append,List.length_singleton,Int.natCast_add,Int.natCast_one] at ih
  rw [lv_lst na hnA,lv_lst nb hnB] at ih ⊢
  rw [loop_go]
  generalize hX:(pa++x :: s).map AV.str=X at *
  generalize hY:(pb++y :: t).map AV.str=Y at *
  generalize hF:(mu K).code (CC.loopAt 0 [0,1,5] l59_0)=F at ih ⊢
  skip
  by_cases he:eqB x y=true
  ·simp only [eqL,he,Bool.true_and]
   have he2:x=y:=by simpa using he
   refine ⟨fun q=>?_,fun q=>?_⟩
   ·obtain ⟨env,ih⟩:=ih.1 q
    refine ⟨env,?_⟩
    simp [l59_0,KL,hlA,hlB,hgA,hgB,h1,w1,he2]
    simpa using ih
   ·have ih:=ih.2 q
    simp [l59_0,KL,hlA,hlB,hgA,hgB,h1,w1,he2]
    simpa using ih
  ·refine ⟨fun q=>by simp [eqL,he] at q,fun _=>?_⟩
   have he2:¬ x=y:=by simpa using he
   simp [l59_0,KL,hlA,hlB,hgA,hgB,h1,w1,he2,retOf]
theorem f59 (a b:Sl (List UInt8)) (ha:a.l.length≤140737488355328) (h:Heap):(mu K).fn 59 [a.avS AV.str,b.avS AV.str] h=some (.val (.bool (eqL eqB a.l b.l)) h):=by
 rw [fn_go (KX _ _ _) fn59 rfl (by simp [c59])]
 by_cases hl:a.l.length=b.l.length
 ·have k:=f59_loop a.nl b.nl (h:=h) a.l b.l [] [] hl rfl (by simpa using ha)
  simp only [List.nil_append,List.length_nil,Int.natCast_zero] at k
  cases q:eqL eqB a.l b.l
  ·obtain ⟨env,k,g4⟩:=retOf_some (k.2 q)
   simp [c59,KL,hl,k,g4]
  ·obtain ⟨env,k⟩:=k.1 q
   simp [c59,KL,hl,k]
 ·have q:¬ eqL eqB a.l b.l=true:=fun e=>hl (eqL_len e)
  have hl2:¬ (a.l.length:Int)=(b.l.length:Int):=by omega
  simp [c59,KL,hl2,q]
theorem f118_loop (na nb:Bool) {h:Heap}:∀ (s t pa pb:List (Ig)),s.length=t.length→pa.length=pb.length→(pa++s).length≤140737488355328 →
  (eqL eqI s t=true→∃ env,(mu K).code (.loopAt 0 [0,1,5] l118_0) ⟨[(0,lv na ((pa++s).map Ig.av)),(1,lv nb ((pb++t).map Ig.av)),(5,.int .i64 (pa.length:Int))],[] :: h⟩=some (.exit 0,⟨env,[] :: h⟩)) ∧
  (eqL eqI s t=false→retOf 4 ((mu K).code (.loopAt 0 [0,1,5] l118_0) ⟨[(0,lv na ((pa++s).map Ig.av)),(1,lv nb ((pb++t).map Ig.av)),(5,.int .i64 (pa.length:Int))],[] :: h⟩)=some (.ret,.bool false,[] :: h))
 | [],[],pa,pb,hl,hp,hb=>by
  refine ⟨fun _=>?_,fun e=>by cases e⟩
  rw [loop_go]
  generalize (mu K).code (CC.loopAt 0 [0,1,5] l118_0)=F
  simp [l118_0]
 | [],_ :: _,pa,pb,hl,hp,hb=>by simp at hl
 | _ :: _,[],pa,pb,hl,hp,hb=>by simp at hl
 | x :: s,y :: t,pa,pb,hl,hp,hb=>by
  have ih:=f118_loop na nb (h:=h) s t (pa++[x]) (pb++[y]) (by simpa using hl) (by simp [hp]) (by simpa using hb)
  have hl':s.length=t.length:=by simpa using hl
  have hb2:pa.length+(s.length+1)≤140737488355328:=by simpa using hb
  have h1:(pa.length:Int) < (pa.length:Int)+((s.length:Int)+1):=by omega
  have w1:IntKind.i64.wrap ((pa.length:Int)+1)=(pa.length:Int)+1:=wrap64 (by omega) (by omega)
  have hnA:(pa++x :: s).map Ig.av≠[]:=by simp
  have hnB:(pb++y :: t).map Ig.av≠[]:=by simp
  have hgA:∀ hh,((pa++x :: s).map Ig.av)[pa.length]'hh=Ig.av x:=fun hh=>by simp
  have hgB:∀ hh,((pb++y :: t).map Ig.av)[pa.length]'hh=Ig.av y:=fun hh=>by simp [hp]
  have hlA:((pa++x :: s).map Ig.av).length=pa.length+(s.length+1):=by simp
  have hlB:((pb++y :: t).map Ig.av).length=pa.length+(s.length+1):=by simp [hp,hl']
  simp only [List.append_assoc,List.singleton_append,List.length_append,List.length_singleton,Int.natCast_add,Int.natCast_one] at ih
  rw [lv_lst na hnA,lv_lst nb hnB] at ih ⊢
  rw [loop_go]
  generalize hX:(pa++x :: s).map Ig.av=X at *
  generalize hY:(pb++y :: t).map Ig.av=Y at *
  generalize hF:(mu K).code (CC.loopAt 0 [0,1,5] l118_0)=F at ih ⊢
  skip
  by_cases he:eqI x y=true
  ·simp only [eqL,he,Bool.true_and]
   have he2:x.ng=y.ng∧x.ab=y.ab:=by simpa using he
   refine ⟨fun q=>?_,fun q=>?_⟩
   ·obtain ⟨env,ih⟩:=ih.1 q
    refine ⟨env,?_⟩
    simp [l118_0,KL,hlA,hlB,hgA,hgB,h1,w1,he2.1,he2.2,eqF,eqFs]
    simpa using ih
   ·have ih:=ih.2 q
    simp [l118_0,KL,hlA,hlB,hgA,hgB,h1,w1,he2.1,he2.2,eqF,eqFs]
    simpa using ih
  ·refine ⟨fun q=>by simp [eqL,he] at q,fun _=>?_⟩
   have he2:¬ (x.ng=y.ng∧x.ab=y.ab):=by simpa using he
   have he3:(decide (x.ng=y.ng) && decide (x.ab=y.ab))=false:=by simpa using he
   simp [l118_0,KL,hlA,hlB,hgA,hgB,h1,w1,he3,eqF,eqFs,retOf]
theorem f118 (a b:Sl (Ig)) (ha:a.l.length≤140737488355328) (h:Heap):(mu K).fn 118 [a.avS Ig.av,b.avS Ig.av] h=some (.val (.bool (eqL eqI a.l b.l)) h):=by
 rw [fn_go (KX _ _ _) fn118 rfl (by simp [c118])]
 by_cases hl:a.l.length=b.l.length
 ·have k:=f118_loop a.nl b.nl (h:=h) a.l b.l [] [] hl rfl (by simpa using ha)
  simp only [List.nil_append,List.length_nil,Int.natCast_zero] at k
  cases q:eqL eqI a.l b.l
  ·obtain ⟨env,k,g4⟩:=retOf_some (k.2 q)
   simp [c118,KL,hl,k,g4]
  ·obtain ⟨env,k⟩:=k.1 q
   simp [c118,KL,hl,k]
 ·have q:¬ eqL eqI a.l b.l=true:=fun e=>hl (eqL_len e)
  have hl2:¬ (a.l.length:Int)=(b.l.length:Int):=by omega
  simp [c118,KL,hl2,q]
theorem f74_loop (na nb:Bool) {h:Heap}:∀ (s t pa pb:List (Sl (List UInt8))),s.length=t.length→pa.length=pb.length→(pa++s).length≤140737488355328→(∀ x∈s,x.l.length≤140737488355328) →
  (eqL eqNs s t=true→∃ env,(mu K).code (.loopAt 0 [0,1,5] l74_0) ⟨[(0,lv na ((pa++s).map avNs)),(1,lv nb ((pb++t).map avNs)),(5,.int .i64 (pa.length:Int))],[] :: h⟩=some (.exit 0,⟨env,[] :: h⟩)) ∧
  (eqL eqNs s t=false→retOf 4 ((mu K).code (.loopAt 0 [0,1,5] l74_0) ⟨[(0,lv na ((pa++s).map avNs)),(1,lv nb ((pb++t).map avNs)),(5,.int .i64 (pa.length:Int))],[] :: h⟩)=some (.ret,.bool false,[] :: h))
 | [],[],pa,pb,hl,hp,hb,hx=>by
  refine ⟨fun _=>?_,fun e=>by cases e⟩
  rw [loop_go]
  generalize (mu K).code (CC.loopAt 0 [0,1,5] l74_0)=F
  simp [l74_0]
 | [],_ :: _,pa,pb,hl,hp,hb,hx=>by simp at hl
 | _ :: _,[],pa,pb,hl,hp,hb,hx=>by simp at hl
 | x :: s,y :: t,pa,pb,hl,hp,hb,hx=>by
  have ih:=f74_loop na nb (h:=h) s t (pa++[x]) (pb++[y]) (by simpa using hl) (by simp [hp]) (by simpa using hb) (fun z hz=>hx z (by simp [hz]))
  have hl':s.length=t.length:=by simpa using hl
  have hb2:pa.length+(s.length+1)≤140737488355328:=by simpa using hb
  have h1:(pa.length:Int) < (pa.length:Int)+((s.length:Int)+1):=by omega
  have w1:IntKind.i64.wrap ((pa.length:Int)+1)=(pa.length:Int)+1:=wrap64 (by omega) (by omega)
  have hnA:(pa++x :: s).map avNs≠[]:=by simp
  have hnB:(pb++y :: t).map avNs≠[]:=by simp
  have hgA:∀ hh,((pa++x :: s).map avNs)[pa.length]'hh=avNs x:=fun hh=>by simp
  have hgB:∀ hh,((pb++y :: t).map avNs)[pa.length]'hh=avNs y:=fun hh=>by simp [hp]
  have hlA:((pa++x :: s).map avNs).length=pa.length+(s.length+1):=by simp
  have hlB:((pb++y :: t).map avNs).length=pa.length+(s.length+1):=by simp [hp,hl']
  simp only [List.append_assoc,List.singleton_append,List.length_append,List.length_singleton,Int.natCast_add,Int.natCast_one] at ih
  rw [lv_lst na hnA,lv_lst nb hnB] at ih ⊢
  rw [loop_go]
  generalize hX:(pa++x :: s).map avNs=X at *
  generalize hY:(pb++y :: t).map avNs=Y at *
  generalize hF:(mu K).code (CC.loopAt 0 [0,1,5] l74_0)=F at ih ⊢
  have k59:=fun h=>f59 x y (hx x (by simp)) h
  by_cases he:eqNs x y=true
  ·simp only [eqL,he,Bool.true_and]
   simp only [avNs,Sl.avS] at k59 hgA hgB ⊢
   refine ⟨fun q=>?_,fun q=>?_⟩
   ·obtain ⟨env,ih⟩:=ih.1 q
    refine ⟨env,?_⟩
    simp [l74_0,KL,hlA,hlB,hgA,hgB,h1,w1,k59,he]
    simpa using ih
   ·have ih:=ih.2 q
    simp [l74_0,KL,hlA,hlB,hgA,hgB,h1,w1,k59,he]
    simpa using ih
  ·refine ⟨fun q=>by simp [eqL,he] at q,fun _=>?_⟩
   have he2:eqNs x y=false:=by simpa using he
   simp only [avNs,Sl.avS] at k59 hgA hgB ⊢
   simp [l74_0,KL,hlA,hlB,hgA,hgB,h1,w1,k59,he2,retOf]
theorem f74 (a b:Sl (Sl (List UInt8))) (ha:a.l.length≤140737488355328) (hx:∀ x∈a.l,x.l.length≤140737488355328) (h:Heap):(mu K).fn 74 [a.avS avNs,b.avS avNs] h=some (.val (.bool (eqL eqNs a.l b.l)) h):=by
 rw [fn_go (KX _ _ _) fn74 rfl (by simp [c74])]
 by_cases hl:a.l.length=b.l.length
 ·have k:=f74_loop a.nl b.nl (h:=h) a.l b.l [] [] hl rfl (by simpa using ha) hx
  simp only [List.nil_append,List.length_nil,Int.natCast_zero] at k
  cases q:eqL eqNs a.l b.l
  ·obtain ⟨env,k,g4⟩:=retOf_some (k.2 q)
   simp [c74,KL,hl,k,g4]
  ·obtain ⟨env,k⟩:=k.1 q
   simp [c74,KL,hl,k]
 ·have q:¬ eqL eqNs a.l b.l=true:=fun e=>hl (eqL_len e)
  have hl2:¬ (a.l.length:Int)=(b.l.length:Int):=by omega
  simp [c74,KL,hl2,q]
theorem len_rL {α:Type} {r:α→It} {s:Sl α} (h:wt (rL r s)≤1000000):s.l.length≤140737488355328:=by
 have e:wt (rL r s)=1+wts (s.l.map r):=by simp [wt]
 have:=len_wts (s.l.map r)
 simp only [List.length_map] at this
 omega
theorem mem_rL {α:Type} {r:α→It} {s:Sl α} (h:wt (rL r s)≤1000000):∀ x∈s.l,wt (r x)≤1000000:=fun x hx=>by
 have e:wt (rL r s)=1+wts (s.l.map r):=by simp [wt]
 have:=wt_mem (r:=r) hx
 omega
theorem f52_loop (a b:Pf) {h:Heap} (ha:wt (rIss a.ls)≤1000000):∀ (s t pa pb:List (Sl Ig)),a.ls.l=pa++s→b.ls.l=pb++t→s.length=t.length→pa.length=pb.length →
  (eqL eqIs s t=true→∃ env,(mu K).code (.loopAt 2 [2,3,5] l52_0) ⟨[(2,.ptr (h.length,0) 0),(3,.ptr (h.length,1) 0),(5,.int .i64 (pa.length:Int))],[.box 35 false a.av,.box 35 false b.av] :: h⟩=some (.exit 0,⟨env,[.box 35 false a.av,.box 35 false b.av] :: h⟩)) ∧
  (eqL eqIs s t=false→retOf 4 ((mu K).code (.loopAt 2 [2,3,5] l52_0) ⟨[(2,.ptr (h.length,0) 0),(3,.ptr (h.length,1) 0),(5,.int .i64 (pa.length:Int))],[.box 35 false a.av,.box 35 false b.av] :: h⟩)=some (.ret,.bool false,[.box 35 false a.av,.box 35 false b.av] :: h))
 | [],[],pa,pb,e1,e2,hl,hp=>by
  refine ⟨fun _=>?_,fun e=>by cases e⟩
  have hn:a.ls.l.length=pa.length:=by rw [e1];simp
  rw [loop_go]
  generalize (mu K).code (CC.loopAt 2 [2,3,5] l52_0)=F
  simp [l52_0,hn]
 | [],_ :: _,pa,pb,e1,e2,hl,hp=>by simp at hl
 | _ :: _,[],pa,pb,e1,e2,hl,hp=>by simp at hl
 | x :: s,y :: t,pa,pb,e1,e2,hl,hp=>by
  have ih:=f52_loop a b (h:=h) ha s t (pa++[x]) (pb++[y]) (by simp [e1]) (by simp [e2]) (by simpa using hl) (by simp [hp])
  have hl':s.length=t.length:=by simpa using hl
  have hlen0:a.ls.l.length=pa.length+(s.length+1):=by rw [e1];simp
  have hln:=len_rL ha
  have hx:=len_rL (mem_rL ha x (by rw [e1];simp))
  have k118:=fun h=>f118 x y hx h
  have h1:(pa.length:Int) < (pa.length:Int)+((s.length:Int)+1):=by omega
  have w1:IntKind.i64.wrap ((pa.length:Int)+1)=(pa.length:Int)+1:=wrap64 (by omega) (by omega)
  have hnA:a.ls.l.map avIs≠[]:=by rw [e1];simp
  have hnB:b.ls.l.map avIs≠[]:=by rw [e2];simp
  have hgA:∀ hh,(a.ls.l.map avIs)[pa.length]'hh=avIs x:=fun hh=>by simp [e1]
  have hgB:∀ hh,(b.ls.l.map avIs)[pa.length]'hh=avIs y:=fun hh=>by simp [e2,hp]
  have hlA:(a.ls.l.map avIs).length=pa.length+(s.length+1):=by simp [hlen0]
  have hlB:(b.ls.l.map avIs).length=pa.length+(s.length+1):=by rw [e2];simp [hp,hl']
  have q1:=lv_lst a.ls.nl hnA
  have q2:=lv_lst b.ls.nl hnB
  simp only [List.append_assoc,List.singleton_append,List.length_append,List.length_singleton,Int.natCast_add,Int.natCast_one] at ih
  simp only [Pf.av,Pf.cs,avIss,Sl.avS] at ih ⊢
  simp only [avIs,Sl.avS] at ih hgA hgB hlA hlB hnA hnB q1 q2 k118 ⊢
  rw [q1,q2] at ih ⊢
  rw [loop_go]
  generalize hX:a.ls.l.map (fun s:Sl Ig=>lv s.nl (s.l.map Ig.av))=X at *
  generalize hY:b.ls.l.map (fun s:Sl Ig=>lv s.nl (s.l.map Ig.av))=Y at *
  generalize hF:(mu K).code (CC.loopAt 2 [2,3,5] l52_0)=F at ih ⊢
  by_cases he:eqIs x y=true
  ·simp only [eqL,he,Bool.true_and]
   refine ⟨fun q=>?_,fun q=>?_⟩
   ·obtain ⟨env,ih⟩:=ih.1 q
    refine ⟨env,?_⟩
    simp [l52_0,KL,hlA,hlB,hgA,hgB,h1,w1,k118,he]
    simpa using ih
   ·have ih:=ih.2 q
    simp [l52_0,KL,hlA,hlB,hgA,hgB,h1,w1,k118,he]
    simpa using ih
  ·refine ⟨fun q=>by simp [eqL,he] at q,fun _=>?_⟩
   have he2:eqIs x y=false:=by simpa using he
   simp [l52_0,KL,hlA,hlB,hgA,hgB,h1,w1,k118,he2,retOf]
theorem f52 (a b:Pf) (ha:wt (rPf a)≤1000000) (h:Heap):(mu K).fn 52 [a.av,b.av] h=some (.val (.bool (eqPf a b)) h):=by
 have e1:wt (rPf a)=1+(wt (nI a.c)+(wt (rIs a.rs)+(wt (rNs a.gs)+wt (rIss a.ls)))):=by simp [wt,wts]
 have v1:wt (rIs a.rs)≤1000000:=by omega
 have v2:wt (rNs a.gs)≤1000000:=by omega
 have k1:=fun h=>f118 a.rs b.rs (len_rL v1) h
 have k2:=fun h=>f59 a.gs b.gs (len_rL v2) h
 rw [fn_go (KX _ _ _) fn52 rfl (by simp [c52])]
 by_cases q1:a.c=b.c
 ·cases q2:eqIs a.rs b.rs
  ·simp [c52,KL,q1,k1,q2]
  ·cases q3:eqNs a.gs b.gs
   ·simp [c52,KL,q1,k1,k2,q2,q3]
   ·by_cases hl:a.ls.l.length=b.ls.l.length
    ·have k:=f52_loop a b (h:=h) (by omega) a.ls.l b.ls.l [] [] rfl rfl hl rfl
     simp only [List.length_nil,Int.natCast_zero] at k
     cases q:eqL eqIs a.ls.l b.ls.l
     ·obtain ⟨env,k,g4⟩:=retOf_some (k.2 q)
      simp [c52,KL,q1,k1,k2,q2,q3,hl,k,g4,q]
     ·obtain ⟨env,k⟩:=k.1 q
      simp [c52,KL,q1,k1,k2,q2,q3,hl,k,q]
    ·have q:eqL eqIs a.ls.l b.ls.l=false:=by
      cases q:eqL eqIs a.ls.l b.ls.l with
      | false=>rfl
      | true=>exact absurd (eqL_len q) hl
     have hl2:¬ (a.ls.l.length:Int)=(b.ls.l.length:Int):=by omega
     simp [c52,KL,q1,k1,k2,q2,q3,hl2,q]
 ·simp [c52,KL,q1]
end Go.Ab.WireG
