/-
  Messages: how the package wire puts them.
-/
import Derived.Test.YtcbhkkeoncmigaaAb5sS1
set_option linter.unusedVariables false
set_option linter.unusedSimpArgs false
set_option linter.unusedSectionVars false
namespace Go.Ab.WireS
set_option maxRecDepth 100000
set_option maxHeartbeats 1000000

theorem enc_nms {a b : List It} (h : nms a = nms b) : enc (.mk 2 [] [] true a) = enc (.mk 2 [] [] true b) := by
  rw [← enc_list, ← enc_list, h]
theorem putS_nms {a b : List It} (h : nms a = nms b) (F L : Bool) : putS F L a = putS F L b := by
  unfold putS
  rw [enc_nms h]
theorem put_ok_ (kind : List UInt8) (g : FuncId) (cap : List AV) (hcap : ∀ q hh, AV.views q cap hh = some (cap, hh)) (items : List It) (F L : Bool) (h : Heap) (hw : wts items ≤ 900000) (hk : kind.length ≤ 100)
    (hcl : (mu K).fn g (.ptr (h.length, 0) 0 :: cap) (WR 115 ([.box 115 false (.agg [.bool false, .bool false]), .arr 78 4 false [(tI kind).av]] :: h) (h.length, 0) false false) =
      some (.val (.lst (It.avs items)) (WR 115 ([.box 115 false (.agg [.bool false, .bool false]), .arr 78 4 false [(tI kind).av]] :: h) (h.length, 0) F L))) :
    (mu K).fn 25 [.str kind, .fn (.func g) [] cap] h = some (.val (.tup [.str (putS F L (tI kind :: items)).1, .int .i64 (putS F L (tI kind :: items)).2]) h) := by
  have h27 := fun h => f27 kind h
  have ok := okL_wts items (by omega)
  have hn := len_wts items
  have ok2 : okL (tI kind :: items) := ⟨⟨by simp, by omega, by simp, trivial⟩, ok⟩
  have hwt : wts (tI kind :: items) ≤ 1000000 := by simp [wts, wt]; omega
  have h64 : ∀ h, (mu K).fn 64 [.lst ((tI kind).av :: It.avs items)] h = some (.val (It.mk 2 [] [] false (nms (tI kind :: items))).av h) := fun h => by
    have := f64 false (tI kind :: items) h ok2 (by simp; omega) hwt
    simpa [It.avs] using this
  have okM : okI (It.mk 2 [] [] false (nms (tI kind :: items))) := ⟨by simp, by simp, by rw [nms_len]; simp; omega, okL_nms _ ok2⟩
  have hwM : wt (It.mk 2 [] [] false (nms (tI kind :: items))) ≤ 1000000 := by simp only [wt, wts_nms]; simp [wts, wt]; omega
  have hdM := dep_wt (It.mk 2 [] [] false (nms (tI kind :: items)))
  have hrM := wr_wt (It.mk 2 [] [] false (nms (tI kind :: items))) hwM
  have h63 := fun h => f63 (It.mk 2 [] [] false (nms (tI kind :: items))) h okM (by omega) (by omega)
  rw [enc_list] at h63
  have hr1 : (1 + items.length) * 64 ≤ room := by unfold room; omega
  have hr2 : 1 + items.length ≤ room := by unfold room; omega
  have hcm : items.length + 1 = 1 + items.length := by omega
  have hz := avs_sized items
  simp only [WR, hset] at hcl
  simp at hcl
  rw [fn_go (KX _ _ _) fn25 rfl (by simp [c25])]
  unfold putS
  cases F
  · cases L
    · simp [-sized, c25, KL, h27, hcl, hcap, h64, h63, hr1, hr2, hcm, hz, List.replicate]
    · simp [-sized, c25, KL, h27, hcl, hcap, h64, h63, hr1, hr2, hcm, hz, List.replicate]
  · simp [-sized, c25, KL, h27, hcl, hcap, h64, h63, hr1, hr2, hcm, hz, List.replicate]
abbrev kQu : List UInt8 := [113, 117, 101, 115, 116, 105, 111, 110]
abbrev rQu (x : Qu) : List It := [tI x.p, tI x.v, tI x.n, nI (numB x.e), nI (numB x.d)]
abbrev wQu (x : Qu) : List It := [tI x.p, tI x.v, tI x.n, nI (numB x.e), nI (numB x.d)]
abbrev bQu (x : Qu) : Bool := false
abbrev oQu (x : Qu) : Bool := outB x.e || (outB x.d)
theorem nms_wQu (x : Qu) : nms (wQu x) = nms (rQu x) := by simp [nms, nm_nm]
theorem wts_wQu (x : Qu) : wts (wQu x) = wts (rQu x) := by rw [← wts_nms, nms_wQu, wts_nms]
/-- What is put. -/
def pQu (x : Qu) : List UInt8 × Int := putS (bQu x) (oQu x) (tI kQu :: rQu x)
theorem w98 (x : Qu) (hx : wts (rQu x) ≤ 900000) {h : Heap} {a c : Loc} {fz : Bool} (d : dom h a) (hc : hget h c = some (.box 23 fz x.av)) (hne : c ≠ a) (f l : Bool) :
    (mu K).fn 26 [.ptr a 0, .ptr c 0] (WR 115 h a f l) = some (.val (.lst (It.avs (wQu x))) (WR 115 h a (f || bQu x) (l || oQu x))) := by
  have gc : ∀ f l, hget (WR 115 h a f l) c = some (.box 23 fz x.av) := fun f l => by rw [get_other hne]; exact hc
  have lc := ne_len (dom_of hc)
  simp only [wts] at hx
  have d2 := dom_push' (f := []) d
  have kt := fun s h => f27 s h
  have ki := fun f l n => w88 _ a d2 f l n trivial
  simp only [wr_push d] at ki
  rw [fn_go (KX _ _ _) fn26 rfl (by simp [c26])]
  simp [c26, KL, gc, lc, kt, ki, no, any_no, List.replicate, Bool.or_assoc, It.avs, beq_Ns, beq_Is, beq_Nss, beq_Iss, beq_Shs]
  try simp [bQu, oQu, bSg, bPf, Bool.or_assoc]
theorem f8 (x : Qu) (hx : wts (rQu x) ≤ 900000) (h : Heap) : (mu K).fn 8 [x.av] h = some (.val (.tup [.str (pQu x).1, .int .i64 (pQu x).2]) h) := by
  have hcl := w98 x hx (h := [.box 115 false (.agg [.bool false, .bool false]), .arr 78 4 false [(tI kQu).av]] :: [.box 23 false x.av] :: h) (a := (h.length + 1, 0)) (c := (h.length, 0)) (fz := false) (by simp [dom, hget]) (by simp [hget]) (by simp) false false
  have k := put_ok_ kQu 26 [.ptr (h.length, 0) 0] (fun q hh => by simp) (wQu x) (bQu x) (oQu x) ([.box 23 false x.av] :: h) (by rw [wts_wQu]; exact hx) (by simp) (by simpa only [List.length_cons, Bool.false_or] using hcl)
  rw [putS_nms (a := tI kQu :: wQu x) (b := tI kQu :: rQu x) (by show nm (tI kQu) :: nms (wQu x) = nm (tI kQu) :: nms (rQu x); rw [nms_wQu])] at k
  unfold pQu
  generalize putS (bQu x) (oQu x) (tI kQu :: rQu x) = R at *
  rw [fn_go (KX _ _ _) fn8 rfl (by simp [c8])]
  simp [c8, KL, k]
abbrev kRq : List UInt8 := [114, 101, 113, 117, 101, 115, 116]
abbrev rRq (x : Rq) : List It := [nI x.c, tI x.n, rPf x.p]
abbrev wRq (x : Rq) : List It := [nI x.c, tI x.n, nm (rPf x.p)]
abbrev bRq (x : Rq) : Bool := bN x.c || (bPf x.p)
abbrev oRq (x : Rq) : Bool := false
theorem nms_wRq (x : Rq) : nms (wRq x) = nms (rRq x) := by simp [nms, nm_nm]
theorem wts_wRq (x : Rq) : wts (wRq x) = wts (rRq x) := by rw [← wts_nms, nms_wRq, wts_nms]
/-- What is put. -/
def pRq (x : Rq) : List UInt8 × Int := putS (bRq x) (oRq x) (tI kRq :: rRq x)
abbrev kRs : List UInt8 := [114, 101, 115, 112, 111, 110, 115, 101]
abbrev rRs (x : Rs) : List It := [rNs x.ats, rSg x.sg, nI x.w, nI (numB x.e)]
abbrev wRs (x : Rs) : List It := [nm (rNs x.ats), nm (rSg x.sg), nI x.w, nI (numB x.e)]
abbrev bRs (x : Rs) : Bool := bNs x.ats || (bSg x.sg || (bN x.w))
abbrev oRs (x : Rs) : Bool := outB x.e
theorem nms_wRs (x : Rs) : nms (wRs x) = nms (rRs x) := by simp [nms, nm_nm]
theorem wts_wRs (x : Rs) : wts (wRs x) = wts (rRs x) := by rw [← wts_nms, nms_wRs, wts_nms]
/-- What is put. -/
def pRs (x : Rs) : List UInt8 × Int := putS (bRs x) (oRs x) (tI kRs :: rRs x)
abbrev kHd : List UInt8 := [104, 101, 108, 100]
abbrev rHd (x : Hd) : List It := [tI x.is, tI x.sc, nI (numB x.ve), rNs x.ats, rSg x.sg, nI (numB x.e), nI x.w]
abbrev wHd (x : Hd) : List It := [tI x.is, tI x.sc, nI (numB x.ve), nm (rNs x.ats), nm (rSg x.sg), nI (numB x.e), nI x.w]
abbrev bHd (x : Hd) : Bool := bNs x.ats || (bSg x.sg || (bN x.w))
abbrev oHd (x : Hd) : Bool := outB x.ve || (outB x.e)
theorem nms_wHd (x : Hd) : nms (wHd x) = nms (rHd x) := by simp [nms, nm_nm]
theorem wts_wHd (x : Hd) : wts (wHd x) = wts (rHd x) := by rw [← wts_nms, nms_wHd, wts_nms]
/-- What is put. -/
def pHd (x : Hd) : List UInt8 × Int := putS (bHd x) (oHd x) (tI kHd :: rHd x)
theorem w99 (x : Hd) (hx : wts (rHd x) ≤ 900000) {h : Heap} {a c c2 : Loc} {fz fz2 : Bool} (d : dom h a) (hc : hget h c = some (.box 38 fz (.agg [.str x.is, .str x.sc, .int .i64 x.ve, avNs x.ats, .str x.sg.a, .str x.sg.e, .str x.sg.v]))) (hne : c ≠ a) (hc2 : hget h c2 = some (.box 40 fz2 x.av)) (hne2 : c2 ≠ a) (f l : Bool) :
    (mu K).fn 36 [.ptr a 0, .ptr c 0, .ptr c2 0] (WR 115 h a f l) = some (.val (.lst (It.avs (wHd x))) (WR 115 h a (f || bHd x) (l || oHd x))) := by
  have gc : ∀ f l, hget (WR 115 h a f l) c = some (.box 38 fz (.agg [.str x.is, .str x.sc, .int .i64 x.ve, avNs x.ats, .str x.sg.a, .str x.sg.e, .str x.sg.v])) := fun f l => by rw [get_other hne]; exact hc
  have lc := ne_len (dom_of hc)
  have gc2 : ∀ f l, hget (WR 115 h a f l) c2 = some (.box 40 fz2 x.av) := fun f l => by rw [get_other hne2]; exact hc2
  have lc2 := ne_len (dom_of hc2)
  simp only [wts] at hx
  have d2 := dom_push' (f := []) d
  have kt := fun s h => f27 s h
  have kn := fun f l s => w78 _ a d2 f l s trivial
  simp only [wr_push d] at kn
  have ki := fun f l n => w88 _ a d2 f l n trivial
  simp only [wr_push d] at ki
  have h3 : wt (rNs x.ats) ≤ 900000 := by omega
  have k3 := fun f l => w86 _ a d2 f l x.ats h3
  simp only [wr_push d] at k3
  have h4 : wt (rSg x.sg) ≤ 900000 := by omega
  have k4 := fun f l => w87 _ a d2 f l x.sg h4
  simp only [wr_push d] at k4
  rw [fn_go (KX _ _ _) fn36 rfl (by simp [c36])]
  simp [c36, KL, gc, lc, gc2, lc2, kt, kn, ki, k3, k4, no, any_no, List.replicate, Bool.or_assoc, It.avs, beq_Ns, beq_Is, beq_Nss, beq_Iss, beq_Shs]
  try simp [bHd, oHd, bSg, bPf, Bool.or_assoc]
theorem f12 (x : Hd) (hx : wts (rHd x) ≤ 900000) (h : Heap) : (mu K).fn 12 [x.av] h = some (.val (.tup [.str (pHd x).1, .int .i64 (pHd x).2]) h) := by
  have hcl := w99 x hx (h := [.box 115 false (.agg [.bool false, .bool false]), .arr 78 4 false [(tI kHd).av]] :: [.box 40 false x.av, .box 38 false (.agg [.str x.is, .str x.sc, .int .i64 x.ve, avNs x.ats, .str x.sg.a, .str x.sg.e, .str x.sg.v])] :: h) (a := (h.length + 1, 0)) (c := (h.length, 1)) (c2 := (h.length, 0)) (fz := false) (fz2 := false) (by simp [dom, hget]) (by simp [hget]) (by simp) (by simp [hget]) (by simp) false false
  have k := put_ok_ kHd 36 [.ptr (h.length, 1) 0, .ptr (h.length, 0) 0] (fun q hh => by simp) (wHd x) (bHd x) (oHd x) ([.box 40 false x.av, .box 38 false (.agg [.str x.is, .str x.sc, .int .i64 x.ve, avNs x.ats, .str x.sg.a, .str x.sg.e, .str x.sg.v])] :: h) (by rw [wts_wHd]; exact hx) (by simp) (by simpa only [List.length_cons, Bool.false_or] using hcl)
  rw [putS_nms (a := tI kHd :: wHd x) (b := tI kHd :: rHd x) (by show nm (tI kHd) :: nms (wHd x) = nm (tI kHd) :: nms (rHd x); rw [nms_wHd])] at k
  unfold pHd
  generalize putS (bHd x) (oHd x) (tI kHd :: rHd x) = R at *
  rw [fn_go (KX _ _ _) fn12 rfl (by simp [c12])]
  simp [c12, KL, k]
abbrev kDl : List UInt8 := [100, 101, 108, 116, 97]
abbrev rDl (x : Dl) : List It := [nI (numB x.f), nI (numB x.t), rNs x.ad, rNs x.rm, nI x.be, nI x.af, rNs ⟨false, [x.sg.a, x.sg.b]⟩]
abbrev wDl (x : Dl) : List It := [nI (numB x.f), nI (numB x.t), nm (rNs x.ad), nm (rNs x.rm), nI x.be, nI x.af, nm (rNs ⟨false, [x.sg.a, x.sg.b]⟩)]
abbrev bDl (x : Dl) : Bool := bNs x.ad || (bNs x.rm || (bN x.be || (bN x.af || (bNs ⟨false, [x.sg.a, x.sg.b]⟩))))
abbrev oDl (x : Dl) : Bool := outB x.f || (outB x.t)
theorem nms_wDl (x : Dl) : nms (wDl x) = nms (rDl x) := by simp [nms, nm_nm]
theorem wts_wDl (x : Dl) : wts (wDl x) = wts (rDl x) := by rw [← wts_nms, nms_wDl, wts_nms]
/-- What is put. -/
def pDl (x : Dl) : List UInt8 × Int := putS (bDl x) (oDl x) (tI kDl :: rDl x)
theorem w100 (x : Dl) (hx : wts (rDl x) ≤ 900000) {h : Heap} {a c : Loc} {fz : Bool} (d : dom h a) (hc : hget h c = some (.box 44 fz x.av)) (hne : c ≠ a) (f l : Bool) :
    (mu K).fn 43 [.ptr a 0, .ptr c 0] (WR 115 h a f l) = some (.val (.lst (It.avs (wDl x))) (WR 115 h a (f || bDl x) (l || oDl x))) := by
  have gc : ∀ f l, hget (WR 115 h a f l) c = some (.box 44 fz x.av) := fun f l => by rw [get_other hne]; exact hc
  have lc := ne_len (dom_of hc)
  simp only [wts] at hx
  have d2 := dom_push' (f := []) d
  have kn := fun f l s => w78 _ a d2 f l s trivial
  simp only [wr_push d] at kn
  have ki := fun f l n => w88 _ a d2 f l n trivial
  simp only [wr_push d] at ki
  have h2 : wt (rNs x.ad) ≤ 900000 := by omega
  have k2 := fun f l => w86 _ a d2 f l x.ad h2
  simp only [wr_push d] at k2
  have h3 : wt (rNs x.rm) ≤ 900000 := by omega
  have k3 := fun f l => w86 _ a d2 f l x.rm h3
  simp only [wr_push d] at k3
  have h6 : wt (rNs ⟨false, [x.sg.a, x.sg.b]⟩) ≤ 900000 := by omega
  have k6 := fun f l => w86 _ a d2 f l ⟨false, [x.sg.a, x.sg.b]⟩ h6
  simp only [wr_push d, avNs, Sl.avS, lv_false, List.map_cons, List.map_nil] at k6
  rw [fn_go (KX _ _ _) fn43 rfl (by simp [c43])]
  simp [c43, KL, gc, lc, kn, ki, k2, k3, k6, no, any_no, List.replicate, Bool.or_assoc, It.avs, beq_Ns, beq_Is, beq_Nss, beq_Iss, beq_Shs]
  try simp [bDl, oDl, bSg, bPf, Bool.or_assoc]
theorem f14 (x : Dl) (hx : wts (rDl x) ≤ 900000) (h : Heap) : (mu K).fn 14 [x.av] h = some (.val (.tup [.str (pDl x).1, .int .i64 (pDl x).2]) h) := by
  have hcl := w100 x hx (h := [.box 115 false (.agg [.bool false, .bool false]), .arr 78 4 false [(tI kDl).av]] :: [.box 44 false x.av] :: h) (a := (h.length + 1, 0)) (c := (h.length, 0)) (fz := false) (by simp [dom, hget]) (by simp [hget]) (by simp) false false
  have k := put_ok_ kDl 43 [.ptr (h.length, 0) 0] (fun q hh => by simp) (wDl x) (bDl x) (oDl x) ([.box 44 false x.av] :: h) (by rw [wts_wDl]; exact hx) (by simp) (by simpa only [List.length_cons, Bool.false_or] using hcl)
  rw [putS_nms (a := tI kDl :: wDl x) (b := tI kDl :: rDl x) (by show nm (tI kDl) :: nms (wDl x) = nm (tI kDl) :: nms (rDl x); rw [nms_wDl])] at k
  unfold pDl
  generalize putS (bDl x) (oDl x) (tI kDl :: rDl x) = R at *
  rw [fn_go (KX _ _ _) fn14 rfl (by simp [c14])]
  simp [c14, KL, k]
abbrev kPr : List UInt8 := [112, 114, 101, 115, 101, 110, 116, 97, 116, 105, 111, 110]
abbrev rPr (x : Pr) : List It := [rShs x.sh, rNs x.cm, rNss x.pa, rNss x.sq, nI x.ny, nI x.se, nI x.co, rNs x.cp, rNs ⟨false, [x.es.a, x.es.b]⟩, rPf x.p]
abbrev wPr (x : Pr) : List It := [nm (rShs x.sh), nm (rNs x.cm), nm (rNss x.pa), nm (rNss x.sq), nI x.ny, nI x.se, nI x.co, nm (rNs x.cp), nm (rNs ⟨false, [x.es.a, x.es.b]⟩), nm (rPf x.p)]
abbrev bPr (x : Pr) : Bool := x.sh.l.any bSh || (bNs x.cm || (bNss x.pa || (bNss x.sq || (bN x.ny || (bN x.se || (bN x.co || (bNs x.cp || (bNs ⟨false, [x.es.a, x.es.b]⟩ || (bPf x.p)))))))))
abbrev oPr (x : Pr) : Bool := x.sh.l.any (fun y => outB y.ve)
theorem nms_wPr (x : Pr) : nms (wPr x) = nms (rPr x) := by simp [nms, nm_nm]
theorem wts_wPr (x : Pr) : wts (wPr x) = wts (rPr x) := by rw [← wts_nms, nms_wPr, wts_nms]
/-- What is put. -/
def pPr (x : Pr) : List UInt8 × Int := putS (bPr x) (oPr x) (tI kPr :: rPr x)
theorem w92 (x : Pr) (hx : wts (rPr x) ≤ 900000) {h : Heap} {a c : Loc} {fz : Bool} (d : dom h a) (hc : hget h c = some (.box 66 fz x.av)) (hne : c ≠ a) (f l : Bool) :
    (mu K).fn 54 [.ptr a 0, .ptr c 0] (WR 115 h a f l) = some (.val (.lst (It.avs (wPr x))) (WR 115 h a (f || bPr x) (l || oPr x))) := by
  have gc : ∀ f l, hget (WR 115 h a f l) c = some (.box 66 fz x.av) := fun f l => by rw [get_other hne]; exact hc
  have lc := ne_len (dom_of hc)
  simp only [wts] at hx
  have d2 := dom_push' (f := []) d
  have kn := fun f l s => w78 _ a d2 f l s trivial
  simp only [wr_push d] at kn
  have h0 : wt (rShs x.sh) ≤ 900000 := by omega
  have k0 := fun f l => list_wA (av := Sh.cs) L93 rfl (by omega) (fun y => rfl) (fun y => by simp) w94 (fun y => nm_nm _) d2 f l x.sh h0
  simp only [wr_push d] at k0
  have h1 : wt (rNs x.cm) ≤ 900000 := by omega
  have k1 := fun f l => w86 _ a d2 f l x.cm h1
  simp only [wr_push d] at k1
  have h2 : wt (rNss x.pa) ≤ 900000 := by omega
  have k2 := fun f l => list_w L95 (fun y => by simp) (fun y => by simp) (fun y => by simp) w86 (fun y => nm_nm _) d2 f l x.pa h2
  simp only [wr_push d] at k2
  have h3 : wt (rNss x.sq) ≤ 900000 := by omega
  have k3 := fun f l => list_w L95 (fun y => by simp) (fun y => by simp) (fun y => by simp) w86 (fun y => nm_nm _) d2 f l x.sq h3
  simp only [wr_push d] at k3
  have h7 : wt (rNs x.cp) ≤ 900000 := by omega
  have k7 := fun f l => w86 _ a d2 f l x.cp h7
  simp only [wr_push d] at k7
  have h8 : wt (rNs ⟨false, [x.es.a, x.es.b]⟩) ≤ 900000 := by omega
  have k8 := fun f l => w86 _ a d2 f l ⟨false, [x.es.a, x.es.b]⟩ h8
  simp only [wr_push d, avNs, Sl.avS, lv_false, List.map_cons, List.map_nil] at k8
  have h9 : wt (rPf x.p) ≤ 900000 := by omega
  have k9 := fun f l => w80 _ a d2 f l x.p h9
  simp only [wr_push d] at k9
  rw [fn_go (KX _ _ _) fn54 rfl (by simp [c54])]
  simp [c54, KL, gc, lc, kn, k0, k1, k2, k3, k7, k8, k9, no, any_no, List.replicate, Bool.or_assoc, It.avs, beq_Ns, beq_Is, beq_Nss, beq_Iss, beq_Shs]
  try simp [bPr, oPr, bSg, bPf, Bool.or_assoc]
theorem f21 (x : Pr) (hx : wts (rPr x) ≤ 900000) (h : Heap) : (mu K).fn 21 [x.av] h = some (.val (.tup [.str (pPr x).1, .int .i64 (pPr x).2]) h) := by
  have hcl := w92 x hx (h := [.box 115 false (.agg [.bool false, .bool false]), .arr 78 4 false [(tI kPr).av]] :: [.box 66 false x.av] :: h) (a := (h.length + 1, 0)) (c := (h.length, 0)) (fz := false) (by simp [dom, hget]) (by simp [hget]) (by simp) false false
  have k := put_ok_ kPr 54 [.ptr (h.length, 0) 0] (fun q hh => by simp) (wPr x) (bPr x) (oPr x) ([.box 66 false x.av] :: h) (by rw [wts_wPr]; exact hx) (by simp) (by simpa only [List.length_cons, Bool.false_or] using hcl)
  rw [putS_nms (a := tI kPr :: wPr x) (b := tI kPr :: rPr x) (by show nm (tI kPr) :: nms (wPr x) = nm (tI kPr) :: nms (rPr x); rw [nms_wPr])] at k
  unfold pPr
  generalize putS (bPr x) (oPr x) (tI kPr :: rPr x) = R at *
  rw [fn_go (KX _ _ _) fn21 rfl (by simp [c21])]
  simp [c21, KL, k]
end Go.Ab.WireS
