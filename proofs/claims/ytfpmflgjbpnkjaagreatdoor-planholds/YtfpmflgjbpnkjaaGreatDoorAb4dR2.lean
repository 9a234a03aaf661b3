/-
  The visit of a policy's nodes, one after the other.
-/
import Derived.Test.YtfpmflgjbpnkjaaGreatDoorAb4dR1
set_option linter.unusedVariables false
set_option linter.unusedSimpArgs false
namespace Go.Proofs
open Go.RowKit Go.Shelf
attribute [local go_sem] Oper.semAt_some
theorem Rfs.Ats.get {n₀:Nat} {W:World} {nb no nl:Nat}:∀ {ts:List Go.Ab.Pol.Tr},Rfs.Ats n₀ W nb no nl ts→∀ (m:Nat) (k:Go.Ab.Pol.Tr),ts[m]?=some k→Rfs.At n₀ W nb no nl k
 | [],_,m,k,h=>by simp at h
 | t :: ts,⟨h1,h2⟩,0,k,h=>by simp at h;subst h;exact h1
 | t :: ts,⟨h1,h2⟩,m+1,k,h=>Rfs.Ats.get h2 m k (by simpa using h)
theorem Rfs.pres_take (ks:List Go.Ab.Pol.Tr):∀ (k:Nat) (t:Go.Ab.Pol.Tr),ks[k]?=some t→Go.Ab.Pol.Tr.pres (ks.take (k+1))=Go.Ab.Pol.Tr.pres (ks.take k)++t.pre:=by
 induction ks with
 | nil=>intro k t h;simp at h
 | cons a l ih=>
  intro k t h
  cases k with
  | zero=>simp at h;subst h;simp [Go.Ab.Pol.Tr.pres]
  | succ k=>simp at h;simp [Go.Ab.Pol.Tr.pres,ih k t h]
theorem Rfs.pres_pref (ks:List Go.Ab.Pol.Tr):∀ (k:Nat),Go.Ab.Pol.Tr.pres (ks.take k) <+: Go.Ab.Pol.Tr.pres ks:=by
 induction ks with
 | nil=>intro k;simp
 | cons a l ih=>
  intro k
  cases k with
  | zero=>simp [Go.Ab.Pol.Tr.pres]
  | succ k=>simp only [List.take_succ_cons,Go.Ab.Pol.Tr.pres];exact (List.prefix_append_right_inj _).2 (ih k)
theorem Rfs.ints_pref {a b:List Nat} (h:a <+: b):Go.Ab.Pol.ints a <+: Go.Ab.Pol.ints b:=by
 obtain ⟨c,rfl⟩:=h
 exact ⟨Go.Ab.Pol.ints c,by simp [Go.Ab.Pol.ints]⟩
theorem Go.Ab.Pol.ints_cons (a:Nat) (b:List Nat):Go.Ab.Pol.ints (a :: b)=(a:Int) :: Go.Ab.Pol.ints b:=rfl
theorem Rfs.ints_app (a b:List Nat):Go.Ab.Pol.ints (a++b)=Go.Ab.Pol.ints a++Go.Ab.Pol.ints b:=by simp [Go.Ab.Pol.ints]
set_option maxRecDepth 100000 in
set_option maxHeartbeats 2000000 in
theorem Rfs.visit_in (F:Fence) (hd:F.depth=none) (h117:F.fn 117) (hro:F.round=none) (l n₀ N yb pb vb nb no nl nc:Nat) (J Jx:List Int→World→Prop)
  (hY:∀ m pre x W,0≤x→x < (nl:Int)→J pre W→pre.length < N→YieldAt F m Tryz.prog l #[.int .i64 x] W fun e W'=>
   (e=.returned (.bool true)∧J (pre++[x]) W'∧Rfs.Kp n₀ W W')∨(e=.returned (.bool false)∧Jx (pre++[x]) W')) (i:Nat) (nd:Go.Ab.Pol.Nd) (ks:List Go.Ab.Pol.Tr)
  (ih:∀ k∈ks,∀ (n:Nat) (pre:List Int) (W:World),Rfs.Bx W l yb pb vb nb no nl nc→Rfs.At n₀ W nb no nl k→J pre W→pre.length+k.pre.length≤N →
   CallsIn F n Tryz.prog 117 #[.int .i64 (k.i:Int),.pointer (some ⟨yb,0,none⟩),.pointer (some ⟨pb,0,none⟩),.pointer (some ⟨vb,0,none⟩)] W fun e W'=>
    (e=.returned (.bool true)∧J (pre++Go.Ab.Pol.ints k.pre) W'∧Rfs.Kp n₀ W W')∨(e=.returned (.bool false)∧∃ q,q <+: Go.Ab.Pol.ints k.pre∧Jx (pre++q) W'))
  (n:Nat) (pre:List Int) (W:World) (hb:Rfs.Bx W l yb pb vb nb no nl nc) (ha:Rfs.At n₀ W nb no nl (.nd i nd ks)) (hJ:J pre W) (hN:pre.length+(Go.Ab.Pol.Tr.nd i nd ks).pre.length≤N) :
  CallsIn F n Tryz.prog 117 #[.int .i64 (i:Int),.pointer (some ⟨yb,0,none⟩),.pointer (some ⟨pb,0,none⟩),.pointer (some ⟨vb,0,none⟩)] W fun e W'=>
   (e=.returned (.bool true)∧J (pre++Go.Ab.Pol.ints (Go.Ab.Pol.Tr.nd i nd ks).pre) W'∧Rfs.Kp n₀ W W')∨(e=.returned (.bool false)∧∃ q,q <+: Go.Ab.Pol.ints (Go.Ab.Pol.Tr.nd i nd ks).pre∧Jx (pre++q) W'):=by
 have hdd:∀ k:Nat,(F.depth.isSome=true→1≤k):=fun k h=>by rw [hd] at h;cases h
 have cy:=hb.cy
 obtain ⟨a1,a2,hks,⟨ka,kc,a3,a4⟩,a5⟩:=ha
 have hi0:(0:Int)≤(i:Int):=by omega
 have hi1:(i:Int) < (nl:Int):=by omega
 obtain ⟨fn,tmps,assign,body,hy,hR0⟩:=hY (n - 1) pre i W hi0 hi1 hJ (by simp [Go.Ab.Pol.Tr.pre] at hN;omega)
 have hR:=hR0.mono (R':=fun e W2=>(e=.returned (.bool true)∧J (pre++[(i:Int)]) W2∧Rfs.Kp n₀ W W2∧W2.cell? ⟨pb,3,none⟩=some (.slice (some ⟨nb,no,none⟩) nl nc)∧W2.cell? ⟨nb,no+i * 6+4,none⟩=some (.slice ka ks.length kc))∨(e=.returned (.bool false)∧Jx (pre++[(i:Int)]) W2))
  (fun e W2 h=>h.elim (fun ⟨he,hj,hk⟩=>.inl ⟨he,hj,hk,(hb.kept hk).cp,(hk.1.cell (p:=⟨nb,no+i * 6+4,none⟩) a1).trans a3⟩) .inr)
 clear hR0
 refine callsIn_of_wp Tryz.func117 rfl h117 ?_ hro
 simp only [Tryz.ntmps117,List.size_toArray,List.length_cons,List.length_nil,Nat.reduceAdd,Nat.reduceSub,Array.replicate_succ,Array.replicate_zero,List.push_toArray,List.append_toArray,List.nil_append,List.cons_append]
 gi_wp2_with ((try refine ⟨hdd _,?_⟩);refine hR.mono ?_;clear hR;rintro e W2 (⟨rfl,hJ2,hk2,cp2,cn2⟩ | ⟨rfl,hx2⟩))
 ·have hat:=Rfs.Ats.get a5
  gi_loopw [19] (fun p wr=>∃ (k:Nat),p=.int .i64 (k:Int)∧k≤ks.length∧J (pre++[(i:Int)]++Go.Ab.Pol.ints (Go.Ab.Pol.Tr.pres (ks.take k))) wr∧Rfs.Kp n₀ W wr)
   (fun p wr=>match p with | .int _ z=>ks.length - z.toNat | _=>0)
  case atStart=>exact ⟨0,rfl,by omega,by simpa [Go.Ab.Pol.Tr.pres,Go.Ab.Pol.ints] using hJ2,hk2⟩
  case round=>
   obtain ⟨k,rfl,hkl,hJr,hkr⟩:=hrel
   have hk0:(0:Int)≤(k:Int):=by omega
   by_cases hlt:k < ks.length
   ·have hlt':(k:Int) < (ks.length:Int):=by omega
    obtain ⟨kb,ko,rfl,hkb,hkc⟩:=a4 (by intro h;rw [h] at hlt;simp at hlt)
    obtain ⟨t,ht⟩:∃ t,ks[k]?=some t:=⟨ks[k],by simp [hlt]⟩
    have ck:=(hkr.1.cell (p:=⟨kb,ko+k,none⟩) hkb).trans (hkc k t ht)
    have cv:=(hb.kept hkr).cv
    have hpt:=Rfs.pres_take ks k t ht
    have hpp:=Rfs.pres_pref ks (k+1)
    rw [hpt] at hpp
    have hcall:=(ih t (List.mem_of_getElem? ht) (n - 1) _ wr (hb.kept hkr) ((hat k t ht).below hkr.1) hJr (by
     have:=hpp.length_le
     simp [Go.Ab.Pol.Tr.pre,Go.Ab.Pol.ints] at hN this ⊢;omega))
    clear ih hY
    gi_wp2_with (gi_at_call 117;refine hcall.mono ?_;clear hcall;rintro e W3 (⟨rfl,hJ3,hk3⟩ | ⟨rfl,q,hq,hx3⟩))
    ·refine ⟨⟨k+1,rfl,by omega,?_,hkr.trans hk3⟩,by show ks.length - ((k:Int)+1).toNat < ks.length - (k:Int).toNat;omega⟩
     rw [hpt,Rfs.ints_app,←List.append_assoc]
     exact hJ3
    ·go_ret
     refine .inr ⟨rfl,[(i:Int)]++Go.Ab.Pol.ints (Go.Ab.Pol.Tr.pres (ks.take k))++q,?_,by simpa [List.append_assoc] using hx3⟩
     obtain ⟨q2,hq2⟩:=hq
     obtain ⟨q3,hq3⟩:=Rfs.ints_pref hpp
     exact ⟨q2++q3,by rw [Rfs.ints_app,←hq2] at hq3;simp [Go.Ab.Pol.Tr.pre,Go.Ab.Pol.ints_cons,←hq3,List.append_assoc]⟩
   ·have hge:(ks.length:Int)≤(k:Int):=by omega
    have hnl:¬ (k:Int) < (ks.length:Int):=by omega
    gi_wp2
    go_ret
    obtain rfl:k=ks.length:=by omega
    exact .inl ⟨rfl,by simpa [Go.Ab.Pol.Tr.pre,Go.Ab.Pol.ints_cons,List.append_assoc] using hJr,hkr⟩
 ·go_ret
  exact .inr ⟨rfl,[(i:Int)],by simp [Go.Ab.Pol.Tr.pre],hx2⟩
end Go.Proofs
