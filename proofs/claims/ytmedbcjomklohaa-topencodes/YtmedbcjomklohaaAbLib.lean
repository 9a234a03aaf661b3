/-
  Small laws for contracts: a memory with one place set; bits.
-/
import Derived.Test.YtmedbcjomklohaaAbUse
set_option linter.unusedVariables false
set_option linter.unusedSimpArgs false
namespace Go.Ab
attribute [simp] fillC fillS appTo AV.pure AV.beq AV.beqs sized cut cutE Blk.refOk get_set hset_length matV matL matK matKs mat1
theorem dom_lt {h:Heap} {a:Loc} (d:dom h a):a.1 < h.length:=by
 induction h with
 | nil=>simp [dom,hget] at d
 | cons f o ih=>
  unfold dom hget at d
  split at d
  ·simp;omega
  ·have:=ih d;simp;omega
theorem hset_hset:∀ (h:Heap) (a:Loc) (B C:Blk),hset (hset h a B) a C=hset h a C
 | [],_,_,_=>rfl
 | f :: o,a,B,C=>by
  by_cases e:a.1=o.length
  ·simp [hset,e]
  ·simp [hset,e,hset_length,hset_hset o a B C]
theorem get_hset {h:Heap} {a:Loc} (d:dom h a) (B:Blk):hget (hset h a B) a=some B:=by
 rw [hget_hset];simp [d]
theorem ne_len {h:Heap} {a:Loc} (d:dom h a):(a.1=h.length)=False:=by
 have:=dom_lt d
 simp;omega
def iand (a b:Int):Int:=IntKind.i64.wrap ((BitVec.ofInt 64 a &&& BitVec.ofInt 64 b).toNat:Int)
def ior (a b:Int):Int:=IntKind.i64.wrap ((BitVec.ofInt 64 a ||| BitVec.ofInt 64 b).toNat:Int)
theorem ev_iand (a b:Int):evInt .and .i64 a b=some (.int .i64 (iand a b)):=rfl
theorem ev_ior (a b:Int):evInt .or .i64 a b=some (.int .i64 (ior a b)):=rfl
theorem or_shift (k n b:Nat) (hn:n < 128 ^ k) (hb:b < 128) (hk:k≤5) :
  ior (n:Int) ((b:Int) * 2 ^ (7 * k))=((n+b * 128 ^ k:Nat):Int):=by
 unfold ior
 have e0:(2:Nat) ^ (7 * k)=128 ^ k:=by rw [Nat.pow_mul]
 have hle:128 ^ k≤128 ^ 5:=Nat.pow_le_pow_right (by omega) hk
 have h5:128 ^ 5=34359738368:=by decide
 have hb2:b * 128 ^ k≤127 * 34359738368:=by
  have:=Nat.mul_le_mul (show b≤127 by omega) (show 128 ^ k≤34359738368 by omega)
  exact this
 have e1:(b:Int) * 2 ^ (7 * k)=((b * 128 ^ k:Nat):Int):=by rw [←e0];simp
 rw [e1]
 have e2:∀ m:Nat,BitVec.ofInt 64 (m:Int)=BitVec.ofNat 64 m:=fun m=>by
  apply BitVec.eq_of_toNat_eq
  simp
 rw [e2,e2,BitVec.toNat_or,BitVec.toNat_ofNat,BitVec.toNat_ofNat,Nat.mod_eq_of_lt (by omega),Nat.mod_eq_of_lt (by omega)]
 have e3:n ||| b * 128 ^ k=n+b * 128 ^ k:=by
  rw [←e0] at hn ⊢
  rw [Nat.or_comm,Nat.mul_comm,←Nat.two_pow_add_eq_or_of_lt hn]
  omega
 rw [e3,wrap64 (by omega) (by omega)]
theorem and_127 (b:Nat) (hb:b < 256):iand (b:Int) 127=((b % 128:Nat):Int):=by
 unfold iand
 have e2:∀ m:Nat,BitVec.ofInt 64 (m:Int)=BitVec.ofNat 64 m:=fun m=>by
  apply BitVec.eq_of_toNat_eq
  simp
 have e3:BitVec.ofInt 64 127=BitVec.ofNat 64 127:=rfl
 rw [e2,e3,BitVec.toNat_and,BitVec.toNat_ofNat,BitVec.toNat_ofNat,Nat.mod_eq_of_lt (by omega),Nat.mod_eq_of_lt (by omega),show 127=2 ^ 7 - 1 by decide,Nat.and_two_pow_sub_one_eq_mod]
 rw [wrap64 (by omega) (by omega)]
end Go.Ab
