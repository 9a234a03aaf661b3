/-
  Plans: places, atoms, gates; what a check, a cost and an atom are.
-/
import Derived.Test.YtfpmflgjbpnkjaaGreatDoorAbRefs
set_option linter.unusedVariables false
set_option linter.unusedSimpArgs false
namespace Go.Ab.Pol
structure Pc where
 use:Int
 attr:Int
 deriving DecidableEq
structure Pt where
 kind:Int
 a:Int
 b:Int
 lo:Int
 hi:Int
 deriving DecidableEq
structure Gt where
 need:Int
 kids:Sl Int
 leaf:Int
structure Pl where
 disc:Sl Pc
 comm:Sl Pc
 atoms:Sl Pt
 gates:Sl Gt
 sq:Sl Pt
abbrev Pc.cs (x:Pc):List AV:=[iV x.use,iV x.attr]
abbrev Pc.av (x:Pc):AV:=.agg x.cs
abbrev Pt.cs (x:Pt):List AV:=[iV x.kind,iV x.a,iV x.b,iV x.lo,iV x.hi]
abbrev Pt.av (x:Pt):AV:=.agg x.cs
abbrev Gt.cs (x:Gt):List AV:=[iV x.need,x.kids.avS iV,iV x.leaf]
abbrev Gt.av (x:Gt):AV:=.agg x.cs
abbrev Pl.cs (x:Pl):List AV:=[x.disc.avS Pc.av,x.comm.avS Pc.av,x.atoms.avS Pt.av,x.gates.avS Gt.av,x.sq.avS Pt.av]
abbrev Pl.av (x:Pl):AV:=.agg x.cs
/- Formulas. -/
def shpL (v:Nat→Nat→Option (Nat×Nat)):List Int→Nat→Nat→Option (Nat×Nat)
 | [],nx,lv=>some (nx,lv)
 | k :: ks,nx,lv=>if k=(nx:Int) then (match v nx lv with
  | some (n,l)=>shpL v ks n l
  | none=>none) else none
def shp (gs:List Gt):Nat→Nat→Nat→Option (Nat×Nat)
 | 0,_,_=>none
 | f+1,i,lv=>match gs[i]? with
  | none=>none
  | some g=>if g.kids.l=[] then (if g.need=0∧g.leaf=(lv:Int) then some (i+1,lv+1) else none)
   else if g.need < 1∨(g.kids.l.length:Int) < g.need∨g.leaf≠0 then none
   else shpL (shp gs f) g.kids.l (i+1) lv
def lvsN (gs:List Gt):Option Nat:=if gs=[] then some 0 else match shp gs gs.length 0 0 with
 | some (n,l)=>if n=gs.length∧l≤256 then some l else none
 | none=>none
def fmE (gs:List Gt) (n:Nat):Int:=if 512 < gs.length∨256 < n then 6 else match lvsN gs with
 | none=>3
 | some c=>if c=n then 0 else 6
/- Atoms. -/
def mostI:Int:=4294967295
def ptOk (a:Pt) (n:Nat):Bool:=
  decide (0≤a.a∧a.a < (n:Int)) &&
  (if a.kind=0∨a.kind=1 then decide (a.b=0∧0≤a.lo∧a.lo≤mostI∧a.hi=0)
   else if a.kind=2 then decide (a.b=0∧0≤a.lo∧a.lo≤a.hi∧a.hi≤mostI)
   else if a.kind=3∨a.kind=4 then decide (0≤a.b∧a.b < (n:Int)∧a.a≠a.b∧a.lo=0∧a.hi=0)
   else decide (0≤a.b∧a.b < (n:Int)∧a.a≠a.b∧-mostI≤a.lo∧a.lo≤a.hi∧a.hi≤mostI∧a.hi - a.lo≤mostI))
def ptE (a:Pt) (n:Nat):Int:=if a.kind < 0∨6≤a.kind then 1 else if ptOk a n=true then 0 else 2
def ptsE (n:Nat):List Pt→Int
 | []=>0
 | a :: l=>if ptE a n≠0 then ptE a n else ptsE n l
def sqsE (n:Nat):List Pt→Int
 | []=>0
 | a :: l=>if a.kind≠2 then 1 else if ptE a n≠0 then ptE a n else sqsE n l
def pcBad (x:Pc):Bool:=decide (x.use < 0∨3 < x.use∨x.attr < 2∨17 < x.attr)
def twP:List Pc→Bool
 | []=>false
 | x :: l=>decide (x∈l) || twP l
def chkP (p:Pl):Int:=
 if 64 < p.disc.l.length∨64 < p.comm.l.length∨64 < p.sq.l.length∨256 < p.atoms.l.length then 6
 else if (p.disc.l++p.comm.l).any pcBad=true then 2
 else if twP p.disc.l=true∨twP p.comm.l=true then 8
 else if fmE p.gates.l p.atoms.l.length≠0 then fmE p.gates.l p.atoms.l.length
 else if ptsE p.comm.l.length p.atoms.l≠0 then ptsE p.comm.l.length p.atoms.l
 else sqsE p.comm.l.length p.sq.l
/- What an atom says. -/
def sub64 (x y:Int):Int:=IntKind.wrap .i64 (x - y)
def ptSay (a:Pt) (x y:Int):Bool:=
 if a.kind=0 then decide (x=a.lo) else if a.kind=1 then decide (x≠a.lo) else if a.kind=2 then decide (a.lo≤x∧x≤a.hi)
 else if a.kind=3 then decide (x=y) else if a.kind=4 then decide (x≠y) else decide (a.lo≤sub64 x y∧sub64 x y≤a.hi)
def ptH (a:Pt) (vs:List Int):Bool:=
 if a.kind < 0∨6≤a.kind∨a.a < 0∨(vs.length:Int)≤a.a then false
 else if 3≤a.kind∧(a.b < 0∨(vs.length:Int)≤a.b) then false
 else ptSay a (vs.getD a.a.toNat 0) (vs.getD a.b.toNat 0)
/- Widths. -/
def bitN (d:Nat):Nat:=if d=0 then 0 else Nat.log2 d+1
theorem bitN_zero:bitN 0=0:=rfl
theorem bitN_half {d:Nat} (h:0 < d):bitN d=bitN (d / 2)+1:=by
 unfold bitN
 rw [if_neg (by omega)]
 by_cases h2:d < 2
 ·have:d=1:=by omega
  subst this
  rfl
 ·rw [if_neg (by omega),Nat.log2_def,if_pos (by omega)]
theorem bitN_le:∀ (k d:Nat),d < 2 ^ k→bitN d≤k
 | 0,d,h=>by
  have:d=0:=by simpa using h
  subst this
  exact Nat.le_refl _
 | k+1,d,h=>by
  by_cases h0:d=0
  ·subst h0;rw [bitN_zero];omega
  ·rw [bitN_half (by omega)]
   have:=bitN_le k (d / 2) (by rw [Nat.pow_succ] at h;omega)
   omega
def widE (lo hi:Int):Int×Int:=if hi < lo then (0,2) else if 32 < bitN (hi - lo).toNat then (0,2) else ((bitN (hi - lo).toNat:Int),0)
def partE (a:Pt):Int×Int:=
 if a.kind < 0∨6≤a.kind then (0,1) else if a.kind≠2∧a.kind≠5 then (0,0)
 else if (widE a.lo a.hi).2≠0 then (0,(widE a.lo a.hi).2) else (2 * (widE a.lo a.hi).1,0)
theorem wid_ok {lo hi:Int} (h:lo≤hi) (hm:hi - lo≤mostI):widE lo hi=((bitN (hi - lo).toNat:Int),0)∧bitN (hi - lo).toNat≤32:=by
 have hb:=bitN_le 32 (hi - lo).toNat (by unfold mostI at hm;omega)
 refine ⟨?_,hb⟩
 unfold widE
 rw [if_neg (by omega),if_neg (by omega)]
theorem wid_rng (lo hi:Int):0≤(widE lo hi).1∧(widE lo hi).1≤32:=by
 unfold widE
 split
 ·simp
 ·split
  ·simp
  ·simp only;omega
theorem part_ok {a:Pt} {n:Nat} (h:ptE a n=0):(partE a).2=0:=by
 unfold ptE at h
 split at h
 ·exact absurd h (by decide)
 rename_i c
 split at h
 ·rename_i ho
  unfold partE
  rw [if_neg c]
  split
  ·rfl
  ·rename_i k
   unfold ptOk at ho
   have hk:a.kind=2∨a.kind=5:=by omega
   rw [if_neg (by omega)] at ho
   simp only [Bool.and_eq_true,decide_eq_true_eq] at ho
   have hw:(widE a.lo a.hi).2=0:=by
    rcases hk with hk | hk
    ·rw [if_pos hk] at ho
     simp only [decide_eq_true_eq] at ho
     rw [(wid_ok ho.2.2.2.1 (by unfold mostI at ho ⊢;omega)).1]
    ·rw [if_neg (by omega),if_neg (by omega)] at ho
     simp only [decide_eq_true_eq] at ho
     rw [(wid_ok ho.2.2.2.2.2.1 ho.2.2.2.2.2.2.2).1]
   rw [if_neg (by simp [hw])]
 ·exact absurd h (by decide)
theorem part_rng (a:Pt):0≤(partE a).1∧(partE a).1≤64:=by
 have:=wid_rng a.lo a.hi
 unfold partE
 split
 ·simp
 split
 ·simp
 split
 ·simp
 ·simp only;omega
def ptC (a:Pt):Int:=if a.kind=1∨a.kind=4 then 2 else if (partE a).1=0 then 1 else 2+4 * (partE a).1
theorem ptC_rng (a:Pt):1≤ptC a∧ptC a≤258:=by
 have:=part_rng a
 unfold ptC
 split
 ·omega
 split
 ·omega
 ·omega
def costN:Int→List Pt→Int
 | n,[]=>n
 | n,a :: l=>costN (n+ptC a) l
def costP (p:Pl):Int:=costN (2 * p.comm.l.length+48 * p.sq.l.length) p.atoms.l
end Go.Ab.Pol
