/-
  The plan of a normal form: its atoms and its formula.
-/
import Derived.Test.YtjnomgdildcbhaaGreatDoorAb4dS8
import Derived.Test.YtjnomgdildcbhaaGreatDoorAbNf
set_option linter.unusedVariables false
set_option linter.unusedSimpArgs false
set_option linter.unusedSectionVars false
namespace Go.Ab.Pol
def ixR (refs:List Rf) (n:Nd):Nat:=(refs.findIdx? fun r=>decide (r=⟨n.nm,n.attr⟩)).getD 0
def bT (f:Fd):Int:=if f.kind=1 then (f.words.l.length:Int) - 1 else f.mx - f.mn
def dx (f:Fd) (n:Nd):Int:=if n.k=10 then n.num - f.mn else (((f.words.l.findIdx? fun w=>decide (w=n.nm)).getD 0:Nat):Int)
def fC (a b lo hi:Int):List Pt:=if lo<=hi then [⟨5,a,b,lo,hi⟩] else []
section
variable (refs:List Rf) (fd:Nd->Fd)
def sK (k num:Int) (x y z:Nd):List Pt:=
 if k=7 then [⟨2,(ixR refs x:Int),0,dx (fd x) y,dx (fd x) z⟩]
 else if y.k≠9 then [⟨if num=1 then 1 else 0,(ixR refs x:Int),0,dx (fd x) y,0⟩]
 else if num=2 then fC (ixR refs x) (ixR refs y) (-(bT (fd y))) ((fd y).mn - (fd x).mn - 1)
 else if num=3 then fC (ixR refs x) (ixR refs y) (-(bT (fd y))) ((fd y).mn - (fd x).mn)
 else if num=0 then (if (fd y).mn - (fd x).mn=0 then [⟨3,(ixR refs x:Int),(ixR refs y:Int),0,0⟩] else fC (ixR refs x) (ixR refs y) ((fd y).mn - (fd x).mn) ((fd y).mn - (fd x).mn))
 else if (fd y).mn - (fd x).mn=0 then [⟨4,(ixR refs x:Int),(ixR refs y:Int),0,0⟩]
 else fC (ixR refs x) (ixR refs y) (-(bT (fd y))) ((fd y).mn - (fd x).mn - 1)++fC (ixR refs x) (ixR refs y) ((fd y).mn - (fd x).mn+1) (bT (fd x))
def jL (k num:Int) (vs:List Nd):List Pt:=match vs with
 | x :: y :: r=>sK refs fd k num x y (r.headD (bg 0))
 | _=>[]
def fmA (pts:List Pt):Fm:=if pts.length=1 then .leaf else .gate 1 [.leaf,.leaf]
mutual
def kL:Cd->List Pt
 | .atom k num vs=>jL refs fd k num vs
 | .gate _ ks=>bk ks
def bk:List Cd->List Pt
 | []=>[]
 | c :: cs=>kL c++bk cs
end
mutual
def fmC:Cd->Fm
 | .atom k num vs=>fmA (jL refs fd k num vs)
 | .gate need ks=>.gate need (cF ks)
def cF:List Cd->List Fm
 | []=>[]
 | c :: cs=>fmC c :: cF cs
end
def bI:Cd->Option Pt
 | .atom k num vs=>if k=7 then (match jL refs fd k num vs with
  | a :: _=>if 64<=a.hi - a.lo then some a else none
  | []=>none) else none
 | .gate _ _=>none
def BA:List Fm->Option Fm
 | []=>none
 | [f]=>some f
 | f :: g :: r=>some (.gate ((f :: g :: r).length:Int) (f :: g :: r))
def narrow (ks:List Cd):List Cd:=ks.filter fun c=>(bI refs fd c).isNone
def eF (c:Cd):List Pt×List Pt×Option Fm:=
 match bI refs fd c with
 | some a=>([],[a],none)
 | none=>match c with
  | .gate need ks=>if need=(ks.length:Int) then (bk refs fd (narrow refs fd ks),ks.filterMap (bI refs fd),BA (cF refs fd (narrow refs fd ks)))
   else (bk refs fd ks,[],some (.gate need (cF refs fd ks)))
  | .atom k num vs=>(jL refs fd k num vs,[],some (fmA (jL refs fd k num vs)))
def jU:Option Fm->List Gt
 | none=>[]
 | some f=>flF 0 0 f
end
/- The atoms of a normal form: one or two. -/
section
variable {us:List Us} {l:List Sc} {Q:Nd->Prop}
theorem nD {h h':Int} {a b a' b':Nd} (e:dO h a b=dO h' a' b'):h=h'∧a=a'∧b=b':=by
 simp only [dO,Cd.atom.injEq,List.cons.injEq,and_true,true_and] at e
 exact e
theorem dJ {t:Bool} {h:Int} {a b:Nd} (e:cB t=dO h a b):False:=by
 simp [cB,dO] at e
theorem qJ {how:Int} {a b:Nd} (w:Wt us l how a b) (h:values (ak us l) how a b=dO how a b) :
    a.k=9∧(how=0∨how=1∨how=2∨how=3) ∧
    ((b.k=10∧(how=0∨how=1)∧cP us l a=some .num∧(ak us l a).mn<=b.num∧b.num<=(ak us l a).mx) ∨
     (b.k=11∧(how=0∨how=1)∧(ak us l a).kind≠0) ∨
     (b.k=9∧¬ (a.nm=b.nm∧a.attr=b.attr)∧(ak us l a).kind=0∧(ak us l b).kind=0∧cg (ak us l) how a b=dO how a b) ∨
     (b.k=9∧¬ (a.nm=b.nm∧a.attr=b.attr)∧(ak us l a).kind≠0∧(how=0∨how=1)∧(ak us l b).kind≠0∧(ak us l a).words.l=(ak us l b).words.l∧(ak us l a).words.l.length≠1)):=by
  obtain ⟨hh, ka, kb, x, y, hx, hy, hag, hn⟩:=w
  have ha:a.k=9:=by
    unfold values at h
    by_cases c:a.k≠9∧b.k=9
    · rw [if_pos c] at h
      exfalso
      unfold bu at h
      have hb:=c.2
      rw [if_neg (by omega), if_neg (by omega)] at h
      rcases ka with k | k | k
      · exact c.1 k
      · rw [if_pos k] at h
        unfold bounded within at h
        repeat' split at h
        all_goals first | exact dJ h | (have:=(nD h).2.1;rw [this] at hb;exact c.1 hb) | (simp [dO] at h)
      · rw [if_neg (by omega), if_neg (by omega)] at h
        by_cases c5:(ak us l b).kind=0
        · have:y=.num:=zb hb hy c5
          subst this
          have:x=.num:=by
            cases x with
            | num=>rfl
            | wd w=>exact absurd hag (by simp [aT])
            | fw w=>exact absurd hag (by simp [aT])
          subst this
          rcases wA (.inr (.inr k)) hx with q | q<;>omega
        · rw [if_neg c5] at h
          split at h
          · exact dJ h
          · have:=(nD h).2.1;rw [this] at hb;exact c.1 hb
    · rw [if_neg c] at h
      unfold bu at h
      rcases ka with k | k | k
      · exact k
      · rw [if_pos k] at h;exact (dJ h).elim
      · rw [if_neg (by omega), if_pos k] at h;exact (dJ h).elim
  refine ⟨ha, ?_⟩
  unfold values at h
  rw [if_neg (by omega)] at h
  unfold bu at h
  rw [if_neg (by omega), if_neg (by omega)] at h
  by_cases kb0:b.k=10
  · rw [if_pos kb0] at h
    have hyn:cP us l b=some .num:=by unfold cP;rw [if_pos kb0]
    rw [hyn] at hy
    injection hy with hy
    subst hy
    have hxn:x=.num:=by
      cases x with
      | num=>rfl
      | wd w=>exact absurd hag (by simp [aT])
      | fw w=>exact absurd hag (by simp [aT])
    subst hxn
    have wf:∀ lo hi, within (ak us l) a lo hi=dO how a b->how=0∧b.num=max lo (ak us l a).mn∧b.num=min hi (ak us l a).mx:=fun lo hi e=>by
      unfold within at e
      split at e
      · exact (dJ e).elim
      split at e
      · exact (dJ e).elim
      split at e
      · rename_i q1 q2 q3
        obtain ⟨e1, _, e3⟩:=nD e
        have:b.num=max lo (ak us l a).mn:=by rw [<-e3];rfl
        exact ⟨e1.symm, this, by omega⟩
      · simp [dO] at e
    have key:(how=0∨how=1)∧(ak us l a).mn<=b.num∧b.num<=(ak us l a).mx:=by
      unfold bounded at h
      split at h
      · have:=wf _ _ h;omega
      split at h
      · have:=wf _ _ h;omega
      split at h
      · have:=wf _ _ h;omega
      split at h
      · have:=wf _ _ h;omega
      split at h
      · have:=wf _ _ h;omega
      split at h
      · exact (dJ h).elim
      split at h
      · exact (dJ h).elim
      · have:=(nD h).1;omega
    exact ⟨by omega, .inl ⟨kb0, key.1, hx, key.2⟩⟩
  rw [if_neg kb0] at h
  rcases kb with kb | kb | kb
  · split at h
    · exact (dJ h).elim
    rename_i c4
    have hne:¬ (a.nm=b.nm∧a.attr=b.attr):=fun q=>c4 ⟨kb, q⟩
    by_cases c5:(ak us l a).kind=0
    · rw [if_pos c5] at h
      have ex:=zb ha hx c5
      subst ex
      have ey:y=.num:=by
        cases y with
        | num=>rfl
        | wd w=>exact absurd hag (by simp [aT])
        | fw w=>exact absurd hag (by simp [aT])
      subst ey
      unfold numbers at h
      split at h
      · rename_i q
        rcases lW (ak us l) (dY how) b a with ⟨t, e⟩ | e
        · rw [e] at h;exact (dJ h).elim
        · rw [e] at h
          have:=(nD h).2.1
          exact absurd ⟨by rw [this], by rw [this]⟩ hne
      · rename_i q
        have h3:how=0∨how=1∨how=2∨how=3:=by unfold How at hh;omega
        exact ⟨h3, .inr (.inr (.inl ⟨kb, hne, c5, mJ kb hy, h⟩))⟩
    · rw [if_neg c5] at h
      split at h
      · exact (dJ h).elim
      rename_i c6
      have hxf:∃ ws, x=.fw ws:=by
        cases x with
        | num=>exact absurd (mJ ha hx) c5
        | wd w=>have:=(wB hx).1;omega
        | fw ws=>exact ⟨ws, rfl⟩
      obtain ⟨ws, rfl⟩:=hxf
      obtain ⟨_, _, w1⟩:=wC (.inl ha) hx
      have hyf:∃ ws', y=.fw ws':=by
        cases y with
        | num=>exact absurd hag (by simp [aT])
        | wd w=>have:=(wB hy).1;omega
        | fw ws=>exact ⟨ws, rfl⟩
      obtain ⟨ws', rfl⟩:=hyf
      obtain ⟨_, k2, w2⟩:=wC (.inl kb) hy
      have hw:ws=ws':=by
        simp only [aT] at hag
        split at hag
        · assumption
        · exact absurd hag (by decide)
      have h01:how=0∨how=1:=by
        rcases hn with hn | hn
        · exact hn
        · simp [isNum] at hn
      exact ⟨by omega, .inr (.inr (.inr ⟨kb, hne, c5, h01, k2, by rw [w1, w2, hw], c6⟩))⟩
  · exact absurd kb kb0
  · have hyw:y=.wd b.nm:=by
      unfold cP at hy
      rw [if_neg (by omega), if_pos kb] at hy
      injection hy with hy
      exact hy.symm
    subst hyw
    have h01:how=0∨how=1:=by
      rcases hn with hn | hn
      · exact hn
      · simp [isNum] at hn
    have hkd:(ak us l a).kind≠0:=by
      cases x with
      | num=>exact absurd hag (by simp [aT])
      | wd w=>have:=(wB hx).1;omega
      | fw ws=>exact (wC (.inl ha) hx).2.1
    exact ⟨by omega, .inr (.inl ⟨kb, h01, hkd⟩)⟩
end
end Go.Ab.Pol
