/-
  The plan of a normal form: its atoms and its formula.
-/
import Derived.Test.YtjnomgdildcbhaaGreatDoorAb4dS1
import Derived.Test.YtjnomgdildcbhaaGreatDoorAbNf
set_option linter.unusedVariables false
set_option linter.unusedSimpArgs false
set_option linter.unusedSectionVars false
namespace Go.Ab.Pol
def ixR(refs:List Rf)(n:Nd):Nat:=(refs.findIdx? λr=>decide (r=⟨n.nm,n.attr⟩)).getD 0
def cA(f:Fd):Int:=if f.kind=1 then (f.words.l.length:Int)-1 else f.mx-f.mn
def cY(f:Fd)(n:Nd):Int:=if n.k=10 then n.num-f.mn else (((f.words.l.findIdx? λw=>decide (w=n.nm)).getD 0:Nat):Int)
def gu(a b lo hi:Int):List Pt:=if lo<=hi then [⟨5,a,b,lo,hi⟩] else []
section
variable(refs:List Rf)(fd:Nd->Fd)
def vN(k num:Int)(x y z:Nd):List Pt:=
 if k=7 then [⟨2,(ixR refs x:Int),0,cY (fd x) y,cY (fd x) z⟩]
 else if y.k≠9 then [⟨if num=1 then 1 else 0,(ixR refs x:Int),0,cY (fd x) y,0⟩]
 else if num=2 then gu (ixR refs x) (ixR refs y) (-(cA (fd y))) ((fd y).mn-(fd x).mn-1)
 else if num=3 then gu (ixR refs x) (ixR refs y) (-(cA (fd y))) ((fd y).mn-(fd x).mn)
 else if num=0 then (if (fd y).mn-(fd x).mn=0 then [⟨3,(ixR refs x:Int),(ixR refs y:Int),0,0⟩] else gu (ixR refs x) (ixR refs y) ((fd y).mn-(fd x).mn) ((fd y).mn-(fd x).mn))
 else if (fd y).mn-(fd x).mn=0 then [⟨4,(ixR refs x:Int),(ixR refs y:Int),0,0⟩]
 else gu (ixR refs x) (ixR refs y) (-(cA (fd y))) ((fd y).mn-(fd x).mn-1)++gu (ixR refs x) (ixR refs y) ((fd y).mn-(fd x).mn+1) (cA (fd x))
def jy(k num:Int)(vs:List Nd):List Pt:=match vs with
 |x :: y :: r=>vN refs fd k num x y (r.headD (bw 0))
 |_=>[]
def fmA(pts:List Pt):Fm:=if pts.length=1 then .leaf else .gate 1 [.leaf,.leaf]
mutual
def kZ:Cd->List Pt
 |.atom k num vs=>jy refs fd k num vs
 |.gate _ ks=>bq ks
def bq:List Cd->List Pt
 | []=>[]
 |c :: cs=>kZ c++bq cs
end
mutual
def fmC:Cd->Fm
 |.atom k num vs=>fmA (jy refs fd k num vs)
 |.gate need ks=>.gate need (cm ks)
def cm:List Cd->List Fm
 | []=>[]
 |c :: cs=>fmC c :: cm cs
end
def bL:Cd->Option Pt
 |.atom k num vs=>if k=7 then (match jy refs fd k num vs with
  |a :: _=>if 64<=a.hi-a.lo then some a else none
  | []=>none) else none
 |.gate _ _=>none
def oW:List Fm->Option Fm
 | []=>none
 | [f]=>some f
 |f :: g :: r=>some (.gate ((f :: g :: r).length:Int) (f :: g :: r))
def narrow(ks:List Cd):List Cd:=ks.filter λc=>(bL refs fd c).isNone
def eH(c:Cd):List Pt×List Pt×Option Fm:=
 match bL refs fd c with
 |some a=>([],[a],none)
 |none=>match c with
  |.gate need ks=>if need=(ks.length:Int) then (bq refs fd (narrow refs fd ks),ks.filterMap (bL refs fd),oW (cm refs fd (narrow refs fd ks)))
   else (bq refs fd ks,[],some (.gate need (cm refs fd ks)))
  |.atom k num vs=>(jy refs fd k num vs,[],some (fmA (jy refs fd k num vs)))
def mo:Option Fm->List Gt
 |none=>[]
 |some f=>flF 0 0 f
end
/- The atoms of a normal form: one or two. -/
section
variable{us:List Us}{l:List Sc}{Q:Nd->Prop}
theorem qu{h h':Int}{a b a' b':Nd}(e:dL h a b=dL h' a' b'):h=h'∧a=a'∧b=b':=by
 simp only[dL,Cd.atom.injEq,aen,and_true,true_and]at e;exact e
theorem eN{t:Bool}{h:Int}{a b:Nd}(e:cB t=dL h a b):False:=by
 simp[cB,dL]at e
theorem mL {how:Int} {a b:Nd} (w:Wt us l how a b) (h:values (ak us l) how a b=dL how a b) :
    a.k=9∧(how=0∨how=1∨how=2∨how=3) ∧
    ((b.k=10∧(how=0∨how=1)∧cg us l a=some .num∧(ak us l a).mn<=b.num∧b.num<=(ak us l a).mx) ∨
     (b.k=11∧(how=0∨how=1)∧(ak us l a).kind≠0) ∨
     (b.k=9∧¬ (a.nm=b.nm∧a.attr=b.attr)∧(ak us l a).kind=0∧(ak us l b).kind=0∧bH (ak us l) how a b=dL how a b) ∨
     (b.k=9∧¬ (a.nm=b.nm∧a.attr=b.attr)∧(ak us l a).kind≠0∧(how=0∨how=1)∧(ak us l b).kind≠0∧(ak us l a).words.l=(ak us l b).words.l∧(ak us l a).words.l.length≠1)):=by
  obtain⟨hh, ka, kb, x, y, hx, hy, hag, hn⟩:=w;have ha:a.k=9:=by
    unfold values at h;by_cases c:a.k≠9∧b.k=9
    · rw[if_pos c]at h
      exfalso;unfold bE at h;have hb:=c.2;rw[if_neg (by omega), if_neg (by omega)]at h;rcases ka with k |k |k
      · exact c.1 k
      · rw[if_pos k]at h
        unfold bounded within at h
        repeat' split at h
        all_goals first |exact eN h |(have:=(qu h).2.1;rw[this]at hb;exact c.1 hb) |(simp[dL]at h)
      · rw[if_neg (by omega), if_neg (by omega)]at h
        by_cases c5:(ak us l b).kind=0
        · have:y=.num:=BM hb hy c5
          subst this;have:x=.num:=by
            cases x with
            |num=>rfl
            |wd w=>exact absurd hag (by simp[aT])
            |fw w=>exact absurd hag (by simp[aT])
          subst this;rcases zM (.inr (.inr k)) hx with q |q<;>omega
        · rw[if_neg c5]at h
          split at h
          · exact eN h
          · have:=(qu h).2.1;rw[this]at hb;exact c.1 hb
    · rw[if_neg c]at h
      unfold bE at h;rcases ka with k |k |k
      · exact k
      · rw[if_pos k]at h;exact (eN h).elim
      · rw[if_neg (by omega), if_pos k]at h;exact (eN h).elim
  refine⟨ha, ?_⟩;unfold values at h;rw[if_neg (by omega)]at h;unfold bE at h;rw[if_neg (by omega), if_neg (by omega)]at h;by_cases kb0:b.k=10
  · rw[if_pos kb0]at h
    have hyn:cg us l b=some .num:=by unfold cg;rw[if_pos kb0]
    rw[hyn]at hy;injection hy with hy
    subst hy;have hxn:x=.num:=by
      cases x with
      |num=>rfl
      |wd w=>exact absurd hag (by simp[aT])
      |fw w=>exact absurd hag (by simp[aT])
    subst hxn;have wf:∀ lo hi, within (ak us l) a lo hi=dL how a b->how=0∧b.num=max lo (ak us l a).mn∧b.num=min hi (ak us l a).mx:=λlo hi e=>by
      unfold within at e;split at e
      · exact (eN e).elim
      split at e
      · exact (eN e).elim
      split at e
      · rename_i q1 q2 q3
        obtain⟨e1, _, e3⟩:=qu e;have:b.num=max lo (ak us l a).mn:=by rw[<-e3];rfl
        exact⟨e1.symm, this, by omega⟩
      · simp[dL]at e
    have key:(how=0∨how=1)∧(ak us l a).mn<=b.num∧b.num<=(ak us l a).mx:=by
      unfold bounded at h;split at h
      · have:=wf _ _ h;omega
      split at h
      · have:=wf _ _ h;omega
      split at h
      · have:=wf _ _ h;omega
      split at h
      · have:=wf _ _ h;omega
      split at h
      · have:=wf _ _ h;omega
      split at h
      · exact (eN h).elim
      split at h
      · exact (eN h).elim
      · have:=(qu h).1;omega
    exact⟨by omega, .inl ⟨kb0, key.1, hx, key.2⟩⟩
  rw[if_neg kb0]at h;rcases kb with kb |kb |kb
  · split at h
    · exact (eN h).elim
    rename_i c4;have hne:¬ (a.nm=b.nm∧a.attr=b.attr):=λq=>c4 ⟨kb, q⟩
    by_cases c5:(ak us l a).kind=0
    · rw[if_pos c5]at h
      have ex:=BM ha hx c5;subst ex;have ey:y=.num:=by
        cases y with
        |num=>rfl
        |wd w=>exact absurd hag (by simp[aT])
        |fw w=>exact absurd hag (by simp[aT])
      subst ey;unfold numbers at h;split at h
      · rename_i q
        rcases oc (ak us l) (dm how) b a with⟨t, e⟩ |e
        · rw[e]at h;exact (eN h).elim
        · rw[e]at h
          have:=(qu h).2.1;exact absurd ⟨by rw[this], by rw[this]⟩ hne
      · rename_i q
        have h3:how=0∨how=1∨how=2∨how=3:=by unfold How at hh;omega
        exact⟨h3, .inr (.inr (.inl ⟨kb, hne, c5, mM kb hy, h⟩))⟩
    · rw[if_neg c5]at h
      split at h
      · exact (eN h).elim
      rename_i c6;have hxf:∃ ws, x=.fw ws:=by
        cases x with
        |num=>exact absurd (mM ha hx) c5
        |wd w=>have:=(zN hx).1;omega
        |fw ws=>exact⟨ws, rfl⟩
      obtain⟨ws, rfl⟩:=hxf;obtain⟨_, _, w1⟩:=zO (.inl ha) hx;have hyf:∃ ws', y=.fw ws':=by
        cases y with
        |num=>exact absurd hag (by simp[aT])
        |wd w=>have:=(zN hy).1;omega
        |fw ws=>exact⟨ws, rfl⟩
      obtain⟨ws', rfl⟩:=hyf;obtain⟨_, k2, w2⟩:=zO (.inl kb) hy;have hw:ws=ws':=by
        simp only[aT]at hag;split at hag
        · assumption
        · exact absurd hag (by decide)
      have h01:how=0∨how=1:=by
        rcases hn with hn |hn
        · exact hn
        · simp[isNum]at hn
      exact⟨by omega, .inr (.inr (.inr ⟨kb, hne, c5, h01, k2, by rw[w1, w2, hw], c6⟩))⟩
  · exact absurd kb kb0
  · have hyw:y=.wd b.nm:=by
      unfold cg at hy;rw[if_neg (by omega), if_pos kb]at hy;injection hy with hy
      exact hy.symm
    subst hyw;have h01:how=0∨how=1:=by
      rcases hn with hn |hn
      · exact hn
      · simp[isNum]at hn
    have hkd:(ak us l a).kind≠0:=by
      cases x with
      |num=>exact absurd hag (by simp[aT])
      |wd w=>have:=(zN hx).1;omega
      |fw ws=>exact (zO (.inl ha) hx).2.1
    exact⟨by omega, .inr (.inl ⟨kb, h01, hkd⟩)⟩
end
end Go.Ab.Pol
