/-
  The plan of a normal form: its atoms and its formula.
-/
import Derived.Test.YtjnomgdildcbhaaGreatDoorAb4dS2
import Derived.Test.YtjnomgdildcbhaaGreatDoorAbNf
set_option linter.all false
namespace Go.Ab.Pol
def ixR(j0:List Rf)(n:Nd):Nat:=(j0.findIdx? λr=>decide (r=⟨n.nm,n.attr⟩)).getD 0
def bU(f:Fd):Int:=if f.kind=1 then (f.words.l.length:Int)-1 else f.mx-f.mn
def dM(f:Fd)(n:Nd):Int:=if n.k=10 then n.num-f.mn else (((f.words.l.findIdx? λw=>decide (w=n.nm)).getD 0:Nat):Int)
def eY(a b lo hi:Int):List Pt:=if lo<=hi then [⟨5,a,b,lo,hi⟩] else []
section
variable(j0:List Rf)(fd:Nd->Fd)
def nK(k num:Int)(x y z:Nd):List Pt:=
 if k=7 then [⟨2,(ixR j0 x:Int),0,dM (fd x) y,dM (fd x) z⟩]
 else if y.k≠9 then [⟨if num=1 then 1 else 0,(ixR j0 x:Int),0,dM (fd x) y,0⟩]
 else if num=2 then eY (ixR j0 x) (ixR j0 y) (-(bU (fd y))) ((fd y).mn-(fd x).mn-1)
 else if num=3 then eY (ixR j0 x) (ixR j0 y) (-(bU (fd y))) ((fd y).mn-(fd x).mn)
 else if num=0 then (if (fd y).mn-(fd x).mn=0 then [⟨3,(ixR j0 x:Int),(ixR j0 y:Int),0,0⟩] else eY (ixR j0 x) (ixR j0 y) ((fd y).mn-(fd x).mn) ((fd y).mn-(fd x).mn))
 else if (fd y).mn-(fd x).mn=0 then [⟨4,(ixR j0 x:Int),(ixR j0 y:Int),0,0⟩]
 else eY (ixR j0 x) (ixR j0 y) (-(bU (fd y))) ((fd y).mn-(fd x).mn-1)++eY (ixR j0 x) (ixR j0 y) ((fd y).mn-(fd x).mn+1) (bU (fd x))
def iW(k num:Int)(vs:List Nd):List Pt:=match vs with
 |x::y::r=>nK j0 fd k num x y (r.headD (bq 0))
 |_=>[]
def fmA(pts:List Pt):Fm:=if pts.length=1 then .leaf else .gate 1 [.leaf,.leaf]
mutual
def kQ:Cd->List Pt
 |.atom k num vs=>iW j0 fd k num vs
 |.gate _ ks=>bF ks
def bF:List Cd->List Pt
 | []=>[]
 |c::cs=>kQ c++bF cs
end
mutual
def fmC:Cd->Fm
 |.atom k num vs=>fmA (iW j0 fd k num vs)
 |.gate j5 ks=>.gate j5 (bZ ks)
def bZ:List Cd->List Fm
 | []=>[]
 |c::cs=>fmC c::bZ cs
end
def bH:Cd->Option Pt
 |.atom k num vs=>if k=7 then (match iW j0 fd k num vs with
  |a::_=>if 64<=a.hi-a.lo then some a else none
  | []=>none) else none
 |.gate _ _=>none
def FA:List Fm->Option Fm
 | []=>none
 | [f]=>some f
 |f::g::r=>some (.gate ((f::g::r).length:Int) (f::g::r))
def narrow(ks:List Cd):List Cd:=ks.filter λc=>(bH j0 fd c).isNone
def fO(c:Cd):List Pt×List Pt×Option Fm:=
 match bH j0 fd c with
 |some a=>([],[a],none)
 |none=>match c with
  |.gate j5 ks=>if j5=(ks.length:Int) then (bF j0 fd (narrow j0 fd ks),ks.filterMap (bH j0 fd),FA (bZ j0 fd (narrow j0 fd ks)))
   else (bF j0 fd ks,[],some (.gate j5 (bZ j0 fd ks)))
  |.atom k num vs=>(iW j0 fd k num vs,[],some (fmA (iW j0 fd k num vs)))
end
section
variable{us:List Us}{l:List Sc}{Q:Nd->Prop}
theorem sB{h h':Int}{a b a' b':Nd}(e:dV h a b=dV h' a' b'):h=h'∧a=a'∧b=b':=by
 simp only[dV,Cd.atom.injEq,afH,and_true,true_and]at e;exact e
theorem fK{t:Bool}{h:Int}{a b:Nd}(e:cB t=dV h a b):False:=by
 simp[cB,dV]at e
theorem wL {j6:Int} {a b:Nd} (w:Wt us l j6 a b) (h:values (au us l) j6 a b=dV j6 a b) :
    a.k=9∧(j6=0∨j6=1∨j6=2∨j6=3) ∧
    ((b.k=10∧(j6=0∨j6=1)∧bS us l a=some .num∧(au us l a).mn<=b.num∧b.num<=(au us l a).mx) ∨
     (b.k=11∧(j6=0∨j6=1)∧(au us l a).kind≠0) ∨
     (b.k=9∧¬ (a.nm=b.nm∧a.attr=b.attr)∧(au us l a).kind=0∧(au us l b).kind=0∧cP (au us l) j6 a b=dV j6 a b) ∨
     (b.k=9∧¬ (a.nm=b.nm∧a.attr=b.attr)∧(au us l a).kind≠0∧(j6=0∨j6=1)∧(au us l b).kind≠0∧(au us l a).words.l=(au us l b).words.l∧(au us l a).words.l.length≠1)):=by
  obtain⟨hh, ka, kb, x, y, hx, hy, hag, hn⟩:=w;have ha:a.k=9:=by
    unfold values at h;by_cases c:a.k≠9∧b.k=9
    · rw[if_pos c]at h
      exfalso;unfold bP at h;have hb:=c.2;rw[if_neg (by omega), if_neg (by omega)]at h;rcases ka with k|k|k
      · exact c.1 k
      · rw[if_pos k]at h
        unfold bounded within at h
        repeat' split at h
        all_goals first|exact fK h|(have:=(sB h).2.1;rw[this]at hb;exact c.1 hb)|(simp[dV]at h)
      · rw[if_neg (by omega), if_neg (by omega)]at h
        by_cases c5:(au us l b).kind=0
        · have:y=.num:=wH hb hy c5
          subst this;have:x=.num:=by
            cases x with
            |num=>rfl
            |wd w=>exact absurd hag (by simp[aV])
            |fw w=>exact absurd hag (by simp[aV])
          subst this;rcases JK (.inr (.inr k)) hx with q|q<;>omega
        · rw[if_neg c5]at h
          split at h
          · exact fK h
          · have:=(sB h).2.1;rw[this]at hb;exact c.1 hb
    · rw[if_neg c]at h
      unfold bP at h;rcases ka with k|k|k
      · exact k
      · rw[if_pos k]at h;exact (fK h).elim
      · rw[if_neg (by omega), if_pos k]at h;exact (fK h).elim
  refine⟨ha, ?_⟩;unfold values at h;rw[if_neg (by omega)]at h;unfold bP at h;rw[if_neg (by omega), if_neg (by omega)]at h;by_cases kb0:b.k=10
  · rw[if_pos kb0]at h
    have hyn:bS us l b=some .num:=by unfold bS;rw[if_pos kb0]
    rw[hyn]at hy;injection hy with hy
    subst hy;have hxn:x=.num:=by
      cases x with
      |num=>rfl
      |wd w=>exact absurd hag (by simp[aV])
      |fw w=>exact absurd hag (by simp[aV])
    subst hxn;have wf:∀lo hi, within (au us l) a lo hi=dV j6 a b->j6=0∧b.num=max lo (au us l a).mn∧b.num=min hi (au us l a).mx:=λlo hi e=>by
      unfold within at e;split at e
      · exact (fK e).elim
      split at e
      · exact (fK e).elim
      split at e
      · rename_i q1 q2 q3
        obtain⟨e1, _, e3⟩:=sB e;have:b.num=max lo (au us l a).mn:=by rw[<-e3];rfl
        exact⟨e1.symm, this, by omega⟩
      · simp[dV]at e
    have key:(j6=0∨j6=1)∧(au us l a).mn<=b.num∧b.num<=(au us l a).mx:=by
      unfold bounded at h;split at h
      · have:=wf _ _ h;omega
      split at h
      · have:=wf _ _ h;omega
      split at h
      · have:=wf _ _ h;omega
      split at h
      · have:=wf _ _ h;omega
      split at h
      · have:=wf _ _ h;omega
      split at h
      · exact (fK h).elim
      split at h
      · exact (fK h).elim
      · have:=(sB h).1;omega
    exact⟨by omega, .inl ⟨kb0, key.1, hx, key.2⟩⟩
  rw[if_neg kb0]at h;rcases kb with kb|kb|kb
  · split at h
    · exact (fK h).elim
    rename_i c4;have hne:¬ (a.nm=b.nm∧a.attr=b.attr):=λq=>c4 ⟨kb, q⟩
    by_cases c5:(au us l a).kind=0
    · rw[if_pos c5]at h
      have ex:=wH ha hx c5;subst ex;have ey:y=.num:=by
        cases y with
        |num=>rfl
        |wd w=>exact absurd hag (by simp[aV])
        |fw w=>exact absurd hag (by simp[aV])
      subst ey;unfold numbers at h;split at h
      · rename_i q
        rcases pM (au us l) (cN j6) b a with⟨t, e⟩|e
        · rw[e]at h;exact (fK h).elim
        · rw[e]at h
          have:=(sB h).2.1;exact absurd ⟨by rw[this], by rw[this]⟩ hne
      · rename_i q
        have h3:j6=0∨j6=1∨j6=2∨j6=3:=by unfold How at hh;omega
        exact⟨h3, .inr (.inr (.inl ⟨kb, hne, c5, lU kb hy, h⟩))⟩
    · rw[if_neg c5]at h
      split at h
      · exact (fK h).elim
      rename_i c6;have hxf:∃ws, x=.fw ws:=by
        cases x with
        |num=>exact absurd (lU ha hx) c5
        |wd w=>have:=(Lx hx).1;omega
        |fw ws=>exact⟨ws, rfl⟩
      obtain⟨ws, rfl⟩:=hxf;obtain⟨_, _, w1⟩:=Lz (.inl ha) hx;have hyf:∃ws', y=.fw ws':=by
        cases y with
        |num=>exact absurd hag (by simp[aV])
        |wd w=>have:=(Lx hy).1;omega
        |fw ws=>exact⟨ws, rfl⟩
      obtain⟨ws', rfl⟩:=hyf;obtain⟨_, k2, w2⟩:=Lz (.inl kb) hy;have hw:ws=ws':=by
        simp only[aV]at hag;split at hag
        · assumption
        · exact absurd hag (by decide)
      have h01:j6=0∨j6=1:=by
        rcases hn with hn|hn
        · exact hn
        · simp[isNum]at hn
      exact⟨by omega, .inr (.inr (.inr ⟨kb, hne, c5, h01, k2, by rw[w1, w2, hw], c6⟩))⟩
  · exact absurd kb kb0
  · have hyw:y=.wd b.nm:=by
      unfold bS at hy;rw[if_neg (by omega), if_pos kb]at hy;injection hy with hy
      exact hy.symm
    subst hyw;have h01:j6=0∨j6=1:=by
      rcases hn with hn|hn
      · exact hn
      · simp[isNum]at hn
    have hkd:(au us l a).kind≠0:=by
      cases x with
      |num=>exact absurd hag (by simp[aV])
      |wd w=>have:=(Lx hx).1;omega
      |fw ws=>exact (Lz (.inl ha) hx).2.1
    exact⟨by omega, .inr (.inl ⟨kb, h01, hkd⟩)⟩
end
