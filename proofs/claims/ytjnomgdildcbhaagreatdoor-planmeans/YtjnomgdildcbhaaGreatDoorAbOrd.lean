/-
  The check of an atom: the program.
-/
import Derived.Test.YtjnomgdildcbhaaGreatDoorAb4dS1
import Derived.Test.YtjnomgdildcbhaaGreatDoorAb4dA
set_option linter.unusedVariables false
set_option linter.unusedSimpArgs false
set_option linter.unusedSectionVars false
namespace Go.Ab.Pn
open Go.Ab.Pol
set_option maxRecDepth 100000
set_option maxHeartbeats 2000000
theorem kinds{k:Int}(h0:¬ k<0)(h6:¬ 6<=k):k=0∨k=1∨k=2∨k=3∨k=4∨k=5:=by omega
theorem jP(k a b lo hi:Int)(n:Nat):mO ⟨k, a, b, lo, hi⟩ n=(decide (0<=a∧a<(n:Int)) &&
  (if k=0∨k=1 then decide (b=0∧0<=lo∧lo<=aU∧hi=0)
   else if k=2 then decide (b=0∧0<=lo∧lo<=hi∧hi<=aU)
   else if k=3∨k=4 then decide (0<=b∧b<(n:Int)∧a≠b∧lo=0∧hi=0)
   else decide (0<=b∧b<(n:Int)∧a≠b∧-aU<=lo∧lo<=hi∧hi<=aU∧hi-lo<=aU))):=rfl
theorem f68(x:Pt)(n:Nat)(h:Heap):(mu K).fn 68 [x.av,iV (n:Int)] h=some (.val (.int .i64 (ptE x n)) h):=by
 have gM:=λ(i:Int) (h:Heap) (a:Loc) ha=>f121 (h:=h) i (n:Int) a ha
 have abE:=λb (h:Heap) (a a':Loc) ha hb=>f122 (h:=h) b x a a' ha hb
 have abF:=λb (h:Heap) (a a':Loc) ha hb=>f123 (h:=h) b x a a' ha hb
 have abG:=λb (h:Heap) (a a':Loc) ha hb=>f124 (h:=h) b x a a' ha hb
 have Wm:=λb (h:Heap) (a a':Loc) ha hb=>f125 (h:=h) b x a a' ha hb
 have Wn:=λb (h:Heap) (a a':Loc) ha hb=>f126 (h:=h) b x a a' ha hb
 have Wo:=λb (h:Heap) (a a':Loc) ha hb=>f127 (h:=h) b x a a' ha hb
 rw[aB (KX _ _ _) acM rfl (by simp[c68])];obtain⟨k,a,b,lo,hi⟩:=x;simp only at gM abE abF abG Wm Wn Wo;by_cases c0:k<0
 ·have e:ptE ⟨k,a,b,lo,hi⟩ n=1:=by unfold ptE;rw[if_pos (.inl c0)]
  rw[e];by_cases cb:0<=b
  ·by_cases cb2:b<(n:Int)
   ·simp[c68,KL,aa,hget,gM,c0,cb,cb2]
   ·simp[c68,KL,aa,hget,gM,c0,cb,cb2]
  ·simp[c68,KL,aa,hget,gM,c0,cb]
 by_cases c6:6<=k
 ·have e:ptE ⟨k,a,b,lo,hi⟩ n=1:=by unfold ptE;rw[if_pos (.inr c6)]
  rw[e];by_cases cb:0<=b
  ·by_cases cb2:b<(n:Int)
   ·simp[c68,KL,aa,hget,gM,c0,c6,cb,cb2]
   ·simp[c68,KL,aa,hget,gM,c0,c6,cb,cb2]
  ·simp[c68,KL,aa,hget,gM,c0,c6,cb]
 have e:ptE ⟨k,a,b,lo,hi⟩ n=if mO ⟨k,a,b,lo,hi⟩ n=true then 0 else 2:=by
  unfold ptE;rw[if_neg (by simp only;omega)]
 rw[e];by_cases ca:0<=a∧a<(n:Int)
 case neg=>
  have e2:mO ⟨k,a,b,lo,hi⟩ n=false:=by
   unfold mO;simp only;rw[decide_eq_false ca,ae7]
  have e3:(decide (0<=a)&&decide (a<(n:Int)))=false:=by simpa using ca
  rw[e2];by_cases cb:0<=b
  ·by_cases cb2:b<(n:Int)
   ·simp[c68,KL,aa,hget,gM,c0,c6,cb,cb2,e3]
   ·simp[c68,KL,aa,hget,gM,c0,c6,cb,cb2,e3]
  ·simp[c68,KL,aa,hget,gM,c0,c6,cb,e3]
 have e3:(decide (0<=a)&&decide (a<(n:Int)))=true:=by simpa using ca
 have eo:∀ q:Bool,(decide (0<=a∧a<(n:Int))&&q)=q:=λq=>by rw[decide_eq_true ca,aeu]
 rcases kinds c0 c6 with rfl |rfl |rfl |rfl |rfl |rfl
 ·obtain⟨r,hr⟩:∃ r,r=(decide (b=0)&&decide (0<=lo)&&decide (lo<=aU)&&decide (hi=0)):=⟨_,rfl⟩
  have k:=abE (decide (b=0));rw[<-hr]at k;have e4:mO ⟨0,a,b,lo,hi⟩ n=r:=by
   rw[jP,eo,hr];rw[if_pos (.inl rfl)];rw[aem];simp only[ad8,decide_eq_true_eq,and_assoc]
  rw[e4];by_cases cb:0<=b
  ·by_cases cb2:b<(n:Int)
   ·cases r<;>simp[c68,KL,aa,hget,gM,k,cb,cb2,e3,ca]
   ·cases r<;>simp[c68,KL,aa,hget,gM,k,cb,cb2,e3,ca]
  ·cases r<;>simp[c68,KL,aa,hget,gM,k,cb,e3,ca]
 ·obtain⟨r,hr⟩:∃ r,r=(decide (b=0)&&decide (0<=lo)&&decide (lo<=aU)&&decide (hi=0)):=⟨_,rfl⟩
  have k:=abF (decide (b=0));rw[<-hr]at k;have e4:mO ⟨1,a,b,lo,hi⟩ n=r:=by
   rw[jP,eo,hr];rw[if_pos (.inr rfl)];rw[aem];simp only[ad8,decide_eq_true_eq,and_assoc]
  rw[e4];by_cases cb:0<=b
  ·by_cases cb2:b<(n:Int)
   ·cases r<;>simp[c68,KL,aa,hget,gM,k,cb,cb2,e3,ca]
   ·cases r<;>simp[c68,KL,aa,hget,gM,k,cb,cb2,e3,ca]
  ·cases r<;>simp[c68,KL,aa,hget,gM,k,cb,e3,ca]
 ·obtain⟨r,hr⟩:∃ r,r=(decide (b=0)&&decide (0<=lo)&&decide (lo<=hi)&&decide (hi<=aU)):=⟨_,rfl⟩
  have k:=abG (decide (b=0));rw[<-hr]at k;have e4:mO ⟨2,a,b,lo,hi⟩ n=r:=by
   rw[jP,eo,hr];rw[if_neg (by decide),if_pos rfl];rw[aem];simp only[ad8,decide_eq_true_eq,and_assoc]
  rw[e4];by_cases cb:0<=b
  ·by_cases cb2:b<(n:Int)
   ·cases r<;>simp[c68,KL,aa,hget,gM,k,cb,cb2,e3,ca]
   ·cases r<;>simp[c68,KL,aa,hget,gM,k,cb,cb2,e3,ca]
  ·cases r<;>simp[c68,KL,aa,hget,gM,k,cb,e3,ca]
 ·obtain⟨r,hr⟩:∃ r,r=(true&&decide (lo=0)&&decide (hi=0)):=⟨_,rfl⟩
  have k:=Wm true;rw[<-hr]at k;have k0:=Wm false;simp only[ae7]at k0;by_cases c2:(0<=b∧b<(n:Int))∧a≠b
  ·have e4:mO ⟨3,a,b,lo,hi⟩ n=r:=by
    rw[jP,eo,hr];rw[if_neg (by decide),if_neg (by decide),if_pos (.inl rfl)];rw[aem];simp only[vZ,ad8,decide_eq_true_eq,aeu,c2.1.1,c2.1.2,c2.2,ne_eq,not_false_eq_true,true_and]
   rw[e4];cases r<;>simp[c68,KL,aa,hget,gM,k,c2.1.1,c2.1.2,c2.2,e3,ca]
  ·have e4:mO ⟨3,a,b,lo,hi⟩ n=false:=by
    rw[jP,eo];rw[if_neg (by decide),if_neg (by decide),if_pos (.inl rfl)];rw[decide_eq_false_iff_not];rintro⟨q1,q2,q3,_⟩;exact c2 ⟨⟨q1,q2⟩,q3⟩
   rw[e4];by_cases cb:0<=b
   ·by_cases cb2:b<(n:Int)
    ·have c3:a=b:=Classical.byContradiction λq=>c2 ⟨⟨cb,cb2⟩,q⟩
     have c4:(a=b)=True:=by simp[c3]
     simp[c68,KL,aa,hget,gM,k0,cb,cb2,c4,e3,ca]
    ·simp[c68,KL,aa,hget,gM,k0,cb,cb2,e3,ca]
   ·simp[c68,KL,aa,hget,gM,k0,cb,e3,ca]
 ·obtain⟨r,hr⟩:∃ r,r=(true&&decide (lo=0)&&decide (hi=0)):=⟨_,rfl⟩
  have k:=Wn true;rw[<-hr]at k;have k0:=Wn false;simp only[ae7]at k0;by_cases c2:(0<=b∧b<(n:Int))∧a≠b
  ·have e4:mO ⟨4,a,b,lo,hi⟩ n=r:=by
    rw[jP,eo,hr];rw[if_neg (by decide),if_neg (by decide),if_pos (.inr rfl)];rw[aem];simp only[vZ,ad8,decide_eq_true_eq,aeu,c2.1.1,c2.1.2,c2.2,ne_eq,not_false_eq_true,true_and]
   rw[e4];cases r<;>simp[c68,KL,aa,hget,gM,k,c2.1.1,c2.1.2,c2.2,e3,ca]
  ·have e4:mO ⟨4,a,b,lo,hi⟩ n=false:=by
    rw[jP,eo];rw[if_neg (by decide),if_neg (by decide),if_pos (.inr rfl)];rw[decide_eq_false_iff_not];rintro⟨q1,q2,q3,_⟩;exact c2 ⟨⟨q1,q2⟩,q3⟩
   rw[e4];by_cases cb:0<=b
   ·by_cases cb2:b<(n:Int)
    ·have c3:a=b:=Classical.byContradiction λq=>c2 ⟨⟨cb,cb2⟩,q⟩
     have c4:(a=b)=True:=by simp[c3]
     simp[c68,KL,aa,hget,gM,k0,cb,cb2,c4,e3,ca]
    ·simp[c68,KL,aa,hget,gM,k0,cb,cb2,e3,ca]
   ·simp[c68,KL,aa,hget,gM,k0,cb,e3,ca]
 ·obtain⟨r,hr⟩:∃ r,r=(true&&vZ ⟨5,a,b,lo,hi⟩):=⟨_,rfl⟩
  have k:=Wo true;rw[<-hr]at k;have k0:=Wo false;simp only[ae7]at k0;by_cases c2:(0<=b∧b<(n:Int))∧a≠b
  ·have e4:mO ⟨5,a,b,lo,hi⟩ n=r:=by
    rw[jP,eo,hr];rw[if_neg (by decide),if_neg (by decide),if_neg (by decide)];rw[aem];simp only[vZ,ad8,decide_eq_true_eq,aeu,c2.1.1,c2.1.2,c2.2,ne_eq,not_false_eq_true,true_and]
   rw[e4];cases r<;>simp[c68,KL,aa,hget,gM,k,c2.1.1,c2.1.2,c2.2,e3,ca]
  ·have e4:mO ⟨5,a,b,lo,hi⟩ n=false:=by
    rw[jP,eo];rw[if_neg (by decide),if_neg (by decide),if_neg (by decide)];rw[decide_eq_false_iff_not];rintro⟨q1,q2,q3,_⟩;exact c2 ⟨⟨q1,q2⟩,q3⟩
   rw[e4];by_cases cb:0<=b
   ·by_cases cb2:b<(n:Int)
    ·have c3:a=b:=Classical.byContradiction λq=>c2 ⟨⟨cb,cb2⟩,q⟩
     have c4:(a=b)=True:=by simp[c3]
     simp[c68,KL,aa,hget,gM,k0,cb,cb2,c4,e3,ca]
    ·simp[c68,KL,aa,hget,gM,k0,cb,cb2,e3,ca]
   ·simp[c68,KL,aa,hget,gM,k0,cb,e3,ca]
end Go.Ab.Pn
/-
  NS: the reference's check, what they say, their UW.
-/
namespace Go.Ab.Pn
open Go.Ab.Pol
set_option maxRecDepth 100000
set_option maxHeartbeats 4000000
end Go.Ab.Pn
/-
  What an atom says;its width;program and reference.
-/
namespace Go.Ab.Pn
open Go.Ab.Pol
set_option maxRecDepth 100000
set_option maxHeartbeats 4000000
section
variable{h:Heap}
theorem f59(x:Pt)(v:Int)(a a':Loc)(ha:hget h a=some (.box 3 false (iV v)))(hb:hget h a'=some (.box 56 false x.av)):(mu K).fn 59 [.ptr a 0,.ptr a' 0] h=some (.val (.bool (decide (v=x.lo))) h):=by
 obtain⟨ne,ne2⟩:=bZ ha;obtain⟨ne3,ne4⟩:=bZ hb;rw[aB (KX _ _ _) acE rfl (by simp[c59])];simp[c59,KL,aa,hget,ha,hb,ne,ne2,ne3,ne4]
theorem f60(x:Pt)(v:Int)(a a':Loc)(ha:hget h a=some (.box 3 false (iV v)))(hb:hget h a'=some (.box 56 false x.av)):(mu K).fn 60 [.ptr a 0,.ptr a' 0] h=some (.val (.bool (decide (v≠x.lo))) h):=by
 obtain⟨ne,ne2⟩:=bZ ha;obtain⟨ne3,ne4⟩:=bZ hb;rw[aB (KX _ _ _) acF rfl (by simp[c60])];simp[c60,KL,aa,hget,ha,hb,ne,ne2,ne3,ne4]
theorem f61(x:Pt)(v:Int)(a a':Loc)(ha:hget h a=some (.box 3 false (iV v)))(hb:hget h a'=some (.box 56 false x.av)):(mu K).fn 61 [.ptr a' 0,.ptr a 0] h=some (.val (.bool (decide (x.lo<=v∧v<=x.hi))) h):=by
 obtain⟨ne,ne2⟩:=bZ ha;obtain⟨ne3,ne4⟩:=bZ hb;rw[aB (KX _ _ _) acG rfl (by simp[c61])];by_cases c:x.lo<=v
 ·simp[c61,KL,aa,hget,ha,hb,ne,ne2,ne3,ne4,c]
 ·simp[c61,KL,aa,hget,ha,hb,ne,ne2,ne3,ne4,c]
theorem f62(v u:Int)(a a':Loc)(ha:hget h a=some (.box 3 false (iV v)))(hb:hget h a'=some (.box 3 false (iV u))):(mu K).fn 62 [.ptr a 0,.ptr a' 0] h=some (.val (.bool (decide (v=u))) h):=by
 obtain⟨ne,ne2⟩:=bZ ha;obtain⟨ne3,ne4⟩:=bZ hb;rw[aB (KX _ _ _) acH rfl (by simp[c62])];simp[c62,KL,aa,hget,ha,hb,ne,ne2,ne3,ne4]
theorem f63(v u:Int)(a a':Loc)(ha:hget h a=some (.box 3 false (iV v)))(hb:hget h a'=some (.box 3 false (iV u))):(mu K).fn 63 [.ptr a 0,.ptr a' 0] h=some (.val (.bool (decide (v≠u))) h):=by
 obtain⟨ne,ne2⟩:=bZ ha;obtain⟨ne3,ne4⟩:=bZ hb;rw[aB (KX _ _ _) acI rfl (by simp[c63])];simp[c63,KL,aa,hget,ha,hb,ne,ne2,ne3,ne4]
theorem f64(x:Pt)(v u:Int)(a a' b:Loc)(ha:hget h a=some (.box 3 false (iV v)))(hb:hget h a'=some (.box 3 false (iV u)))(hc:hget h b=some (.box 56 false x.av)):(mu K).fn 64 [.ptr b 0,.ptr a 0,.ptr a' 0] h=some (.val (.bool (decide (x.lo<=rM v u∧rM v u<=x.hi))) h):=by
 obtain⟨ne,ne2⟩:=bZ ha;obtain⟨ne3,ne4⟩:=bZ hb;obtain⟨ne5,ne6⟩:=bZ hc;rw[aB (KX _ _ _) acJ rfl (by simp[c64])];have w:IntKind.i64.wrap (v-u)=rM v u:=rfl;by_cases c:x.lo<=rM v u
 ·simp[c64,KL,aa,hget,ha,hb,hc,ne,ne2,ne3,ne4,ne5,ne6,w,c]
 ·simp[c64,KL,aa,hget,ha,hb,hc,ne,ne2,ne3,ne4,ne5,ne6,w,c]
end
theorem zH{x:Pt}{vs:List Int}(c:x.kind<0∨6<=x.kind∨x.a<0∨(vs.length:Int)<=x.a):ptH x vs=false:=by unfold ptH;rw[if_pos c]
theorem G8{x:Pt}{vs:List Int}(c:3<=x.kind∧(x.b<0∨(vs.length:Int)<=x.b)):ptH x vs=false:=by
 unfold ptH;by_cases c1:x.kind<0∨6<=x.kind∨x.a<0∨(vs.length:Int)<=x.a
 ·rw[if_pos c1]
 ·rw[if_neg c1,if_pos c]
theorem PR{x:Pt}{vs:List Int}(c:¬ (x.kind<0∨6<=x.kind∨x.a<0∨(vs.length:Int)<=x.a))(c2:¬ (3<=x.kind∧(x.b<0∨(vs.length:Int)<=x.b))):ptH x vs=iR x (vs.getD x.a.toNat 0) (vs.getD x.b.toNat 0):=by
 unfold ptH;rw[if_neg c,if_neg c2]
theorem TA{vs:Sl Int}{a:Int}(h0:0<=a)(h1:a<(vs.l.length:Int)):∀ (k:IntKind),iaF 1 (vs.avS iV) (.int k a)=some (.dH (iV (vs.l.getD a.toNat 0)) 0):=λk=>by
 refine aG (av:=iV) (x:=vs.l.getD a.toNat 0) h0 ?_ rfl;rw[iO,aea (by omega)];rfl
theorem f20(x:Pt)(vs:Sl Int)(h:Heap):(mu K).fn 20 [x.av,vs.avS iV] h=some (.val (.bool (ptH x vs.l)) h):=by
 have k59:=λ(v:Int) (h:Heap) (a a':Loc) ha hb=>f59 (h:=h) x v a a' ha hb
 have k60:=λ(v:Int) (h:Heap) (a a':Loc) ha hb=>f60 (h:=h) x v a a' ha hb
 have k61:=λ(v:Int) (h:Heap) (a a':Loc) ha hb=>f61 (h:=h) x v a a' ha hb
 have k62:=λ(v u:Int) (h:Heap) (a a':Loc) ha hb=>f62 (h:=h) v u a a' ha hb
 have k63:=λ(v u:Int) (h:Heap) (a a':Loc) ha hb=>f63 (h:=h) v u a a' ha hb
 have k64:=λ(v u:Int) (h:Heap) (a a' b:Loc) ha hb hc=>f64 (h:=h) x v u a a' b ha hb hc
 rw[aB (KX _ _ _) acq rfl (by simp[c20])];obtain⟨k,a,b,lo,hi⟩:=x;simp only at k59 k60 k61 k62 k63 k64;by_cases c0:k<0
 ·rw[zH (.inl c0)];simp[c20,KL,aa,hget,c0]
 by_cases c6:6<=k
 ·rw[zH (.inr (.inl c6))];simp[c20,KL,aa,hget,c0,c6]
 by_cases ca:a<0
 ·rw[zH (.inr (.inr (.inl ca)))];simp[c20,KL,aa,hget,c0,c6,ca]
 by_cases ca2:(vs.l.length:Int)<=a
 ·rw[zH (.inr (.inr (.inr ca2)))];simp[c20,KL,aa,hget,c0,c6,ca,ca2]
 have ix:=TA (vs:=vs) (a:=a) (by omega) (by omega);have cc:¬ (k<0∨6<=k∨a<0∨(vs.l.length:Int)<=a):=by omega
 by_cases c3:3<=k
 ·by_cases cb:b<0
  ·rw[G8 ⟨c3,.inl cb⟩];simp[c20,KL,aa,hget,c0,c6,ca,ca2,ix,c3,cb]
  by_cases cb2:(vs.l.length:Int)<=b
  ·rw[G8 ⟨c3,.inr cb2⟩];simp[c20,KL,aa,hget,c0,c6,ca,ca2,ix,c3,cb,cb2]
  have iy:=TA (vs:=vs) (a:=b) (by omega) (by omega);rw[PR cc (by simp only;omega)];generalize vs.l.getD a.toNat 0=X at *
  generalize vs.l.getD b.toNat 0=Y at *
  rcases kinds c0 c6 with rfl |rfl |rfl |rfl |rfl |rfl
  ·omega
  ·omega
  ·omega
  all_goals simp[c20,KL,aa,hget,ca,ca2,ix,cb,cb2,iy,k62,k63,k64,iR]
 ·rw[PR cc (by simp only;omega)];generalize vs.l.getD a.toNat 0=X at *
  generalize vs.l.getD b.toNat 0=Y at *
  rcases kinds c0 c6 with rfl |rfl |rfl |rfl |rfl |rfl
  case inr.inr.inr.inl=>omega
  case inr.inr.inr.inr.inl=>omega
  case inr.inr.inr.inr.inr=>omega
  all_goals simp[c20,KL,aa,hget,ca,ca2,ix,k59,k60,k61,iR]
end Go.Ab.Pn
/-
  Policies that fit their schemas: other orders of the schemas, further schemas, and changed nodes.
-/
namespace Go.Ab.Pol
theorem pO:∀ {l:List (Int×Int)},(eI l).2=0->eI l=(0,0)∧∀ e∈l,e.2=0
 | [],_=>⟨rfl,λe h=>by simp at h⟩
 |e :: l,h=>by
  simp only[eI]at h ⊢;by_cases he:e.2=0
  ·rw[if_pos he]at h ⊢;obtain⟨a,b⟩:=pO h;exact⟨a,λx hx=>by
    rcases adY.1 hx with rfl |hx
    ·exact he
    ·exact b x hx⟩
  ·rw[if_neg he]at h;exact absurd h he
theorem xV:∀ {l:List (Int×Int)},(∀ e∈l,e.2=0)->eI l=(0,0)
 | [],_=>rfl
 |e :: l,h=>by
  simp only[eI];rw[if_pos (h e (by simp))];exact xV λx hx=>h x (by simp[hx])
structure Fy (p:Po)(l:List Sc)(t:Tr):Prop where
 ready:bI p l=0
 HJ:∀ r∈p.aA.l,(findF p.uses.l l r).isSome=true
 conds:∀ s∈t.subs,(cZ (cg p.uses.l l) s).2=0
theorem pE{p:Po}{l:List Sc}{t:Tr}(h:(fB p l t).2=0):Fy p l t∧fB p l t=(0,0):=by
 unfold fB at h ⊢;split at h
 ·rename_i a;exact absurd h a
 rename_i a;split at h
 ·simp at h
 rename_i b;rw[if_neg a,if_neg b];rw[jr]at h ⊢;obtain⟨c,d⟩:=pO h;refine⟨⟨by simpa using a,?_,λs hs=>d _ (aeg.2 ⟨s,hs,rfl⟩)⟩,c⟩;have b:p.aA.l.all (λr=>(findF p.uses.l l r).isSome)=true:=(afs _).mp b;exact aek.1 b
theorem UF{p:Po}{l:List Sc}{t:Tr}(h:Fy p l t):fB p l t=(0,0):=by
 unfold fB;rw[if_neg (by simp[h.ready]),if_neg (by rw[aek.2 h.HJ];simp),jr];exact xV λe he=>by
  obtain⟨s,hs,rfl⟩:=aeg.1 he;exact h.conds s hs
theorem xW:∀ {l:List Sc},jF l=0->∀ s∈l,ju s=0
 | [],_,s,h=>by simp at h
 |x :: l,h,s,hs=>by
  simp only[jF]at h;split at h
  ·rename_i a;rcases adY.1 hs with rfl |hs
   ·exact a
   ·exact xW h s hs
  ·rename_i a;exact absurd h a
structure Wp (p:Po)(l:List Sc):Prop where
 chk:chk p=0
 sch:∀ s∈l,ju s=0
 nd:(l.map Sc.name).Nodup
 uses:∀ u∈p.uses.l,(scN l u.sc).isSome=true
theorem kI{p:Po}{l:List Sc}(h:bI p l=0):Wp p l:=by
 unfold bI at h;split at h
 ·rename_i a;exact absurd h a
 rename_i a;split at h
 ·rename_i b;exact absurd h b
 rename_i b;split at h
 ·simp at h
 rename_i c;split at h
 ·simp at h
 rename_i d;refine⟨by simpa using a,xW (by simpa using b),afD.1 c,?_⟩;have d:p.uses.l.all (λu=>(scN l u.sc).isSome)=true:=(afs _).mp d;exact aek.1 d
theorem oY{l:List Sc}{nm:Bs}{s:Sc}(h:scN l nm=some s):s∈l∧s.name=nm:=by
 unfold scN at h;exact⟨List.mem_of_find?_eq_some h,by simpa using List.find?_some h⟩
/- A node that is changed. -/
theorem pI{ns:List Nd}:∀ {ts:List Tr},kY ns ts↔∀ t∈ts,IsT ns t
 | []=>by simp[kY]
 |t :: ts=>by simp[kY,pI (ts:=ts)]
theorem Jr{c:Bool}:∀ {ts:List Tr},WFs ts c↔∀ t∈ts,WF t c
 | []=>by simp[WFs]
 |t :: ts=>by simp[WFs,Jr (ts:=ts)]
section
variable(i:Nat)(n':Nd)(sw:Bool)
end
structure adU (n0 n':Nd)(sw:Bool):Prop where
 nm:n'.nm=n0.nm
 attr:n'.attr=n0.attr
 k:n'.k=n0.k
 how:(sw=true∧n0.k=6∧(n0.num=0∨n0.num=1)∧n'.num=n0.num∧n0.kids.l.length=2∧n'.kids.l=n0.kids.l.reverse) ∨
  (sw=false∧n0.k=10∧-2147483648<=n'.num∧n'.num<=2147483647∧n'.kids.l=n0.kids.l)
section
variable{i:Nat}{n0 n':Nd}{sw:Bool}{ns:List Nd}
end
end Go.Ab.Pol
