/-
  Fields and conditions: the reference.
-/
import Derived.Test.YtfpmflgjbpnkjaaGreatAb4zP20
import Derived.Test.YtfpmflgjbpnkjaaGreatAb4zP18b
set_option linter.unusedVariables false
set_option linter.unusedSimpArgs false
set_option linter.unusedSectionVars false
namespace Go.Ab.Pz
open Go.Ab.Pol
set_option maxRecDepth 100000
set_option maxHeartbeats 1000000
theorem f64 (p:Po) (hp:p.uses.l.length≤1000) (l:Sl Sc) (hl:okL l) (r:Rf) (h:Heap):(mu K).fn 64 [p.av,l.avS Sc.av,r.av] h=some (.val (.tup [plAV (findF p.uses.l l.l r),fdAV (findF p.uses.l l.l r),.bool (findF p.uses.l l.l r).isSome]) h):=by
 have k1:=fun h=>f111 p hp r.al h
 rw [findF_1]
 rw [fn_go (KX _ _ _) fn64 rfl (by simp [c64])]
 cases eu:useI p.uses.l r.al with
 | none=>
  rw [eu] at k1
  simp [c64,KL,lendF,k1,plAV,fdAV]
 | some u=>
  rw [eu] at k1
  have hu:u < p.uses.l.length:=by
   unfold useI at eu
   exact (List.findIdx?_eq_some_iff_getElem.1 eu).1
  have hg:p.uses.l[u]?=some p.uses.l[u]:=List.getElem?_eq_getElem hu
  simp only [hg]
  generalize p.uses.l[u]=x at *
  have hix:=fun (k:IntKind)=>iaF_sl (av:=Us.av) (sz:=2) (s:=p.uses) (k:=k) (j:=(u:Int)) (x:=x) (by omega) (by simpa using hg) rfl
  have k2:=fun h=>f110 l hl.len x.sc h
  unfold fnd1
  cases es:scN l.l x.sc with
  | none=>
   rw [es] at k2
   have z0:scAV none=.agg [.str [],.nils]:=rfl
   rw [z0] at k2
   simp [c64,KL,lendF,k1,hix,k2,plAV,fdAV]
  | some s=>
   rw [es] at k2
   have z0:scAV (some s)=s.av:=rfl
   rw [z0] at k2
   have hs:=hl.sc s (scN_of es).1
   have k3:=fun h=>f112 s hs.len r.attr h
   cases ef:fdI s r.attr with
   | none=>
    rw [ef] at k3
    simp [c64,KL,lendF,k1,hix,k2,k3,ef,plAV,fdAV]
   | some i=>
    rw [ef] at k3
    have hi:i < s.fields.l.length:=by
     unfold fdI at ef
     exact (List.findIdx?_eq_some_iff_getElem.1 ef).1
    have hg2:s.fields.l[i]?=some s.fields.l[i]:=List.getElem?_eq_getElem hi
    generalize s.fields.l[i]=f at *
    have hiy:=fun (k:IntKind)=>iaF_sl (av:=Fd.av) (sz:=5) (s:=s.fields) (k:=k) (j:=(i:Int)) (x:=f) (by omega) (by simpa using hg2) rfl
    have w2:IntKind.i64.wrap ((i:Int)+2)=(i:Int)+2:=wrap64 (by omega) (by have:=hs.len;omega)
    have q1:=beq_avS _ beq_fd s.fields
    have q2:=beq_avS _ beq_strS f.words
    simp [c64,KL,lendF,k1,hix,k2,k3,hiy,w2,q1,q2,ef,hg2,plAV,fdAV]
def rfd (us:List Us) (l:List Sc) (n:Nd):Option (Nat×Nat×Pol.Fd):=if n.k=9 then findF us l ⟨n.nm,n.attr⟩ else none
theorem f113 (p:Po) (hp:p.uses.l.length≤1000) (l:Sl Sc) (hl:okL l) {i:Nat} {n:Nd} (hn:p.nodes.l[i]?=some n) (h:Heap) :
  (mu K).fn 113 [p.av,l.avS Sc.av,.int .i64 (i:Int)] h=some (.val (.tup [fdAV (rfd p.uses.l l.l n),.bool (rfd p.uses.l l.l n).isSome]) h):=by
 have k:=fun h=>f64 p hp l hl ⟨n.nm,n.attr⟩ h
 have hix:=fun (k:IntKind)=>iaF_sl (av:=Nd.av) (sz:=6) (s:=p.nodes) (k:=k) (j:=(i:Int)) (x:=n) (by omega) (by simpa using hn) rfl
 rw [fn_go (KX _ _ _) fn113 rfl (by simp [c113])]
 unfold rfd
 by_cases c1:n.k=9
 case neg=>simp [c113,KL,lendF,hix,c1,fdAV]
 have d:(n.k=9)=True:=by simp [c1]
 rw [if_pos c1]
 cases e:findF p.uses.l l.l ⟨n.nm,n.attr⟩ with
 | none=>
  rw [e] at k
  simp only [plAV,fdAV] at k
  simp [c113,KL,lendF,hix,d,k,fdAV]
 | some q=>
  obtain ⟨u,k',f⟩:=q
  rw [e] at k
  simp only [plAV,fdAV] at k
  simp [c113,KL,lendF,hix,d,k,fdAV]
def numN1 (us:List Us) (l:List Sc) (n:Nd):Bool:=decide (n.k=10) || match rfd us l n with
 | none=>false
 | some q=>decide (q.2.2.kind=0)
theorem f114 (p:Po) (hp:p.uses.l.length≤1000) (l:Sl Sc) (hl:okL l) {i:Nat} {n:Nd} (hn:p.nodes.l[i]?=some n) (h:Heap) :
  (mu K).fn 114 [p.av,l.avS Sc.av,.int .i64 (i:Int)] h=some (.val (.bool (numN1 p.uses.l l.l n)) h):=by
 have k:=fun h=>f113 p hp l hl hn h
 have hix:=fun (k:IntKind)=>iaF_sl (av:=Nd.av) (sz:=6) (s:=p.nodes) (k:=k) (j:=(i:Int)) (x:=n) (by omega) (by simpa using hn) rfl
 rw [fn_go (KX _ _ _) fn114 rfl (by simp [c114])]
 unfold numN1
 cases e:rfd p.uses.l l.l n with
 | none=>
  rw [e] at k
  simp only [fdAV] at k
  by_cases c1:n.k=10
  ·have d:(n.k=10)=True:=by simp [c1]
   simp [c114,KL,lendF,hix,d,k]
  ·simp [c114,KL,lendF,hix,c1,k]
 | some q=>
  obtain ⟨u,k',f⟩:=q
  rw [e] at k
  simp only [fdAV] at k
  by_cases c1:n.k=10
  ·have d:(n.k=10)=True:=by simp [c1]
   simp [c114,KL,lendF,hix,d,k]
  ·by_cases c2:f.kind=0
   ·have d:(f.kind=0)=True:=by simp [c2]
    simp [c114,KL,lendF,hix,c1,k,d]
   ·simp [c114,KL,lendF,hix,c1,k,c2]
theorem vt_tri {us:List Us} {l:List Sc} {n:Nd} {v:VT} (hk:n.k=9∨n.k=10∨n.k=11) (hv:vtOf us l n=some v) :
  (numN1 us l n=true∧rfd us l n=none∧v=.num)∨(numN1 us l n=false∧rfd us l n=none∧v=.wd n.nm)∨(∃ q,numN1 us l n=true∧rfd us l n=some q∧v=.num)∨(∃ q,numN1 us l n=false∧rfd us l n=some q∧v=.fw q.2.2.words.l):=by
 unfold vtOf at hv
 unfold numN1 rfd
 rcases hk with hk | hk | hk
 ·rw [if_neg (by omega),if_neg (by omega)] at hv
  rw [if_pos hk]
  cases e:findF us l ⟨n.nm,n.attr⟩ with
  | none=>rw [e] at hv;cases hv
  | some q=>
   obtain ⟨u,k',f⟩:=q
   rw [e] at hv
   simp only [Option.some.injEq] at hv
   by_cases c:f.kind=0
   ·exact .inr (.inr (.inl ⟨_,by simp [hk,c],rfl,by rw [←hv,if_pos c]⟩))
   ·exact .inr (.inr (.inr ⟨_,by simp [hk,c],rfl,by rw [←hv,if_neg c]⟩))
 ·rw [if_pos hk] at hv
  injection hv with hv
  exact .inl ⟨by simp [hk],by rw [if_neg (by omega)],hv.symm⟩
 ·rw [if_neg (by omega),if_pos hk] at hv
  injection hv with hv
  exact .inr (.inl ⟨by rw [if_neg (by omega)];simp [hk],by rw [if_neg (by omega)],hv.symm⟩)
theorem f115 (p:Po) (hp:p.uses.l.length≤1000) (l:Sl Sc) (hl:okL l) {i j:Nat} {a b:Nd} (ha:p.nodes.l[i]?=some a) (hb:p.nodes.l[j]?=some b) (ka:a.k=9∨a.k=10∨a.k=11) (kb:b.k=9∨b.k=10∨b.k=11)
  {va vb:VT} (hva:vtOf p.uses.l l.l a=some va) (hvb:vtOf p.uses.l l.l b=some vb) (h:Heap) :
  (mu K).fn 115 [p.av,l.avS Sc.av,.int .i64 (i:Int),.int .i64 (j:Int)] h=some (.val (.int .i64 (agreeV va vb)) h):=by
 have n1:=fun h=>f114 p hp l hl ha h
 have n2:=fun h=>f114 p hp l hl hb h
 have r1:=fun h=>f113 p hp l hl ha h
 have r2:=fun h=>f113 p hp l hl hb h
 have hix:=fun (k:IntKind)=>iaF_sl (av:=Nd.av) (sz:=6) (s:=p.nodes) (k:=k) (j:=(i:Int)) (x:=a) (by omega) (by simpa using ha) rfl
 have hiy:=fun (k:IntKind)=>iaF_sl (av:=Nd.av) (sz:=6) (s:=p.nodes) (k:=k) (j:=(j:Int)) (x:=b) (by omega) (by simpa using hb) rfl
 have ta:=vt_tri ka hva
 have tb:=vt_tri kb hvb
 have q1:=beq_avS _ beq_us p.uses
 have q2:=beq_avS _ beq_rf p.reveal
 have q3:=beq_avS _ beq_nd p.nodes
 have q4:=beq_avS _ beq_sc l
 have fl:∀ {n:Nd} {q},rfd p.uses.l l.l n=some q→q.2.2.words.l.length≤1000:=fun {n q} e=>by
  unfold rfd at e
  split at e
  ·obtain ⟨s,h1,h2⟩:=find_mem e
   exact ((hl.sc s h1).fields _ h2).len
  ·cases e
 rw [fn_go (KX _ _ _) fn115 rfl (by simp [c115])]
 rcases ta with ⟨a1,a2,rfl⟩ | ⟨a1,a2,rfl⟩ | ⟨⟨ua,wa,fa⟩,a1,a2,rfl⟩ | ⟨⟨ua,wa,fa⟩,a1,a2,rfl⟩
 ·rcases tb with ⟨b1,b2,rfl⟩ | ⟨b1,b2,rfl⟩ | ⟨⟨ub,wb,fb⟩,b1,b2,rfl⟩ | ⟨⟨ub,wb,fb⟩,b1,b2,rfl⟩<;>simp [c115,KL,lendF,n1,n2,a1,b1,q1,q2,q3,q4,agreeV]
 ·rcases tb with ⟨b1,b2,rfl⟩ | ⟨b1,b2,rfl⟩ | ⟨⟨ub,wb,fb⟩,b1,b2,rfl⟩ | ⟨⟨ub,wb,fb⟩,b1,b2,rfl⟩
  ·simp [c115,KL,lendF,n1,n2,a1,b1,q1,q2,q3,q4,agreeV]
  ·rw [a2] at r1
   rw [b2] at r2
   simp only [fdAV] at r1 r2
   simp [c115,KL,lendF,n1,n2,a1,b1,r1,r2,q1,q2,q3,q4,agreeV]
  ·simp [c115,KL,lendF,n1,n2,a1,b1,q1,q2,q3,q4,agreeV]
  ·rw [a2] at r1
   rw [b2] at r2
   simp only [fdAV] at r1 r2
   have k:=fun h=>f158 fb.words (fl b2) a.nm h
   by_cases m:a.nm∈fb.words.l
   ·simp only [decide_eq_true m] at k
    simp [c115,KL,lendF,n1,n2,a1,b1,r1,r2,q1,q2,q3,q4,agreeV,hix,hiy,k,m]
   ·simp only [decide_eq_false m] at k
    simp [c115,KL,lendF,n1,n2,a1,b1,r1,r2,q1,q2,q3,q4,agreeV,hix,hiy,k,m]
 ·rcases tb with ⟨b1,b2,rfl⟩ | ⟨b1,b2,rfl⟩ | ⟨⟨ub,wb,fb⟩,b1,b2,rfl⟩ | ⟨⟨ub,wb,fb⟩,b1,b2,rfl⟩<;>simp [c115,KL,lendF,n1,n2,a1,b1,q1,q2,q3,q4,agreeV]
 ·rcases tb with ⟨b1,b2,rfl⟩ | ⟨b1,b2,rfl⟩ | ⟨⟨ub,wb,fb⟩,b1,b2,rfl⟩ | ⟨⟨ub,wb,fb⟩,b1,b2,rfl⟩
  ·simp [c115,KL,lendF,n1,n2,a1,b1,q1,q2,q3,q4,agreeV]
  ·rw [a2] at r1
   rw [b2] at r2
   simp only [fdAV] at r1 r2
   have k:=fun h=>f158 fa.words (fl a2) b.nm h
   by_cases m:b.nm∈fa.words.l
   ·simp only [decide_eq_true m] at k
    simp [c115,KL,lendF,n1,n2,a1,b1,r1,r2,q1,q2,q3,q4,agreeV,hix,hiy,k,m]
   ·simp only [decide_eq_false m] at k
    simp [c115,KL,lendF,n1,n2,a1,b1,r1,r2,q1,q2,q3,q4,agreeV,hix,hiy,k,m]
  ·simp [c115,KL,lendF,n1,n2,a1,b1,q1,q2,q3,q4,agreeV]
  ·rw [a2] at r1
   rw [b2] at r2
   simp only [fdAV] at r1 r2
   have k:=fun h=>f157 fa.words fb.words (fl a2) h
   by_cases m:fa.words.l=fb.words.l
   ·simp only [decide_eq_true m] at k
    simp [c115,KL,lendF,n1,n2,a1,b1,r1,r2,q1,q2,q3,q4,agreeV,hix,hiy,k,m]
   ·simp only [decide_eq_false m] at k
    simp [c115,KL,lendF,n1,n2,a1,b1,r1,r2,q1,q2,q3,q4,agreeV,hix,hiy,k,m]
end Go.Ab.Pz
/-
  Conditions: the reference.
-/
namespace Go.Ab.Pz
open Go.Ab.Pol
set_option maxRecDepth 100000
set_option maxHeartbeats 1000000
def cdF (f:Nd→Option VT) (b:Bool) (t:Tr):Bool ⊕ Nat:=match f t.n with
 | none=>.inr t.i
 | some v=>.inl (b && isNum v)
theorem iter_cd (f:Nd→Option VT):∀ (ks:List Tr) (b:Bool),iter (cdF f) b ks=match kidsV f ks with
  | .inl i=>.inr i
  | .inr vs=>.inl (b && vs.all isNum)
 | [],b=>by simp [iter,kidsV]
 | t :: ks,b=>by
  simp only [iter,cdF,kidsV]
  cases e:f t.n with
  | none=>rfl
  | some v=>
   simp only [iter_cd f ks (b && isNum v)]
   cases kidsV f ks with
   | inl i=>rfl
   | inr vs=>simp [Bool.and_assoc]
def ag2F (f:Nd→Option VT) (v0:VT) (_:Unit) (t:Tr):Unit ⊕ Int:=match f t.n with
 | none=>.inl ()
 | some v=>if agreeV v0 v=0 then .inl () else .inr (agreeV v0 v)
theorem iter_ag2 (f:Nd→Option VT) (v0:VT):∀ (ks:List Tr) {vs:List VT},kidsV f ks=.inr vs→iter (ag2F f v0) () ks=if firstL v0 vs=0 then .inl () else .inr (firstL v0 vs)
 | [],vs,h=>by
  simp only [kidsV,Sum.inr.injEq] at h
  subst h
  rfl
 | t :: ks,vs,h=>by
  simp only [kidsV] at h
  simp only [iter,ag2F]
  cases e:f t.n with
  | none=>rw [e] at h;cases h
  | some v=>
   rw [e] at h
   simp only at h ⊢
   cases e2:kidsV f ks with
   | inl i=>rw [e2] at h;cases h
   | inr ws=>
    rw [e2] at h
    simp only [Sum.inr.injEq] at h
    subst h
    have ih:=iter_ag2 f v0 ks e2
    simp only [firstL]
    by_cases z:agreeV v0 v=0
    ·simp [z,ih]
    ·simp [z]
theorem num_val {us:List Us} {l:List Sc} {n:Nd} {v:VT} (hk:n.k=9∨n.k=10∨n.k=11) (hv:vtOf us l n=some v):numN1 us l n=isNum v:=by
 rcases vt_tri hk hv with ⟨a,_,rfl⟩ | ⟨a,_,rfl⟩ | ⟨q,a,_,rfl⟩ | ⟨q,a,_,rfl⟩<;>simp [a,isNum]
theorem rfd_none {us:List Us} {l:List Sc} {n:Nd} (hk:n.k=9∨n.k=10∨n.k=11):vtOf us l n=none↔(n.k=9∧rfd us l n=none):=by
 unfold vtOf rfd
 rcases hk with hk | hk | hk
 ·rw [if_neg (by omega),if_neg (by omega),if_pos hk]
  cases findF us l ⟨n.nm,n.attr⟩ with
  | none=>simp [hk]
  | some q=>obtain ⟨u,k,f⟩:=q;simp
 ·rw [if_pos hk];simp;omega
 ·rw [if_neg (by omega),if_pos hk];simp;omega
theorem condV_6a {n:Nd} {vs:List VT} (hk:n.k=6) (h:n.num=0∨n.num=1∨vs.all isNum=true):condV n vs=firstA vs:=by
 unfold condV
 rw [if_pos hk,if_neg]
 rintro ⟨a,b,c⟩
 rcases h with h | h | h
 ·exact a h
 ·exact b h
 ·rw [h] at c;cases c
theorem condV_6b {n:Nd} {vs:List VT} (hk:n.k=6) (h0:¬ n.num=0) (h1:¬ n.num=1) (ha:vs.all isNum=false):condV n vs=10:=by
 unfold condV
 rw [if_pos hk,if_pos ⟨h0,h1,ha⟩]
theorem condV_7 {n:Nd} {vs:List VT} (hk:n.k=7):condV n vs=if vs.all isNum=false then 10 else 0:=by
 unfold condV
 rw [if_neg (by omega),if_pos hk]
theorem condV_8 {n:Nd} {vs:List VT} (hk:n.k=8):condV n vs=firstA vs:=by
 unfold condV
 rw [if_neg (by omega),if_neg (by omega)]
theorem f66 (p:Po) (hp:Sz p) (l:Sl Sc) (hl:okL l):∀ (t:Tr) {c:Bool},IsT p.nodes.l t→WF t c→(t.n.k=6∨t.n.k=7∨t.n.k=8)→∀ (h:Heap),
  (mu K).fn 66 [p.av,l.avS Sc.av,.int .i64 (t.i:Int)] h=some (.val (.tup [.int .i64 (condE (vtOf p.uses.l l.l) t).1,.int .i64 (condE (vtOf p.uses.l l.l) t).2]) h)
 | .nd i n ks,c,⟨hn,hkk,hts⟩,hw,hkT,h=>by
  obtain ⟨k0,k12,_,hko,_⟩:=form_parts hw.1
  have hmem:n∈p.nodes.l:=List.mem_of_getElem? hn
  have hkl:=(hp.nodes.2 n hmem).2
  have hk:n.k=6∨n.k=7∨n.k=8:=hkT
  clear hkT
  have hix:=fun (k:IntKind)=>iaF_sl (av:=Nd.av) (sz:=6) (s:=p.nodes) (k:=k) (j:=(i:Int)) (x:=n) (by omega) (by simpa using hn) rfl
  have hlk:n.kids.l.length=ks.length:=by rw [hkk];simp
  have hvl:∀ x∈ks,x.n.k=9∨x.n.k=10∨x.n.k=11:=fun x hx=>by
   have w:=(wfs_iff.1 hw.2) x hx
   rw [decide_eq_false (by omega)] at w
   exact wf_val w
  have hxn:∀ x∈ks,p.nodes.l[x.i]?=some x.n:=fun x hx=>by
   have q:=(isTs_iff.1 hts) x hx
   cases x with
   | nd a b c=>exact q.1
  have hk2:2≤ks.length:=by
   rw [hlk] at hko
   unfold kidsOk at hko
   rcases hk with q | q | q
   ·rw [if_neg (by omega),if_neg (by omega),if_neg (by omega),if_pos q] at hko
    simp at hko;omega
   ·rw [if_neg (by omega),if_neg (by omega),if_neg (by omega),if_neg (by omega),if_pos q] at hko
    simp at hko;omega
   ·rw [if_neg (by omega),if_neg (by omega),if_neg (by omega),if_neg (by omega),if_neg (by omega),if_pos q] at hko
    simpa using hko
  have key:=loop_iter (K:=K) (n:=2) (live:=[1,2,3,8,9,10]) (a:=l66_0) (cdF (vtOf p.uses.l l.l))
   (fun pre b=>⟨[(1,l.avS Sc.av),(2,.int .i64 (i:Int)),(3,.ptr (h.length,0) 0),(8,.ptr (h.length,1) 0),(9,.bool b),(10,.int .i64 (pre.length:Int))],[.box 26 false p.av,.box 63 false n.av] :: h⟩) (fun _ _=>True)
   (fun b o=>∃ env,o=some (.exit 0,⟨env,[.box 26 false p.av,.box 63 false n.av] :: h⟩)∧get env 1=l.avS Sc.av∧get env 2=.int .i64 (i:Int)∧get env 3=.ptr (h.length,0) 0∧get env 8=.ptr (h.length,1) 0∧get env 9=.bool b)
   (fun j o=>∃ env R,o=some (.ret,⟨env,R :: h⟩)∧get env 6=.int .i64 (j:Int)∧get env 7=.int .i64 9) ks
   (fun pre x r b hl' _=>by
    obtain ⟨h1,h2,w1⟩:=idx_facts hl' (by omega)
    have hxm:x∈ks:=by rw [hl'];simp
    have g2:n.kids.l[pre.length]?=some (x.i:Int):=by rw [hkk,List.getElem?_map,h2];rfl
    have hiy:=fun (k:IntKind)=>iaF_sl (av:=iV) (sz:=1) (s:=n.kids) (k:=k) (j:=(pre.length:Int)) (x:=(x.i:Int)) (by omega) (by simpa using g2) rfl
    have hiz:=fun (k:IntKind)=>iaF_sl (av:=Nd.av) (sz:=6) (s:=p.nodes) (k:=k) (j:=(x.i:Int)) (x:=x.n) (by omega) (by simpa using hxn x hxm) rfl
    have k1:=fun h=>f113 p hp.uses.1 l hl (hxn x hxm) h
    have k2:=fun h=>f114 p hp.uses.1 l hl (hxn x hxm) h
    have e1:=rfd_none (us:=p.uses.l) (l:=l.l) (hvl x hxm)
    have e2:=fun v=>num_val (us:=p.uses.l) (l:=l.l) (v:=v) (hvl x hxm)
    have h1':((pre.length:Int) < (n.kids.l.length:Int)):=by rw [hlk];exact h1
    rw [loop_go]
    generalize (mu K).code (.loopAt 2 [1,2,3,8,9,10] l66_0)=F
    clear hl'
    unfold cdF
    cases e:vtOf p.uses.l l.l x.n with
    | none=>
     obtain ⟨e3,e4⟩:=e1.1 e
     rw [e4] at k1
     simp only [fdAV] at k1
     have d3:(x.n.k=9)=True:=by simp [e3]
     simp [l66_0,KL,lendF,h1',hiy,hiz,w1,k1,d3]
    | some v=>
     rw [e2 v e] at k2
     by_cases c9:x.n.k=9
     ·cases e5:rfd p.uses.l l.l x.n with
      | none=>exact absurd (e1.2 ⟨c9,e5⟩) (by rw [e];simp)
      | some q=>
       obtain ⟨u,k',f⟩:=q
       rw [e5] at k1
       simp only [fdAV] at k1
       cases b
       ·simp [l66_0,KL,lendF,h1',hiy,hiz,w1,k1]
       ·simp [l66_0,KL,lendF,h1',hiy,hiz,w1,k1,k2]
     ·have e5:rfd p.uses.l l.l x.n=none:=by unfold rfd;rw [if_neg c9]
      rw [e5] at k1
      simp only [fdAV] at k1
      cases b
      ·simp [l66_0,KL,lendF,h1',hiy,hiz,w1,k1,c9]
      ·simp [l66_0,KL,lendF,h1',hiy,hiz,w1,k1,k2,c9])
   (fun b _=>by
    rw [loop_go]
    generalize (mu K).code (.loopAt 2 [1,2,3,8,9,10] l66_0)=F
    simp [l66_0,hlk]) true trivial
  simp only [List.length_nil,Int.natCast_zero] at key
  rw [iter_cd] at key
  rw [fn_go (KX _ _ _) fn66 rfl (by simp [c66])]
  simp only [condE,Tr.i]
  rw [if_pos hk]
  cases ev:kidsV (vtOf p.uses.l l.l) ks with
  | inl j=>
   rw [ev] at key
   obtain ⟨env,R,k,g6,g7⟩:=key
   simp [c66,KL,lendF,hix,k,g6,g7]
  | inr vs=>
   rw [ev] at key
   simp only [Bool.true_and] at key
   obtain ⟨_,env,k,g1,g2,g3,g8,g9⟩:=key
   simp only
   obtain ⟨t0,ks',rfl⟩:∃ t0 ks',ks=t0 :: ks':=by
    cases ks with
    | nil=>simp at hk2
    | cons a b=>exact ⟨a,b,rfl⟩
   have hvs:=kidsV_inr ev
   obtain ⟨v0,vs',rfl⟩:∃ v0 vs',vs=v0 :: vs':=by
    cases vs with
    | nil=>simp at hvs
    | cons a b=>exact ⟨a,b,rfl⟩
   simp only [List.map_cons,List.cons.injEq] at hvs
   have ev':kidsV (vtOf p.uses.l l.l) ks'=.inr vs':=by
    simp only [kidsV,hvs.1] at ev
    cases e2:kidsV (vtOf p.uses.l l.l) ks' with
    | inl i=>rw [e2] at ev;cases ev
    | inr ws=>
     rw [e2] at ev
     simp only [Sum.inr.injEq,List.cons.injEq] at ev
     rw [ev.2]
   have h0m:t0∈t0 :: ks':=by simp
   have gk0:n.kids.l[0]?=some (t0.i:Int):=by rw [hkk];rfl
   have hi0:=fun (k:IntKind)=>iaF_sl (av:=iV) (sz:=1) (s:=n.kids) (k:=k) (j:=0) (x:=(t0.i:Int)) (by omega) (by simpa using gk0) rfl
   have q1:=beq_avS _ beq_us p.uses
   have q2:=beq_avS _ beq_rf p.reveal
   have q3:=beq_avS _ beq_nd p.nodes
   have q4:=beq_avS _ beq_sc l
   have q5:=beq_avS _ beq_iV n.kids
   have hlk':n.kids.l.length=ks'.length+1:=by rw [hlk];simp
   have key1:=loop_iter (K:=K) (n:=2) (live:=[1,2,3,8,14]) (a:=l66_1) (ag2F (vtOf p.uses.l l.l) v0)
    (fun pre b=>⟨[(1,l.avS Sc.av),(2,.int .i64 (i:Int)),(3,.ptr (h.length,0) 0),(8,.ptr (h.length,1) 0),(14,.int .i64 ((pre.length:Int)+1))],[.box 26 false p.av,.box 63 false n.av] :: h⟩) (fun _ _=>True)
    (fun b o=>∃ env,o=some (.exit 2,⟨env,[.box 26 false p.av,.box 63 false n.av] :: h⟩))
    (fun e o=>∃ env R,o=some (.ret,⟨env,R :: h⟩)∧get env 6=.int .i64 (i:Int)∧get env 7=.int .i64 e) ks'
    (fun pre x r b hl' _=>by
     obtain ⟨h1,h2,w1⟩:=idx_facts hl' (by omega)
     have hxm:x∈t0 :: ks':=by rw [hl'];simp
     have g2:n.kids.l[pre.length+1]?=some (x.i:Int):=by rw [hkk];simp [h2]
     have hiy:=fun (k:IntKind)=>iaF_sl (av:=iV) (sz:=1) (s:=n.kids) (k:=k) (j:=(pre.length:Int)+1) (x:=(x.i:Int)) (by omega) (by
      have e:((pre.length:Int)+1).toNat=pre.length+1:=by omega
      rw [e];exact g2) rfl
     have hlen:ks'.length=pre.length+(r.length+1):=by rw [hl'];simp
     have h1':(((pre.length:Int)+1) < (n.kids.l.length:Int))=True:=by rw [hlk'];simp;omega
     have w2:IntKind.i64.wrap ((pre.length:Int)+1+1)=(pre.length:Int)+1+1:=wrap64 (by omega) (by omega)
     rw [loop_go]
     generalize (mu K).code (.loopAt 2 [1,2,3,8,14] l66_1)=F
     unfold ag2F
     cases e:vtOf p.uses.l l.l x.n with
     | none=>
      exfalso
      have hh:∀ (ks:List Tr) (vs:List VT),kidsV (vtOf p.uses.l l.l) ks=.inr vs→∀ y∈ks,vtOf p.uses.l l.l y.n≠none:=fun ks vs hv y hy q=>by
       have:=kidsV_inr hv
       have m:vtOf p.uses.l l.l y.n∈vs.map some:=by rw [←this];exact List.mem_map.2 ⟨y,hy,rfl⟩
       rw [q] at m
       simp at m
      exact hh ks' vs' ev' x (by rw [hl'];simp) e
     | some v=>
      have k3:=fun h=>f115 p hp.uses.1 l hl (hxn t0 h0m) (hxn x hxm) (hvl t0 h0m) (hvl x hxm) hvs.1 e h
      clear hl'
      simp only
      generalize agreeV v0 v=ee at *
      by_cases z:ee=0
      ·subst z
       simp [l66_1,KL,lendF,h1',hi0,hiy,w2,k3,q1,q2,q3,q4,q5]
      ·simp [l66_1,KL,lendF,h1',hi0,hiy,w2,k3,q1,q2,q3,q4,q5,z])
    (fun b _=>by
     rw [loop_go]
     generalize (mu K).code (.loopAt 2 [1,2,3,8,14] l66_1)=F
     simp [l66_1,hlk']) () trivial
   simp only [List.length_nil,Int.natCast_zero,Int.zero_add] at key1
   rw [iter_ag2 _ _ _ ev'] at key1
   have hF:firstA (v0 :: vs')=firstL v0 vs':=rfl
   rcases hk with q | q | q
   ·by_cases c0:n.num=0
    ·have d0:(n.num=0)=True:=by simp [c0]
     rw [condV_6a q (.inl c0),hF]
     generalize (v0 :: vs').all isNum=al at *
     by_cases z:firstL v0 vs'=0
     ·rw [if_pos z] at key1
      obtain ⟨_,env1,kk⟩:=key1
      cases al<;>simp [c66,KL,lendF,hix,k,g1,g2,g3,g8,g9,q,d0,kk,z]
     ·rw [if_neg z] at key1
      obtain ⟨env1,R1,kk,e6,e7⟩:=key1
      cases al<;>simp [c66,KL,lendF,hix,k,g1,g2,g3,g8,g9,q,d0,kk,e6,e7,z]
    by_cases c1:n.num=1
    ·have d1:(n.num=1)=True:=by simp [c1]
     have d0:(n.num=0)=False:=by simp [c0]
     rw [condV_6a q (.inr (.inl c1)),hF]
     generalize (v0 :: vs').all isNum=al at *
     by_cases z:firstL v0 vs'=0
     ·rw [if_pos z] at key1
      obtain ⟨_,env1,kk⟩:=key1
      cases al<;>simp [c66,KL,lendF,hix,k,g1,g2,g3,g8,g9,q,d0,d1,kk,z]
     ·rw [if_neg z] at key1
      obtain ⟨env1,R1,kk,e6,e7⟩:=key1
      cases al<;>simp [c66,KL,lendF,hix,k,g1,g2,g3,g8,g9,q,d0,d1,kk,e6,e7,z]
    cases ha:(v0 :: vs').all isNum
    ·rw [ha] at g9
     rw [condV_6b q c0 c1 ha]
     simp [c66,KL,lendF,hix,k,g1,g2,g3,g8,g9,q,c0,c1]
    ·rw [ha] at g9
     rw [condV_6a q (.inr (.inr ha)),hF]
     by_cases z:firstL v0 vs'=0
     ·rw [if_pos z] at key1
      obtain ⟨_,env1,kk⟩:=key1
      simp [c66,KL,lendF,hix,k,g1,g2,g3,g8,g9,q,c0,c1,kk,z]
     ·rw [if_neg z] at key1
      obtain ⟨env1,R1,kk,e6,e7⟩:=key1
      simp [c66,KL,lendF,hix,k,g1,g2,g3,g8,g9,q,c0,c1,kk,e6,e7,z]
   ·rw [condV_7 q]
    generalize (v0 :: vs').all isNum=al at *
    cases al
    ·simp [c66,KL,lendF,hix,k,g1,g2,g3,g8,g9,q]
    ·simp [c66,KL,lendF,hix,k,g1,g2,g3,g8,g9,q]
   ·rw [condV_8 q,hF]
    generalize (v0 :: vs').all isNum=al at *
    by_cases z:firstL v0 vs'=0
    ·rw [if_pos z] at key1
     obtain ⟨_,env1,kk⟩:=key1
     cases al<;>simp [c66,KL,lendF,hix,k,g1,g2,g3,g8,g9,q,kk,z]
    ·rw [if_neg z] at key1
     obtain ⟨env1,R1,kk,e6,e7⟩:=key1
     cases al<;>simp [c66,KL,lendF,hix,k,g1,g2,g3,g8,g9,q,kk,e6,e7,z]
end Go.Ab.Pz
