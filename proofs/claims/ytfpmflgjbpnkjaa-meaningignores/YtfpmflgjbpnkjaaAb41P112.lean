/-
  The statement MeaningIgnores on the evaluator: all together.
-/
import Derived.Test.YtfpmflgjbpnkjaaAb41P111
set_option linter.unusedVariables false
set_option linter.unusedSimpArgs false
set_option linter.unusedSectionVars false
namespace Go.Ab.Pl
open Go.Ab.Pol
set_option maxRecDepth 100000
set_option maxHeartbeats 4000000
section
variable (p:Po) (z:Sz p) (l:Sl Sc) (zl:okL l) (hr:readyE p l.l=0) (xs:Sl (Sl Int)) (a0 a1 n:Int) (a:Bool) (i k:Nat) (hk:k≤1000000) (L:List Rf) (hL:L.length≤1000000) (hf:∀ r∈L,∃ q,findF p.uses.l l.l r=some q∧q.2.1≤1000000)
 (k27:∀ h,(mu K2).fn 27 [p.av] h=some (.val (.lst (L.map Rf.av)) h)) (env:Env) (g2:get env 2=iV n) (g3:get env 3=.ptr (0,0) 0) (g7:get env 7=.bool a) (g9:get env 9=iV (i:Int)) (g10:get env 10=iV (k:Int))
include z zl hr hk hL hf k27 g2 g3 g7 g9 g10
theorem p19_b1 (hno:(L.all fun r=>!plB p l.l i k r)=true) :
  ∃ env',evC K2 (mu K2) p19_7 ⟨env,[[.box 83 false (caseAV p l xs),b94 a0 a1]]⟩=some (.norm,⟨env',[[.box 83 false (caseAV p l xs),b94 a0 a1]]⟩) ∧
   get env' 2=iV n∧get env' 3=.ptr (0,0) 0∧get env' 7=.bool a∧get env' 9=iV (i:Int)∧get env' 10=iV (k:Int):=by
 obtain ⟨env2,kl,b2,b3,b7,b9,b10⟩:=(l19_0_ok p z l zl hr xs a0 a1 n a i k hk L hL hf).1 hno
 have q1:=beq_avS _ beq_us p.uses
 have q2:=beq_avS _ beq_rf p.reveal
 have q3:=beq_avS _ beq_nd p.nodes
 have hLl:(L.map Rf.av).length=L.length:=by simp
 generalize L.map Rf.av=LA at *
 simp only [caseAV,Po.cs,List.cons_append,List.nil_append] at kl ⊢
 simp [p19_7,KL2,lendF,g2,g3,g7,g9,g10,k27,kl,b2,b3,b7,b9,b10,hLl,q1,q2,q3]
theorem p19_b2 (hno:(L.all fun r=>!plB p l.l i k r)=false) :
  ∃ env' R,evC K2 (mu K2) p19_7 ⟨env,[[.box 83 false (caseAV p l xs),b94 a0 a1]]⟩=some (.ret,⟨env',[R]⟩)∧get env' 6=.bool true:=by
 obtain ⟨env2,R,kl,b6⟩:=(l19_0_ok p z l zl hr xs a0 a1 n a i k hk L hL hf).2 hno
 have q1:=beq_avS _ beq_us p.uses
 have q2:=beq_avS _ beq_rf p.reveal
 have q3:=beq_avS _ beq_nd p.nodes
 have hLl:(L.map Rf.av).length=L.length:=by simp
 generalize L.map Rf.av=LA at *
 simp only [caseAV,Po.cs,List.cons_append,List.nil_append] at kl ⊢
 simp [p19_7,KL2,lendF,g2,g3,g7,g9,g10,k27,kl,b6,hLl,q1,q2,q3]
end
theorem go2_assoc (a b:CC) (s:Option (Ex×St)):goS K2 (mu K2) (.seq a b) s=goS K2 (mu K2) b (goS K2 (mu K2) a s):=by
 cases s with
 | none=>rfl
 | some q=>
  obtain ⟨ex,s1⟩:=q
  cases ex<;>simp only [goS,c_seq]
theorem refs_len2 {p:Po} {t:Tr} (h:Pol.IsT p.nodes.l t) (hn:t.subs.length≤1000):(refsP p t).length≤1000000:=by
 rw [refsP_T h]
 unfold refsT
 have:∀ (l:List Tr) (acc:List Rf),(l.foldl (fun acc s=>addR acc s.n) acc).length≤acc.length+l.length:=fun l=>by
  induction l with
  | nil=>intro acc;simp
  | cons x l ih=>
   intro acc
   have h1:=ih (addR acc x.n)
   have h2:(addR acc x.n).length≤acc.length+1:=by
    unfold addR
    split
    ·split<;>simp
    ·simp
   simp only [List.foldl_cons,List.length_cons]
   omega
 have:=this t.subs []
 simp only [List.length_nil] at this
 omega
theorem ret19 (env:Env) (R:List Blk) (g:get env 6=.bool true):goF c19.res (some (.ret,⟨env,[R]⟩))=some (.val (.bool true) []):=by
 simp [c19,g]
theorem few45_rows {p:Po} {l:List Sc} {xs:List (Sl Int)} (h:few45 p l xs=true):xs.length≤8∧∀ r∈xs,r.l.length≤20:=by
 unfold few45 at h
 simp only [Bool.and_eq_true,decide_eq_true_eq] at h
 obtain ⟨⟨⟨h1,_⟩,_⟩,h2⟩:=h
 rw [List.take_of_length_le (by omega)] at h1
 refine ⟨h2,fun r hr=>?_⟩
 have:=List.all_eq_true.1 h1 r hr
 unfold shX at this
 simpa using this
theorem findF_le {p:Po} {l:Sl Sc} (zl:okL l) {r:Rf} {q:Nat×Nat×Pol.Fd} (h:findF p.uses.l l.l r=some q):q.2.1≤1000000:=by
 obtain ⟨u,j,f⟩:=q
 obtain ⟨nm,attr⟩:=r
 obtain ⟨x,s,_,_,h3,_,h5,h6⟩:=findF_some h
 have:=(zl.sc s (scN_of h3).1).len
 have:=(List.getElem?_eq_some_iff.1 h6).1
 simp only
 omega
theorem wf_u8b {n:Int} (h:okI .u8 n):0≤n∧n≤255:=by
 have e1:IntKind.u8.min=0:=by decide
 have e2:IntKind.u8.max=255:=by decide
 have h:(Lit.int .u8 n).wf=true:=h
 simp only [Lit.wf,Bool.and_eq_true,decide_eq_true_eq,e1,e2] at h
 exact h
theorem law19 (p:Po) (hp:aPo p) (l:Sl Sc) (hl:okSl aSc l) (xs:Sl (Sl Int)) (a0 a1 n:Int) (h0:okI .u8 a0) (h1:okI .u8 a1):(mu K2).fn 19 [caseAV p l xs,atAV2 a0 a1,iV n] []=some (.val (.bool true) []):=by
 have k51:=fun h=>up (f51 p l (fun s hs=>(hl.2 s hs).fields.1) hl.1 xs h)
 have q1:=beq_avS _ beq_us p.uses
 have q2:=beq_avS _ beq_rf p.reveal
 have q3:=beq_avS _ beq_nd p.nodes
 have q4:=beq_avS _ beq_sc l
 have q5:=beq_avS _ beq_ints xs
 have aw:=fun f=>up (awake45 f)
 rw [fn_go (KX2 _ _ _) (fn2 fn19) p19_body (by simp [c19])]
 cases hf:few45 p l.l xs.l
 ·rw [hf] at k51
  simp only [caseAV,Po.cs,List.cons_append,List.nil_append] at k51 ⊢
  simp [p19_0,p19_1,c19,KL2,lendF,k51,aw,q1,q2,q3,q4,q5]
 rw [hf] at k51
 by_cases hx0:xs.l=[]
 ·have z1:((xs.l.length:Int)=0)=True:=eq_true (by simp [hx0])
  have z1':(xs.l.length=0)=True:=eq_true (by simp [hx0])
  simp only [caseAV,Po.cs,List.cons_append,List.nil_append] at k51 ⊢
  simp [p19_0,p19_1,c19,KL2,lendF,k51,aw,q1,q2,q3,q4,q5,hx0]
 have z1:((xs.l.length:Int)=0)=False:=by simp;exact hx0
 have z1':(xs.l=[])=False:=eq_false hx0
 obtain ⟨z,zl⟩:=few45_sz hp hl hf
 obtain ⟨hx8,hx20⟩:=few45_rows hf
 obtain ⟨t,ht⟩:=tree_of45 p
 by_cases hme:meanE p l.l t xs.l=0
 case neg=>
  have k54:=fun h=>up (f54_0 p z l zl t ht xs hme h)
  simp only [caseAV,Po.cs,List.cons_append,List.nil_append] at k51 k54 ⊢
  simp [p19_0,p19_1,p19_2,p19_3,c19,KL2,lendF,k51,k54,hme,aw,q1,q2,q3,q4,q5,z1,z1']
 have hty:(typT p l.l t).2=0:=by
  unfold meanE at hme
  by_cases c:(typT p l.l t).2=0
  ·exact c
  ·rw [if_pos c] at hme;exact absurd hme c
 have ha:admE p l.l xs.l=0:=by
  unfold meanE at hme
  rw [if_neg (by simp [hty])] at hme
  exact hme
 obtain ⟨hF,_⟩:=fit_of hty
 have g:=ht (ready_of hF.ready).chk
 have k54:=fun h=>up (f54_1 p z l zl t g xs hF ha h)
 have hw0:=wf_u8b h0
 have hw1:=wf_u8b h1
 obtain ⟨b0,rfl⟩:∃ b:Nat,a0=(b:Int):=⟨a0.toNat,by omega⟩
 obtain ⟨b1,rfl⟩:∃ b:Nat,a1=(b:Int):=⟨a1.toNat,by omega⟩
 have wa:IntKind.i64.wrap (b0:Int)=(b0:Int):=wrap64 (by omega) (by omega)
 have wb:IntKind.i64.wrap (b1:Int)=(b1:Int):=wrap64 (by omega) (by omega)
 have hpos:0 < xs.l.length:=List.length_pos_iff.2 hx0
 have hi:((b0:Int).tmod (xs.l.length:Int))=((b0 % xs.l.length:Nat):Int):=(Int.ofNat_tmod _ _).symm
 have hil:b0 % xs.l.length < xs.l.length:=Nat.mod_lt _ hpos
 generalize b0 % xs.l.length=i at *
 have wi:IntKind.i64.wrap (i:Int)=(i:Int):=wrap64 (by omega) (by omega)
 obtain ⟨r,hrr⟩:∃ r,xs.l[i]?=some r:=⟨_,List.getElem?_eq_getElem hil⟩
 have hix:=fun (kk:IntKind)=>iaF_sl (av:=fun s:Sl Int=>s.avS iV) (sz:=1) (s:=xs) (k:=kk) (j:=(i:Int)) (x:=r) (by omega) (by simpa using hrr) (cells_avS iV r)
 have qr:=beq_avS _ beq_iV r
 by_cases hrl:r.l=[]
 ·have z2:(r.l.length=0)=True:=eq_true (by simp [hrl])
  simp only [caseAV,Po.cs,List.cons_append,List.nil_append] at k51 k54 ⊢
  simp [p19_0,p19_1,p19_2,p19_3,p19_4,p19_5,c19,KL2,lendF,k51,k54,aw,q1,q2,q3,q4,q5,z1,z1',wa,wi,hi,hix,qr,hrl]
 have hrpos:0 < r.l.length:=List.length_pos_iff.2 hrl
 have hk:((b1:Int).tmod (r.l.length:Int))=((b1 % r.l.length:Nat):Int):=(Int.ofNat_tmod _ _).symm
 have hkl:b1 % r.l.length < r.l.length:=Nat.mod_lt _ hrpos
 have hr20:=hx20 r (List.mem_of_getElem? hrr)
 generalize b1 % r.l.length=k at *
 have wk:IntKind.i64.wrap (k:Int)=(k:Int):=wrap64 (by omega) (by omega)
 have lp:t.subs.length≤1000:=by
  have e:t.subs.length=t.pre.length:=by rw [pre_subs];simp
  have:=g.sizes.1
  rw [e,g.all];omega
 have rp:=refs_len2 g.isT lp
 have hfd:∀ r∈refsP p t,∃ q,findF p.uses.l l.l r=some q∧q.2.1≤1000000:=fun r hr=>by
  obtain ⟨q,e⟩:=ref_field g hF hr
  exact ⟨q,e,findF_le zl e⟩
 have k27:=fun h=>f27 p z t g h
 generalize hA:truth (vlOf p l.l xs.l) t=a at *
 obtain ⟨e1,x1,g2,g3,g7,g9,g10⟩:=p19_a p l xs (b0:Int) (b1:Int) n a i k k51 hx0 k54 wa wb r hrr hrl hi hk wi wk
 have hassoc:evC K2 (mu K2) (.seq p19_0 (.seq p19_1 (.seq p19_2 (.seq p19_3 (.seq p19_4 (.seq p19_5 (.seq p19_6 (.seq p19_7 (.seq p19_8 (.seq p19_9 (.seq p19_10 (.seq p19_11 (.seq p19_12 p19_13))))))))))))) ⟨envOf 0 [caseAV p l xs,atAV2 (b0:Int) (b1:Int),iV n],[] :: []⟩ =
   goS K2 (mu K2) (.seq p19_7 (.seq p19_8 (.seq p19_9 (.seq p19_10 (.seq p19_11 (.seq p19_12 p19_13)))))) (evC K2 (mu K2) (.seq p19_0 (.seq p19_1 (.seq p19_2 (.seq p19_3 (.seq p19_4 (.seq p19_5 p19_6)))))) ⟨envOf 0 [caseAV p l xs,atAV2 (b0:Int) (b1:Int),iV n],[[]]⟩):=by
  simp only [c_seq]
  generalize evC K2 (mu K2) p19_0 ⟨envOf 0 [caseAV p l xs,atAV2 (b0:Int) (b1:Int),iV n],[[]]⟩=s0
  simp only [go2_assoc]
 rw [hassoc,x1,goS_norm,c_seq]
 cases hno:(refsP p t).all fun r=>!plB p l.l i k r with
 | false=>
  obtain ⟨e2,R,x2,g6⟩:=p19_b2 p z l zl hF.ready xs (b0:Int) (b1:Int) n a i k (by omega) (refsP p t) rp hfd k27 e1 g2 g3 g7 g9 g10 hno
  rw [x2,goS_ret]
  exact ret19 e2 R g6
 | true=>
  obtain ⟨e2,x2,c2,c3,c7,c9,c10⟩:=p19_b1 p z l zl hF.ready xs (b0:Int) (b1:Int) n a i k (by omega) (refsP p t) rp hfd k27 e1 g2 g3 g7 g9 g10 hno
  obtain ⟨e3,x3,d2,d3,d7,d9,d10,d16⟩:=p19_c p l xs (b0:Int) (b1:Int) n a i k (by omega) e2 c2 c3 c7 c9 c10
  obtain ⟨e4,x4,f2,f3,f7,f9,f10,f16⟩:=p19_d p l xs (b0:Int) (b1:Int) n a i k (by omega) (fun r hr=>by have:=hx20 r hr;omega) e3 d2 d3 d7 d9 d10 d16
  obtain ⟨e5,x5,u3,u7,u16⟩:=p19_e p l xs (b0:Int) (b1:Int) n a i k r hrr hrl hkl e4 f2 f3 f7 f9 f10 f16
  rw [x2,goS_norm,c_seq,x3,goS_norm,c_seq,x4,goS_norm,c_seq,x5,goS_norm]
  have hign:∀ r∈refsP p t,∀ u j f,findF p.uses.l l.l r=some (u,j,f)→¬ (i=u∧k=j):=fun r hr u j f e hh=>by
   have:=List.all_eq_true.1 hno r hr
   unfold plB at this
   rw [e] at this
   simp [hh.1,hh.2] at this
  have htr:=ign_truth (xs:=xs.l) g n hign
  have exs:xsAV ⟨false,setR xs.l i k n⟩=.lst ((setR xs.l i k n).map fun r=>r.avS iV):=by simp [xsAV,Sl.avS]
  rcases adm_set (i:=i) (k:=k) (n:=n) ha with hs | hs
  ·have kk:=fun h=>up (f54_1 p z l zl t g ⟨false,setR xs.l i k n⟩ hF hs h)
   simp only [exs] at kk
   rw [←htr,hA] at kk
   exact p19_f p l xs (b0:Int) (b1:Int) a (setR xs.l i k n) (setR_len _ _ _ _) a 0 (.inr ⟨rfl,rfl⟩) kk e5 u3 u7 u16
  ·have hm2:meanE p l.l t (setR xs.l i k n)=2:=by unfold meanE;rw [if_neg (by simp [hty]),hs]
   have kk:=fun h=>up (f54_0 p z l zl t ht ⟨false,setR xs.l i k n⟩ (by rw [hm2];decide) h)
   simp only [exs,hm2] at kk
   exact p19_f p l xs (b0:Int) (b1:Int) a (setR xs.l i k n) (setR_len _ _ _ _) false 2 (.inl rfl) kk e5 u3 u7 u16
end Go.Ab.Pl
