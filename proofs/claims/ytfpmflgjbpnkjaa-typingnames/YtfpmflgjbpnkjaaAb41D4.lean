/-
  The statements of chapter 44 on the evaluator: a schema that is missing, a schema that is given twice.
-/
import Derived.Test.YtfpmflgjbpnkjaaAb41D3
import Derived.Test.YtfpmflgjbpnkjaaAb41P26
import Derived.Test.YtfpmflgjbpnkjaaAbNames
set_option linter.unusedVariables false
set_option linter.unusedSimpArgs false
set_option linter.unusedSectionVars false
namespace Go.Ab.Pl
open Go.Ab Go.Ab.Pol Go.Proofs Go.RowKit
set_option maxRecDepth 100000
set_option maxHeartbeats 2000000
def delX (f:FuncId) (args:List AV) (h:Heap):Option Out:=match args with
 | [.own a m,.int .i64 i,.int .i64 j]=>if f=48∧h≠[]∧0≤i∧j=i+1∧i < (m:Int) then (match hget h a with
   | some (.arr t s false es)=>if t=67∧s=2∧es.length=m then some (.val (.own (hnext h) (m - 1)) (hnew (hset h a .dead) (.arr 67 2 false (es.eraseIdx i.toNat)))) else none
   | _=>none) else none
 | _=>none
theorem delX_ok:∀ f args h out,delX f args h=some out→Enterable Try.prog f∧∀ (w:World) (G:Gm) (xs:Array Value),Sim w G h→ArgsRel w G (dom h) args xs→Calls Try.prog f xs w (EndRel w G h out):=fun f args h out e=>by
 unfold delX at e
 split at e
 ·rename_i a m i j
  split at e
  ·rename_i c
   obtain ⟨rfl,hn,h0,rfl,hi⟩:=c
   split at e
   ·rename_i t s es hg
    split at e
    ·rename_i c2
     obtain ⟨rfl,rfl,hl⟩:=c2
     injection e with e
     subst e
     obtain ⟨i,rfl⟩:=Int.eq_ofNat_of_zero_le h0
     refine ⟨fun args w=>enter_fn Try.func48 (by kernel_rfl) rfl args w,fun w G xs hs ha=>?_⟩
     exact del_ok hs hn ha hg hl (by omega)
    ·cases e
   ·cases e
  ·cases e
 ·cases e
noncomputable def K3:Cfg:=K.know delX
theorem sound3:FnSound Try.prog (mu K3):=know_sound rfl rfl cmpX_ok delX_ok
theorem up3 {f:FuncId} {a:List AV} {h:Heap} {r:Out} (e:(mu K).fn f a h=some r):(mu K3).fn f a h=some r:=(know_up K delX).fn _ _ _ _ e
theorem delX_no {f:FuncId} (hf:f≠48) (args:List AV) (h:Heap):delX f args h=none:=by
 unfold delX
 split
 ·rw [if_neg (fun c=>hf c.1)]
 ·rfl
theorem KX3 (f:FuncId) (a:List AV) (h:Heap) (h1:hkF f=false:=by rfl) (h2:f≠48:=by decide):K3.X f a h=none:=by
 show (match K.X f a h with
   | some r=>some r
   | none=>(match delX f a h with
    | some r=>(match (mu K).fn f a h with
     | some r'=>some r'
     | none=>some r)
    | none=>none))=none
 rw [KX f a h h1,delX_no h2]
theorem KL3 (f:FuncId):K3.lend f=lendF f:=rfl
theorem fnk3 {f:FuncId} {cf:CFun} (h:K.fns f=some cf):K3.fns f=some cf:=h
theorem goM_non {K:Cfg} {O:Orc} (d:Option Nat) (r:List CO) (e:Env):goM K O d r e none=none:=rfl
theorem goS_non {K:Cfg} {O:Orc} (b:CC):goS K O b none=none:=rfl
theorem goF_non (rs:List CRes):goF rs none=none:=rfl
theorem f48_silent (a:Loc) (m:Nat) (i:Int) (h:Heap):(mu K).fn 48 [.own a m,.int .i64 i,.int .i64 (i+1)] h=none:=by
 rw [fn_go (KX _ _ _) fn48 rfl (by simp [c48])]
 simp [c48,KL,lendF,goF_non,goM_non,goS_non,slLen]
theorem f48 (k:Loc) (es:List AV) (i m:Nat) (h:Heap) (hn:h≠[]) (hk:hget h k=some (.arr 67 2 false es)) (hl:es.length=m) (hi:i < m) :
  (mu K3).fn 48 [.own k m,.int .i64 (i:Int),.int .i64 ((i:Int)+1)] h=some (.val (.own (hnext h) (m - 1)) (hnew (hset h k .dead) (.arr 67 2 false (es.eraseIdx i)))):=by
 have e:K3.X 48 [.own k m,.int .i64 (i:Int),.int .i64 ((i:Int)+1)] h=some (.val (.own (hnext h) (m - 1)) (hnew (hset h k .dead) (.arr 67 2 false (es.eraseIdx i)))):=by
  show (match K.X 48 [.own k m,.int .i64 (i:Int),.int .i64 ((i:Int)+1)] h with
   | some r=>some r
   | none=>(match delX 48 [.own k m,.int .i64 (i:Int),.int .i64 ((i:Int)+1)] h with
    | some r=>(match (mu K).fn 48 [.own k m,.int .i64 (i:Int),.int .i64 ((i:Int)+1)] h with
     | some r'=>some r'
     | none=>some r)
    | none=>none))=_
  rw [KX _ _ _,f48_silent]
  have hd:delX 48 [.own k m,.int .i64 (i:Int),.int .i64 ((i:Int)+1)] h=some (.val (.own (hnext h) (m - 1)) (hnew (hset h k .dead) (.arr 67 2 false (es.eraseIdx i)))):=by
   simp [delX,hn,hk,hl,hi]
  rw [hd]
 rw [step_mu_fn]
 simp [step,stepFn,e]
theorem f47 (l:List Sc) (hl:l≠[]) (hs:l.length≤1000) (Fr:List Blk) (h:Heap):(mu K).fn 47 [.lst (l.map Sc.av)] (Fr :: h)=some (.val (.own (h.length,Fr.length) l.length) ((Fr++[.arr 67 2 false (l.map Sc.av)]) :: h)):=by
 obtain ⟨x,l,rfl⟩:=List.exists_cons_of_ne_nil hl
 simp only [List.length_cons] at hs
 have r1:(l.length+1) * 40≤room:=by unfold room;omega
 have r2:l.length+1≤room:=by unfold room;omega
 rw [List.map_cons,fn_go (KXc _ _ _ (by decide) (by simp)) fn47 rfl (by simp [c47])]
 simp [c47,KL,lendF,r1,r2,CRes.keep]
theorem f50 (p:Po) (l:List Sc) (n:Nat) (y:Sc) (hy:l[n]?=some y) (F1:List Blk) (u:Us) (f1 f2:List Blk) (m1 m2:Nat) (h1:(F1:List Blk)[m1]?=some (.box 47 false (.lst (l.map Sc.av)))) (h2:F1[m2]?=some (.box 3 false (iV (n:Int)))) :
  (mu K).fn 50 [u.av,.ptr (0,m1) 0,.ptr (0,m2) 0] [f1,f2,F1]=some (.val (.bool (decide (u.sc=y.name))) [f1,f2,F1]):=by
 have hix:=fun (k:IntKind)=>iaF_lst (sz:=2) (l:=l.map Sc.av) (k:=k) (j:=(n:Int)) (v:=y.av) (by omega) (by simp [hy]) rfl
 rw [fn_go (KX _ _ _) fn50 rfl (by simp [c50])]
 simp [c50,KL,lendF,hget,h1,h2,hix]
theorem f49 (pr:Us→Bool) (q1 q2:Loc) (s:Sl Us) (hs:s.l.length≤1000) (h:Heap) (hg:∀ x,(mu K).fn 50 [x.av,.ptr q1 0,.ptr q2 0] ([] :: [] :: h)=some (.val (.bool (pr x)) ([] :: [] :: h))):(mu K).fn 49 [s.avS Us.av,.fn (.func 50) [] [.ptr q1 0,.ptr q2 0]] h=some (.val (.bool (s.l.any pr)) h):=by
 have k100:∃ i:Int,(mu K).fn 101 [s.avS Us.av,.fn (.func 50) [] [.ptr q1 0,.ptr q2 0]] ([] :: h)=some (.val (.int .i64 i) ([] :: h))∧decide (0≤i)=s.l.any pr:=by
  have key:=loop_iter (K:=K) (n:=0) (live:=[0,1,7,8]) (a:=l101_0) (fun (_:Unit) (x:Us)=>if (!pr x)=true then (.inl ():Unit ⊕ Unit) else .inr ())
   (fun pre b=>⟨[(0,s.avS Us.av),(1,.fn (.func 50) [] [.ptr q1 0,.ptr q2 0]),(7,.int .i64 (s.l.length:Int)),(8,.int .i64 (pre.length:Int))],[] :: [] :: h⟩) (fun pre b=>True)
   (fun b o=>∃ env,o=some (.exit 0,⟨env,[] :: [] :: h⟩)) (fun k o=>∃ env i,o=some (.ret,⟨env,[] :: [] :: h⟩)∧get env 4=.int .i64 i∧0≤i) s.l
   (fun pre x r b hl hb=>by
    obtain ⟨h1,h2,w1⟩:=idx_facts hl (by omega)
    have hix:=fun (k:IntKind)=>iaF_sl (av:=Us.av) (sz:=2) (s:=s) (k:=k) (j:=(pre.length:Int)) (x:=x) (by omega) (by simpa using h2) rfl
    have k:=hg x
    rw [loop_go]
    generalize (mu K).code (.loopAt 0 [0,1,7,8] l101_0)=F
    clear hl
    cases e:pr x
    ·simp [l101_0,KL,lendF,h1,hix,w1,k,e]
    ·simp [l101_0,KL,lendF,h1,hix,w1,k,e])
   (fun b _=>by
    rw [loop_go]
    generalize (mu K).code (.loopAt 0 [0,1,7,8] l101_0)=F
    simp [l101_0]) () trivial
  simp only [List.length_nil,Int.natCast_zero] at key
  rw [fn_go (KX _ _ _) fn101 rfl (by simp [c101])]
  rw [any_all]
  cases hm:s.l.all fun x=>!pr x
  ·rw [(iter_all (fun x:Us=>!pr x) s.l).2 hm] at key
   obtain ⟨env,i,k,g4,hi⟩:=key
   exact ⟨i,by simp [c101,KL,lendF,k,g4],by simp [hi]⟩
  ·rw [(iter_all (fun x:Us=>!pr x) s.l).1 hm] at key
   obtain ⟨_,env,k⟩:=key
   exact ⟨-1,by simp [c101,KL,lendF,k],by simp⟩
 obtain ⟨i,k,hi⟩:=k100
 rw [fn_go (KX _ _ _) fn49 rfl (by simp [c49])]
 rw [←hi]
 simp [c49,KL,lendF,k]
theorem law14 (p:Po) (hp:aPo p) (l:Sl Sc) (hl:okSl aSc l) (wh:Int) (hw:okI .u8 wh):(mu K3).fn 14 [p.av,l.avS Sc.av,.int .u8 wh] []=some (.val (.bool true) []):=by
 have k36:=fun h=>up3 (f36 p l h)
 have aw:=fun h=>up3 (awake44 h)
 rw [fn_go (KX3 _ _ _) (fnk3 fn14) rfl (by simp [c14])]
 cases hf:few44 p l.l
 ·rw [hf] at k36
  simp [c14,KL3,lendF,k36,aw]
 rw [hf] at k36
 obtain ⟨s1,s2⟩:=few_sz hp hl hf
 obtain ⟨t,ht⟩:=tree_of p
 by_cases c0:l.l=[]
 ·have e0:l.l.length=0:=by simp [c0]
  simp [c14,KL3,lendF,k36,aw,e0]
 have hpos:0 < l.l.length:=List.length_pos_iff.2 c0
 have e0:((l.l.length:Int)=0)=False:=by simp;exact c0
 have eL:(l.l=[])=False:=by simp [c0]
 have k43:=fun h=>up3 (f43 p s1 l s2 t ht h)
 cases hfit:decide ((typT p l.l t).1=0) && decide ((typT p l.l t).2=0)
 ·rw [hfit] at k43
  simp [c14,KL3,lendF,k36,aw,e0,eL,k43]
 rw [hfit] at k43
 have hF:=fits_of hfit
 have hwf:=wf_u8 hw
 obtain ⟨b,rfl⟩:∃ b:Nat,wh=(b:Int):=⟨wh.toNat,by omega⟩
 have w1:IntKind.i64.wrap (b:Int)=(b:Int):=wrap64 (by omega) (by omega)
 have w2:((b:Int).tmod (l.l.length:Int))=((b % l.l.length:Nat):Int):=by
  rw [Int.tmod_eq_emod_of_nonneg (by omega)]
  simp
 have hn:b % l.l.length < l.l.length:=Nat.mod_lt _ hpos
 have hav:l.avS Sc.av=.lst (l.l.map Sc.av):=lv_lst _ (by simpa using c0)
 generalize b % l.l.length=n at *
 have hll:l.l.length≤8:=by
  have hf':=hf
  unfold few44 at hf'
  simp only [Bool.and_eq_true,decide_eq_true_eq] at hf'
  exact hf'.1.1.2
 obtain ⟨y,hy⟩:∃ y,l.l[n]?=some y:=⟨l.l[n],by simp [hn]⟩
 have hym:y∈l.l:=List.mem_of_getElem? hy
 have okr1:okL ⟨false,l.l++[y]⟩:=⟨by simp;omega,fun s hs=>by
  rcases List.mem_append.1 hs with hs | hs
  ·exact s2.sc s hs
  ·rw [List.mem_singleton.1 hs];exact s2.sc y hym⟩
 have okr2:okL ⟨false,l.l.eraseIdx n⟩:=⟨by have:=List.length_eraseIdx_le l.l n;simp only;omega,fun s hs=>s2.sc s (List.mem_of_mem_eraseIdx hs)⟩
 have k1:=fun h=>up3 (f38 p s1 ⟨false,l.l++[y]⟩ okr1 t ht h)
 have k2:=fun h=>up3 (f38 p s1 ⟨false,l.l.eraseIdx n⟩ okr2 t ht h)
 have e1:Sl.avS Sc.av ⟨false,l.l++[y]⟩=.lst ((l.l++[y]).map Sc.av):=by simp [Sl.avS]
 have e2:Sl.avS Sc.av ⟨false,l.l.eraseIdx n⟩=.lst ((l.l.eraseIdx n).map Sc.av):=by simp [Sl.avS]
 rw [e1,typ_twice hF hym] at k1
 rw [e2] at k2
 have hless:=typ_less hF hy
 have k47:=fun Fr h=>up3 (f47 l.l c0 (by omega) Fr h)
 have k49:=fun (F1:List Blk) (m1 m2:Nat) (h1:(F1:List Blk)[m1]?=some (.box 47 false (.lst (l.l.map Sc.av)))) (h2:F1[m2]?=some (.box 3 false (iV (n:Int))))=>
  up3 (f49 (fun u=>decide (u.sc=y.name)) (0,m1) (0,m2) p.uses (by have:=s1.uses.1;omega) [F1] fun u=>f50 p l.l n y hy F1 u [] [] m1 m2 h1 h2)
 have hix:=fun (k:IntKind)=>iaF_lst (sz:=2) (l:=l.l.map Sc.av) (k:=k) (j:=(n:Int)) (v:=y.av) (by omega) (by simp [hy]) rfl
 rw [hav] at k36 k43
 simp only [hav]
 have k48:=fun (F1:List Blk) (k:Nat) (hk:F1[k]?=some (.arr 67 2 false (l.l.map Sc.av)))=>f48 (0,k) (l.l.map Sc.av) n l.l.length [F1] (by simp) (by simp [hget,hk]) (by simp) hn
 have hx1:∀ (F1:List Blk),hnext [F1]=(0,F1.length):=fun _=>rfl
 have hx2:∀ (F1:List Blk) (k:Nat) (B C:Blk),hnew (hset [F1] (0,k) B) C=[F1.set k B++[C]]:=fun _ _ _ _=>rfl
 simp only [hx1,hx2] at k48
 have em:(l.l.eraseIdx n).map Sc.av=(l.l.map Sc.av).eraseIdx n:=by
  apply List.ext_getElem?
  intro j
  simp only [List.getElem?_map,List.getElem?_eraseIdx]
  split<;>rfl
 rw [em] at k2
 simp only [List.map_append,List.map_cons,List.map_nil] at k1
 have r1:(l.l.length+1) * 40≤room:=by unfold room;omega
 have r2:l.l.length+1≤room:=by unfold room;omega
 have w3:IntKind.i64.wrap ((n:Int)+1)=(n:Int)+1:=wrap64 (by omega) (by omega)
 have b1:=beq_avS _ beq_us p.uses
 have b2:=beq_avS _ beq_rf p.reveal
 have b3:=beq_avS _ beq_nd p.nodes
 have b4:=beq_avS _ beq_fd y.fields
 have b5:=beqs_map _ beq_sc l.l
 have l1:((l.l.map Sc.av).eraseIdx n).length=l.l.length - 1:=by rw [List.length_eraseIdx,List.length_map,if_pos hn]
 generalize typT p (l.l.eraseIdx n) t=q at *
 simp [c14,KL3,lendF,k36,aw,e0,eL,k43,w1,w2,w3,hix,k47,k1,k2,r1,r2,b1,b2,b3,b4,b5,k48,k49,l1,hless]
 done
end Go.Ab.Pl
