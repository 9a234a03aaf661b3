/-
  Check of a policy: the program.
-/
import Derived.Test.YtfpmflgjbpnkjaaGreatDoorAb4dP5
set_option linter.unusedVariables false
set_option linter.unusedSimpArgs false
set_option linter.unusedSectionVars false
namespace Go.Ab.Pn
open Go.Ab.Pol
set_option maxRecDepth 100000
set_option maxHeartbeats 1000000
def hasF (s:Bs) (_:Unit) (x:Bs):Unit ⊕ Unit:=if s=x then .inr () else .inl ()
theorem iter_has (s:Bs):∀ l:List Bs,(s∈l→iter (hasF s) () l=.inr ())∧(s∉l→iter (hasF s) () l=.inl ())
 | []=>⟨fun h=>by simp at h,fun _=>rfl⟩
 | x :: l=>by
  have ih:=iter_has s l
  simp only [iter,hasF]
  by_cases e:s=x
  ·rw [if_pos e]
   exact ⟨fun _=>rfl,fun h=>absurd (by simp [e]) h⟩
  ·rw [if_neg e]
   exact ⟨fun h=>ih.1 (by simpa [e] using h),fun h=>ih.2 (fun q=>h (by simp [q]))⟩
theorem f174 (nl:Bool) (l:List Bs) (s:Bs) (hl:l.length≤1000000) (h:Heap):∃ i:Int,(mu K).fn 174 [lv nl (l.map AV.str),.str s] h=some (.val (.int .i64 i) h)∧decide (0≤i)=decide (s∈l):=by
 have key:=loop_iter (K:=K) (n:=0) (live:=[0,1,7,8]) (a:=l174_0) (hasF s)
  (fun pre _=>⟨[(0,lv nl (l.map AV.str)),(1,.str s),(7,.int .i64 (l.length:Int)),(8,.int .i64 (pre.length:Int))],[] :: h⟩) (fun _ _=>True)
  (fun _ o=>∃ env,o=some (.exit 0,⟨env,[] :: h⟩)) (fun _ o=>∃ env i,o=some (.ret,⟨env,[] :: h⟩)∧get env 4=.int .i64 i∧0≤i) l
  (fun pre x r b hl' _=>by
   obtain ⟨h1,h2,w1⟩:=idx_facts hl' (by omega)
   have hix:=fun (k:IntKind)=>iaF_lv (sz:=1) (nl:=nl) (l:=l.map AV.str) (k:=k) (j:=(pre.length:Int)) (v:=.str x) (by omega) (by simpa using h2) rfl
   rw [loop_go]
   generalize (mu K).code (.loopAt 0 [0,1,7,8] l174_0)=F
   clear hl'
   unfold hasF
   by_cases hx:s=x
   ·have d:(s=x)=True:=by simp [hx]
    simp [l174_0,KL,lendF,h1,hix,w1,d]
   ·simp [l174_0,KL,lendF,h1,hix,w1,hx])
  (fun b _=>by
   rw [loop_go]
   generalize (mu K).code (.loopAt 0 [0,1,7,8] l174_0)=F
   simp [l174_0]) () trivial
 simp only [List.length_nil,Int.natCast_zero] at key
 rw [fn_go (KX _ _ _) fn174 rfl (by simp [c174])]
 by_cases hm:s∈l
 ·rw [(iter_has s l).1 hm] at key
  obtain ⟨env,i,k,g4,hi⟩:=key
  exact ⟨i,by simp [c174,KL,lendF,k,g4],by simp [hi,hm]⟩
 ·rw [(iter_has s l).2 hm] at key
  obtain ⟨_,env,k⟩:=key
  exact ⟨-1,by simp [c174,KL,lendF,k],by simp [hm]⟩
theorem f115 (nl:Bool) (l:List Bs) (s:Bs) (hl:l.length≤1000000) (h:Heap):(mu K).fn 115 [lv nl (l.map AV.str),.str s] h=some (.val (.bool (decide (s∈l))) h):=by
 obtain ⟨i,k,hi⟩:=f174 nl l s hl ([] :: h)
 rw [fn_go (KX _ _ _) fn115 rfl (by simp [c115])]
 simp [c115,KL,lendF,k,hi]
theorem f114 (s:Bs) (l:List Bs) (hl:l.length≤1000000) (b0:Blk) (R:List Blk) (h:Heap) :
  (mu K).fn 114 [.str s,.ptr (h.length,2) 0] ((b0 :: .arr 9 1 true (l.map AV.str) :: .box 48 false (.own (h.length,1) l.length) :: R) :: h) =
   some (.val (.bool (decide (s∈l))) ((b0 :: .arr 9 1 true (l.map AV.str) :: .box 48 false (.own (h.length,1) l.length) :: R) :: h)):=by
 have k:=fun h=>f115 false l s hl h
 simp only [lv_false] at k
 rw [fn_go (KX _ _ _) fn114 rfl (by simp [c114])]
 simp [c114,KL,lendF,k]
theorem used_mem (p:Po) (s:Bs):decide (s∈p.uses.l.map Us.al)=used p s:=by
 unfold used
 rw [Bool.eq_iff_iff]
 simp
theorem iter_all {α:Type} (g:α→Bool):∀ l:List α,(l.all g=true→iter (fun (_:Unit) (x:α)=>if g x=true then (.inl ():Unit ⊕ Unit) else .inr ()) () l=.inl ())∧(l.all g=false→iter (fun (_:Unit) (x:α)=>if g x=true then (.inl ():Unit ⊕ Unit) else .inr ()) () l=.inr ())
 | []=>⟨fun _=>rfl,fun h=>by cases h⟩
 | x :: l=>by
  have ih:=iter_all g l
  simp only [iter,List.all_cons]
  by_cases e:g x=true
  ·simp only [e,if_true,Bool.true_and]
   exact ih
  ·have e:g x=false:=by simpa using e
   simp [e]
abbrev alB (T s:Nat) (vw:Bool) (l:List Bs):Blk:=.arr T s vw (l.map AV.str)
theorem f51 (p:Po) (hp:Sz p) (h:Heap):(mu K).fn 51 [p.av] h=some (.val (.int .i64 (chk p)) h):=by
  have k64:=fun h=>f110 p hp h
  have k65:=fun h=>f111 p hp.nodes h
  have key0:=loop_iter (K:=K) (n:=3) (live:=[1, 4, 61, 62, 63]) (a:=l51_0) (fun (l:List Bs) (u:Us)=>(.inl (l++[u.al]):List Bs ⊕ Unit))
    (fun pre l=>⟨[(1, .ptr (h.length, 0) 0), (4, .ptr (h.length, 2) 0), (61, p.uses.avS Us.av), (62, .int .i64 (p.uses.l.length:Int)), (63, .int .i64 (pre.length:Int))],
      [.box 26 false p.av, alB (if pre=[] then 0 else 9) (if pre=[] then 0 else 1) false l, .box 48 false (.own (h.length, 1) l.length)] :: h⟩) (fun pre l=>l=pre.map Us.al)
    (fun l o=>∃ env, o=some (.exit 0, ⟨env, [.box 26 false p.av, alB (if p.uses.l=[] then 0 else 9) (if p.uses.l=[] then 0 else 1) false l, .box 48 false (.own (h.length, 1) l.length)] :: h⟩)∧get env 1=.ptr (h.length, 0) 0∧get env 4=.ptr (h.length, 2) 0) (fun _ _=>False) p.uses.l
    (fun pre x r l hl hi=>by
      obtain ⟨h1, h2, w1⟩:=idx_facts hl (by have:=hp.uses.1;omega)
      have hb:=hp.uses.1
      have hll:l.length=pre.length:=by rw [hi];simp
      have hlt : l.length < 1000 := by have : p.uses.l.length = pre.length + (r.length + 1) := by rw [hl]; simp
                                       omega
      have hix:=fun (k:IntKind)=>iaF_sl (av:=Us.av) (sz:=2) (s:=p.uses) (k:=k) (j:=(pre.length:Int)) (x:=x) (by omega) (by simpa using h2) rfl
      have r1:(l.length+1) * 16≤room:=by unfold room;omega
      have r2:l.length+1≤room:=by unfold room;omega
      rw [loop_go]
      generalize (mu K).code (.loopAt 3 [1, 4, 61, 62, 63] l51_0)=F
      clear hl
      refine ⟨fun b' e=>?_, fun _ e=>by cases e⟩
      injection e with e
      subst e
      refine ⟨by rw [hi];simp, ?_⟩
      by_cases hpre:pre=[]
      · have d:(pre=[])=True:=by simp [hpre]
        simp [l51_0, KL, lendF, h1, hix, w1, r1, r2, d, List.replicate, alB]
      · simp [l51_0, KL, lendF, h1, hix, w1, r1, r2, hpre, List.replicate, alB])
    (fun b _=>by
      rw [loop_go]
      generalize (mu K).code (.loopAt 3 [1, 4, 61, 62, 63] l51_0)=F
      simp [l51_0]) [] rfl
  have hF:∀ (l:List Bs) (R:List Blk), l.length≤1000000→∀ s, (mu K).fn 114 [.str s, .ptr (h.length, 2) 0] ((.box 26 false p.av :: .arr 9 1 true (l.map AV.str) :: .box 48 false (.own (h.length, 1) l.length) :: R) :: h) =
      some (.val (.bool (decide (s∈l))) ((.box 26 false p.av :: .arr 9 1 true (l.map AV.str) :: .box 48 false (.own (h.length, 1) l.length) :: R) :: h)):=fun l R hl s=>f114 s l hl _ R h
  have hal:(p.uses.l.map Us.al).length≤1000000:=by have:=hp.uses.1;simp;omega
  have key1:=loop_iter (K:=K) (n:=3) (live:=[1, 7, 82, 83, 84]) (a:=l51_1) (fun (_:Unit) (r:Rf)=>if used p r.al=true then (.inl ():Unit ⊕ Unit) else .inr ())
    (fun pre _=>⟨[(1, .ptr (h.length, 0) 0), (7, .fn (.func 114) [] [.ptr (h.length, 2) 0]), (82, p.reveal.avS Rf.av), (83, .int .i64 (p.reveal.l.length:Int)), (84, .int .i64 (pre.length:Int))],
      [.box 26 false p.av, alB 9 1 true (p.uses.l.map Us.al), .box 48 false (.own (h.length, 1) p.uses.l.length)] :: h⟩) (fun _ _=>True)
    (fun _ o=>∃ env, o=some (.exit 2, ⟨env, [.box 26 false p.av, alB 9 1 true (p.uses.l.map Us.al), .box 48 false (.own (h.length, 1) p.uses.l.length)] :: h⟩)∧get env 1=.ptr (h.length, 0) 0∧get env 7=.fn (.func 114) [] [.ptr (h.length, 2) 0])
    (fun _ o=>∃ env Fr, o=some (.ret, ⟨env, Fr :: h⟩)∧get env 2=.int .i64 9) p.reveal.l
    (fun pre x r l hl _=>by
      obtain ⟨h1, h2, w1⟩:=idx_facts hl (by have:=hp.reveal.1;omega)
      have hix:=fun (k:IntKind)=>iaF_sl (av:=Rf.av) (sz:=2) (s:=p.reveal) (k:=k) (j:=(pre.length:Int)) (x:=x) (by omega) (by simpa using h2) rfl
      have q:=hF (p.uses.l.map Us.al) [.box 54 false x.av] hal x.al
      rw [used_mem] at q
      simp only [List.length_map] at q
      rw [loop_go]
      generalize (mu K).code (.loopAt 3 [1, 7, 82, 83, 84] l51_1)=F
      clear hl
      cases c:used p x.al
      · rw [c] at q
        simp only [List.map_map] at q
        simp [l51_1, KL, lendF, h1, hix, w1, q, alB]
      · rw [c] at q
        simp only [List.map_map] at q
        simp [l51_1, KL, lendF, h1, hix, w1, q, alB])
    (fun b _=>by
      rw [loop_go]
      generalize (mu K).code (.loopAt 3 [1, 7, 82, 83, 84] l51_1)=F
      simp [l51_1]) () trivial
  have key2:=loop_iter (K:=K) (n:=3) (live:=[7, 95, 96, 97]) (a:=l51_2) (fun (_:Unit) (n:Nd)=>if (!(decide (n.k=9)) || used p n.nm)=true then (.inl ():Unit ⊕ Unit) else .inr ())
    (fun pre _=>⟨[(7, .fn (.func 114) [] [.ptr (h.length, 2) 0]), (95, p.nodes.avS Nd.av), (96, .int .i64 (p.nodes.l.length:Int)), (97, .int .i64 (pre.length:Int))],
      [.box 26 false p.av, alB 9 1 true (p.uses.l.map Us.al), .box 48 false (.own (h.length, 1) p.uses.l.length)] :: h⟩) (fun _ _=>True)
    (fun _ o=>∃ env, o=some (.exit 4, ⟨env, [.box 26 false p.av, alB 9 1 true (p.uses.l.map Us.al), .box 48 false (.own (h.length, 1) p.uses.l.length)] :: h⟩))
    (fun _ o=>∃ env Fr, o=some (.ret, ⟨env, Fr :: h⟩)∧get env 2=.int .i64 9) p.nodes.l
    (fun pre x r l hl _=>by
      obtain ⟨h1, h2, w1⟩:=idx_facts hl (by have:=hp.nodes.1;omega)
      have hix:=fun (k:IntKind)=>iaF_sl (av:=Nd.av) (sz:=6) (s:=p.nodes) (k:=k) (j:=(pre.length:Int)) (x:=x) (by omega) (by simpa using h2) rfl
      have q:=hF (p.uses.l.map Us.al) [.box 90 false x.av] hal x.nm
      rw [used_mem] at q
      simp only [List.length_map, List.map_map] at q
      rw [loop_go]
      generalize (mu K).code (.loopAt 3 [7, 95, 96, 97] l51_2)=F
      clear hl
      by_cases hk:x.k=9
      · have d:(x.k=9)=True:=by simp [hk]
        cases c:used p x.nm
        · rw [c] at q
          simp [l51_2, KL, lendF, h1, hix, w1, q, alB, d]
        · rw [c] at q
          simp [l51_2, KL, lendF, h1, hix, w1, q, alB, d]
      · simp [l51_2, KL, lendF, h1, hix, w1, alB, hk])
    (fun b _=>by
      rw [loop_go]
      generalize (mu K).code (.loopAt 3 [7, 95, 96, 97] l51_2)=F
      simp [l51_2]) () trivial
  have k66:=fun h=>f112 false (p.uses.l.map Us.al) hal h
  simp only [lv_false, List.map_map] at k66
  have k67:∀ h, (mu K).fn 113 [p.reveal.avS Rf.av] h=some (.val (.bool (decide (¬ p.reveal.l.Nodup))) h):=fun h=>f113 p.reveal.nl p.reveal.l (by have:=hp.reveal.1;omega) h
  have it0:iter (fun (l:List Bs) (u:Us)=>(.inl (l++[u.al]):List Bs ⊕ Unit)) [] p.uses.l=.inl (p.uses.l.map Us.al):=by
    have:∀ (us:List Us) (l:List Bs), iter (fun (l:List Bs) (u:Us)=>(.inl (l++[u.al]):List Bs ⊕ Unit)) l us=.inl (l++us.map Us.al):=by
      intro us
      induction us with
      | nil=>intro l;simp [iter]
      | cons u us ih=>intro l;simp [iter, ih]
    simpa using this p.uses.l []
  rw [it0] at key0
  obtain ⟨_, env0, a0, a1, a4⟩:=key0
  simp only [List.length_nil, Int.natCast_zero, if_true, alB, List.map_nil, List.length_map, List.map_map] at a0 key1 key2
  rw [fn_go (KX _ _ _) fn51 rfl (by simp [c51])]
  unfold chk
  by_cases c1:512 < p.nodes.l.length
  · have d1:(512:Int) < (p.nodes.l.length:Int):=by omega
    simp [c51, KL, lendF, c1, d1]
  have d1:¬ (512:Int) < (p.nodes.l.length:Int):=by omega
  by_cases c2:p.uses.l.length < 1
  · have d2:(p.uses.l.length:Int) < 1:=by omega
    rw [if_pos (.inr (.inl c2))]
    simp [c51, KL, lendF, d1, d2]
  have d2:¬ (p.uses.l.length:Int) < 1:=by omega
  by_cases c3:4 < p.uses.l.length
  · have d3:(4:Int) < (p.uses.l.length:Int):=by omega
    rw [if_pos (.inr (.inr (.inl c3)))]
    simp [c51, KL, lendF, d1, d2, d3]
  have d3:¬ (4:Int) < (p.uses.l.length:Int):=by omega
  by_cases c4:64 < p.reveal.l.length
  · have d4:(64:Int) < (p.reveal.l.length:Int):=by omega
    rw [if_pos (.inr (.inr (.inr c4)))]
    simp [c51, KL, lendF, d1, d2, d3, d4]
  have d4:¬ (64:Int) < (p.reveal.l.length:Int):=by omega
  rw [if_neg (by omega)]
  cases c5:namesOk p
  · simp [c51, KL, lendF, d1, d2, d3, d4, k64, c5]
  rw [if_neg (by simp)]
  by_cases c6:p.limit < 0
  · rw [if_pos (.inl c6)]
    simp [c51, KL, lendF, d1, d2, d3, d4, k64, c5, c6]
  by_cases c7:65536 < p.limit
  · rw [if_pos (.inr (.inl c7))]
    simp [c51, KL, lendF, d1, d2, d3, d4, k64, c5, c6, c7]
  by_cases c8:0 < p.limit∧p.scope=[]
  · rw [if_pos (.inr (.inr c8))]
    have e8:(p.scope=[])=True:=by simp [c8.2]
    have e9:=c8.1
    simp [c51, KL, lendF, d1, d2, d3, d4, k64, c5, c6, c7, e8, e9]
  rw [if_neg (by rintro (q | q | q);exact c6 q;exact c7 q;exact c8 q)]
  have lim:(0 < p.limit)=False∨((0 < p.limit)=True∧(p.scope=[])=False):=by
    by_cases q:0 < p.limit
    · exact .inr ⟨by simp [q], by simp;exact fun e=>c8 ⟨q, e⟩⟩
    · exact .inl (by simp;omega)
  by_cases ht:treeE p=0
  case neg=>
    rw [if_pos ht]
    rcases lim with l1 | ⟨l1, l2⟩
    · simp [c51, KL, lendF, d1, d2, d3, d4, k64, c5, c6, c7, k65, l1, ht]
    · simp [c51, KL, lendF, d1, d2, d3, d4, k64, c5, c6, c7, k65, l1, l2, ht]
  rw [if_neg (by simp [ht])]
  have hu:¬ p.uses.l=[]:=fun e=>by rw [e] at c2;simp at c2
  simp only [hu, if_false] at a0
  have hd:treeE p=0:=ht
  by_cases n1:(p.uses.l.map Us.al).Nodup
  case neg=>
    rw [if_pos (.inl n1)]
    rcases lim with l1 | ⟨l1, l2⟩
    · simp [c51, KL, lendF, d1, d2, d3, d4, k64, c5, c6, c7, k65, l1, hd, a0, a1, a4, k66, n1]
    · simp [c51, KL, lendF, d1, d2, d3, d4, k64, c5, c6, c7, k65, l1, l2, hd, a0, a1, a4, k66, n1]
  by_cases n2:p.reveal.l.Nodup
  case neg=>
    rw [if_pos (.inr n2)]
    rcases lim with l1 | ⟨l1, l2⟩
    · simp [c51, KL, lendF, d1, d2, d3, d4, k64, c5, c6, c7, k65, l1, hd, a0, a1, a4, k66, k67, n1, n2]
    · simp [c51, KL, lendF, d1, d2, d3, d4, k64, c5, c6, c7, k65, l1, l2, hd, a0, a1, a4, k66, k67, n1, n2]
  rw [if_neg (by rintro (q | q);exact q n1;exact q n2)]
  cases r1:p.reveal.l.all (fun r=>used p r.al)
  · rw [(iter_all (fun r:Rf=>used p r.al) p.reveal.l).2 r1] at key1
    obtain ⟨env1, Fr, b0, b2⟩:=key1
    rcases lim with l1 | ⟨l1, l2⟩
    · simp [c51, KL, lendF, d1, d2, d3, d4, k64, c5, c6, c7, k65, l1, hd, a0, a1, a4, k66, k67, n1, n2, b0, b2]
    · simp [c51, KL, lendF, d1, d2, d3, d4, k64, c5, c6, c7, k65, l1, l2, hd, a0, a1, a4, k66, k67, n1, n2, b0, b2]
  rw [(iter_all (fun r:Rf=>used p r.al) p.reveal.l).1 r1] at key1
  obtain ⟨_, env1, b0, b1, b7⟩:=key1
  cases r2:p.nodes.l.all (fun n=>!(decide (n.k=9)) || used p n.nm)
  · rw [(iter_all (fun n:Nd=>!(decide (n.k=9)) || used p n.nm) p.nodes.l).2 r2] at key2
    obtain ⟨env2, Fr, e0, e2⟩:=key2
    rcases lim with l1 | ⟨l1, l2⟩
    · simp [c51, KL, lendF, d1, d2, d3, d4, k64, c5, c6, c7, k65, l1, hd, a0, a1, a4, k66, k67, n1, n2, b0, b1, b7, e0, e2]
    · simp [c51, KL, lendF, d1, d2, d3, d4, k64, c5, c6, c7, k65, l1, l2, hd, a0, a1, a4, k66, k67, n1, n2, b0, b1, b7, e0, e2]
  rw [(iter_all (fun n:Nd=>!(decide (n.k=9)) || used p n.nm) p.nodes.l).1 r2] at key2
  obtain ⟨_, env2, e0⟩:=key2
  rcases lim with l1 | ⟨l1, l2⟩
  · simp [c51, KL, lendF, d1, d2, d3, d4, k64, c5, c6, c7, k65, l1, hd, a0, a1, a4, k66, k67, n1, n2, b0, b1, b7, e0]
  · simp [c51, KL, lendF, d1, d2, d3, d4, k64, c5, c6, c7, k65, l1, l2, hd, a0, a1, a4, k66, k67, n1, n2, b0, b1, b7, e0]
end Go.Ab.Pn
