/-
  The reference's check of a policy, whole.
-/
import Derived.Test.YtfpmflgjbpnkjaaGreatAb4zP10
set_option linter.unusedVariables false
set_option linter.unusedSimpArgs false
set_option linter.unusedSectionVars false
namespace Go.Ab.Pz
open Go.Ab.Pol
set_option maxRecDepth 100000
set_option maxHeartbeats 4000000
theorem f53 (p:Po) (hp:Sz p) (h:Heap):(mu K).fn 53 [p.av] h=some (.val (.int .i64 (chk p)) h):=by
 have kn:=fun h=>f87 p.name hp.name h
 have ke:=fun h=>f87 p.escrow hp.escrow h
 have ks:=fun h=>f88 p.scope hp.scope h
 have kv:=f89 p hp.nodes h 32 p.root true (0,[]) [] (by omega) (in_nil _)
 have e1:(33 - ((32:Nat):Int))=1:=rfl
 rw [e1] at kv
 simp only [List.nil_append,visR,if_true] at kv
 have ht:treeE p=(if (vis p.nodes.l 32 p.root true []).1=0 then (if (vis p.nodes.l 32 p.root true []).2.length=p.nodes.l.length then 0 else 3) else (vis p.nodes.l 32 p.root true []).1):=rfl
 generalize vis p.nodes.l 32 p.root true []=R at *
 obtain ⟨e,s⟩:=R
 simp only at ht
 obtain ⟨ot,oz,ho,hz⟩:=ordB_at s
 have hn:=hp.nodes.1
 have hbn:=bools_nil p.nodes.l.length
 have o0:ordB []=.arr 0 0 false []:=rfl
 have r1:p.nodes.l.length≤room:=by unfold room;omega
 simp [RFr,o0,ho] at kv
 generalize hRR:[Blk.arr 4 1 false (bools p.nodes.l.length s),Blk.arr ot oz false (List.map iV s),Blk.box 155 false (AV.agg [AV.str p.name,Sl.avS Us.av p.uses,Sl.avS Rf.av p.reveal,Sl.avS Nd.av p.nodes,iV p.root,AV.str p.scope,iV p.limit,AV.str p.escrow,AV.own (List.length h,1) p.nodes.l.length,AV.own (List.length h,2) s.length,iV e])]=RR
 have LD:=l25d p hp RR h
 have LF:=l25f p hp RR h
 have LG:=l25g p hp RR h
 have LH:=l25h p hp RR h
 rw [←hRR] at LD LF LG LH
 simp only [List.length_cons,List.length_nil] at LD LF LG LH
 clear hRR
 have b1:=beq_avS _ beq_us p.uses
 have b2:=beq_avS _ beq_rf p.reveal
 have b3:=beq_avS _ beq_nd p.nodes
 rw [fn_go (KX _ _ _) fn53 rfl (by simp [c53])]
 unfold chk
 by_cases c1:512 < p.nodes.l.length
 ·have d1:(512:Int) < (p.nodes.l.length:Int):=by omega
  simp [c53,KL,lendF,c1,d1]
 have d1:¬ (512:Int) < (p.nodes.l.length:Int):=by omega
 by_cases c2:p.uses.l.length < 1
 ·have d2:(p.uses.l.length:Int) < 1:=by omega
  rw [if_pos (.inr (.inl c2))]
  simp [c53,KL,lendF,d1,d2]
 have d2:¬ (p.uses.l.length:Int) < 1:=by omega
 by_cases c3:4 < p.uses.l.length
 ·have d3:(4:Int) < (p.uses.l.length:Int):=by omega
  rw [if_pos (.inr (.inr (.inl c3)))]
  simp [c53,KL,lendF,d1,d2,d3]
 have d3:¬ (4:Int) < (p.uses.l.length:Int):=by omega
 by_cases c4:64 < p.reveal.l.length
 ·have d4:(64:Int) < (p.reveal.l.length:Int):=by omega
  rw [if_pos (.inr (.inr (.inr c4)))]
  simp [c53,KL,lendF,d1,d2,d3,d4]
 have d4:¬ (64:Int) < (p.reveal.l.length:Int):=by omega
 rw [if_neg (by omega)]
 have LA:=fun b=>l25a p hp b h
 have LB:=fun b=>l25b p hp b h
 have names:∀ (P:Prop),((nameOk p.name=false→P)∧(nameOk p.name=true→p.escrow≠[]→nameOk p.escrow=false→P))→True:=fun _ _=>trivial
 have hN:∀ b:Bool,b=(nameOk p.name && (decide (p.escrow=[]) || nameOk p.escrow) && (decide (p.scope=[]) || wordOk p.scope))→namesOk p=(b && (p.uses.l.all fun u=>nameOk u.al && nameOk u.sc) && (p.reveal.l.all fun r=>nameOk r.al && nameOk r.attr)):=fun b hb=>by rw [hb];rfl
 generalize hb:(nameOk p.name && (decide (p.escrow=[]) || nameOk p.escrow) && (decide (p.scope=[]) || wordOk p.scope))=b at hN
 have hN':=hN b rfl
 obtain ⟨ea,a1,a2,a3⟩:=LA b
 generalize (p.uses.l.all fun u=>nameOk u.al && nameOk u.sc)=u1 at *
 obtain ⟨eb,x1,x2,x3⟩:=LB (b && u1)
 generalize (p.reveal.l.all fun r=>nameOk r.al && nameOk r.attr)=u2 at *
 cases q1:nameOk p.name
 ·have:b=false:=by rw [←hb,q1];rfl
  subst this
  simp only [Bool.false_and] at x1 x3
  have:namesOk p=false:=hN'
  simp [c53,KL,lendF,d1,d2,d3,d4,kn,q1,a1,a2,a3,x1,x2,x3,this]
 have E:((p.escrow=[])=True∧(decide (p.escrow=[]) || nameOk p.escrow)=true)∨((p.escrow=[])=False∧nameOk p.escrow=true∧(decide (p.escrow=[]) || nameOk p.escrow)=true)∨((p.escrow=[])=False∧nameOk p.escrow=false∧(decide (p.escrow=[]) || nameOk p.escrow)=false):=by
  by_cases q:p.escrow=[]<;>cases q2:nameOk p.escrow<;>simp [q]
 have S:((p.scope=[])=True∧(decide (p.scope=[]) || wordOk p.scope)=true)∨((p.scope=[])=False∧wordOk p.scope=true∧(decide (p.scope=[]) || wordOk p.scope)=true)∨((p.scope=[])=False∧wordOk p.scope=false∧(decide (p.scope=[]) || wordOk p.scope)=false):=by
  by_cases q:p.scope=[]<;>cases q2:wordOk p.scope<;>simp [q]
 cases b
 ·simp only [Bool.false_and] at x1 x3 hN'
  rw [hN',if_pos rfl]
  rcases E with ⟨e1,e3⟩ | ⟨e1,e2,e3⟩ | ⟨e1,e2,e3⟩
  ·rcases S with ⟨s1,s3⟩ | ⟨s1,s2,s3⟩ | ⟨s1,s2,s3⟩
   ·rw [q1,e3,s3] at hb;simp at hb
   ·rw [q1,e3,s3] at hb;simp at hb
   ·simp [c53,KL,lendF,d1,d2,d3,d4,kn,ke,ks,q1,a1,a2,a3,x1,x2,x3,e1,s1,s2]
  ·rcases S with ⟨s1,s3⟩ | ⟨s1,s2,s3⟩ | ⟨s1,s2,s3⟩
   ·rw [q1,e3,s3] at hb;simp at hb
   ·rw [q1,e3,s3] at hb;simp at hb
   ·simp [c53,KL,lendF,d1,d2,d3,d4,kn,ke,ks,q1,a1,a2,a3,x1,x2,x3,e1,e2,s1,s2]
  ·simp [c53,KL,lendF,d1,d2,d3,d4,kn,ke,ks,q1,a1,a2,a3,x1,x2,x3,e1,e2]
 simp only [Bool.true_and] at x1 x3 hN'
 have E':((p.escrow=[])=True∧True)∨((p.escrow=[])=False∧nameOk p.escrow=true):=by
  rcases E with ⟨e1,e3⟩ | ⟨e1,e2,e3⟩ | ⟨e1,e2,e3⟩
  ·exact .inl ⟨e1,trivial⟩
  ·exact .inr ⟨e1,e2⟩
  ·rw [q1,e3] at hb;simp at hb
 have S':((p.scope=[])=True∧True)∨((p.scope=[])=False∧wordOk p.scope=true):=by
  rcases S with ⟨s1,s3⟩ | ⟨s1,s2,s3⟩ | ⟨s1,s2,s3⟩
  ·exact .inl ⟨s1,trivial⟩
  ·exact .inr ⟨s1,s2⟩
  ·rw [s3] at hb;simp at hb
 clear E S
 rw [hN']
 cases hu:(u1 && u2)
 ·rw [hu] at x3
  rw [if_pos rfl]
  rcases E' with ⟨e1,e2⟩ | ⟨e1,e2⟩<;>rcases S' with ⟨s1,s2⟩ | ⟨s1,s2⟩ <;>
   simp [c53,KL,lendF,d1,d2,d3,d4,kn,ke,ks,q1,a1,a2,a3,x1,x2,x3,e1,e2,s1,s2]
 rw [hu] at x3
 rw [if_neg (by simp)]
 by_cases c6:p.limit < 0
 ·rw [if_pos (.inl c6)]
  rcases E' with ⟨e1,e2⟩ | ⟨e1,e2⟩<;>rcases S' with ⟨s1,s2⟩ | ⟨s1,s2⟩ <;>
   simp [c53,KL,lendF,d1,d2,d3,d4,kn,ke,ks,q1,a1,a2,a3,x1,x2,x3,e1,e2,s1,s2,c6]
 by_cases c7:65536 < p.limit
 ·rw [if_pos (.inr (.inl c7))]
  rcases E' with ⟨e1,e2⟩ | ⟨e1,e2⟩<;>rcases S' with ⟨s1,s2⟩ | ⟨s1,s2⟩ <;>
   simp [c53,KL,lendF,d1,d2,d3,d4,kn,ke,ks,q1,a1,a2,a3,x1,x2,x3,e1,e2,s1,s2,c6,c7]
 by_cases c8:0 < p.limit∧p.scope=[]
 ·rw [if_pos (.inr (.inr c8))]
  have s1:(p.scope=[])=True:=by simp [c8.2]
  have s2:=True.intro
  have e9:=c8.1
  rcases E' with ⟨e1,e2⟩ | ⟨e1,e2⟩ <;>
   simp [c53,KL,lendF,d1,d2,d3,d4,kn,ke,ks,q1,a1,a2,a3,x1,x2,x3,e1,e2,s1,s2,c6,c7,e9]
 rw [if_neg (by rintro (q | q | q);exact c6 q;exact c7 q;exact c8 q)]
 have C:((p.scope=[])=True∧True∧(0 < p.limit)=False)∨((p.scope=[])=False∧wordOk p.scope=true∧(0 < p.limit)=False)∨((p.scope=[])=False∧wordOk p.scope=true∧(0 < p.limit)=True):=by
  by_cases l:0 < p.limit
  ·rcases S' with ⟨s1,s2⟩ | ⟨s1,s2⟩
   ·exact absurd ⟨l,of_eq_true s1⟩ c8
   ·exact .inr (.inr ⟨s1,s2,by simp [l]⟩)
  ·rcases S' with ⟨s1,s2⟩ | ⟨s1,s2⟩
   ·exact .inl ⟨s1,s2,by simp;omega⟩
   ·exact .inr (.inl ⟨s1,s2,by simp;omega⟩)
 by_cases he:e=0
 case neg=>
  have ht2:treeE p=e:=by rw [ht,if_neg he]
  rw [ht2,if_pos he]
  rcases E' with ⟨e1,e2⟩ | ⟨e1,e2⟩<;>rcases C with ⟨s1,s2,l1⟩ | ⟨s1,s2,l1⟩ | ⟨s1,s2,l1⟩ <;>
   simp [c53,KL,lendF,d1,d2,d3,d4,kn,ke,ks,q1,a1,a2,a3,x1,x2,x3,e1,e2,s1,s2,c6,c7,l1,hbn,r1,kv,b1,b2,b3,he]
 subst he
 by_cases hl:s.length=p.nodes.l.length
 case neg=>
  have ht2:treeE p=3:=by rw [ht,if_pos rfl,if_neg hl]
  have hl':((s.length:Int)=(p.nodes.l.length:Int))=False:=by simp;omega
  rw [ht2,if_pos (by decide)]
  rcases E' with ⟨e1,e2⟩ | ⟨e1,e2⟩<;>rcases C with ⟨s1,s2,l1⟩ | ⟨s1,s2,l1⟩ | ⟨s1,s2,l1⟩ <;>
   simp [c53,KL,lendF,d1,d2,d3,d4,kn,ke,ks,q1,a1,a2,a3,x1,x2,x3,e1,e2,s1,s2,c6,c7,l1,hbn,r1,kv,b1,b2,b3,hl']
 have ht2:treeE p=0:=by rw [ht,if_pos rfl,if_pos hl]
 have hl':((s.length:Int)=(p.nodes.l.length:Int))=True:=by simp;omega
 rw [ht2,if_neg (by decide)]
 by_cases n1:(p.uses.l.map Us.al).Nodup
 case neg=>
  rw [if_pos (.inl n1)]
  obtain ⟨v1,y1,y2⟩:=LD.2 n1
  rcases E' with ⟨e1,e2⟩ | ⟨e1,e2⟩<;>rcases C with ⟨s1,s2,l1⟩ | ⟨s1,s2,l1⟩ | ⟨s1,s2,l1⟩ <;>
   simp [c53,KL,lendF,d1,d2,d3,d4,kn,ke,ks,q1,a1,a2,a3,x1,x2,x3,e1,e2,s1,s2,c6,c7,l1,hbn,r1,kv,b1,b2,b3,hl',y1,y2]
 obtain ⟨v1,y1,y2⟩:=LD.1 n1
 by_cases n2:p.reveal.l.Nodup
 case neg=>
  rw [if_pos (.inr n2)]
  obtain ⟨v2,y3,y4⟩:=LF.2 n2
  rcases E' with ⟨e1,e2⟩ | ⟨e1,e2⟩<;>rcases C with ⟨s1,s2,l1⟩ | ⟨s1,s2,l1⟩ | ⟨s1,s2,l1⟩ <;>
   simp [c53,KL,lendF,d1,d2,d3,d4,kn,ke,ks,q1,a1,a2,a3,x1,x2,x3,e1,e2,s1,s2,c6,c7,l1,hbn,r1,kv,b1,b2,b3,hl',y1,y2,y3,y4]
 obtain ⟨v2,y3,y4⟩:=LF.1 n2
 rw [if_neg (by rintro (q | q);exact q n1;exact q n2)]
 cases w1:p.reveal.l.all (fun r=>used p r.al)
 ·obtain ⟨v3,y5,y6⟩:=LG.2 w1
  rw [if_pos rfl]
  rcases E' with ⟨e1,e2⟩ | ⟨e1,e2⟩<;>rcases C with ⟨s1,s2,l1⟩ | ⟨s1,s2,l1⟩ | ⟨s1,s2,l1⟩ <;>
   simp [c53,KL,lendF,d1,d2,d3,d4,kn,ke,ks,q1,a1,a2,a3,x1,x2,x3,e1,e2,s1,s2,c6,c7,l1,hbn,r1,kv,b1,b2,b3,hl',y1,y2,y3,y4,y5,y6]
 obtain ⟨v3,y5,y6⟩:=LG.1 w1
 rw [if_neg (by simp)]
 cases w2:p.nodes.l.all (fun n=>!(decide (n.k=9)) || used p n.nm)
 ·obtain ⟨v4,y7,y8⟩:=LH.2 w2
  rw [if_pos rfl]
  rcases E' with ⟨e1,e2⟩ | ⟨e1,e2⟩<;>rcases C with ⟨s1,s2,l1⟩ | ⟨s1,s2,l1⟩ | ⟨s1,s2,l1⟩ <;>
   simp [c53,KL,lendF,d1,d2,d3,d4,kn,ke,ks,q1,a1,a2,a3,x1,x2,x3,e1,e2,s1,s2,c6,c7,l1,hbn,r1,kv,b1,b2,b3,hl',y1,y2,y3,y4,y5,y6,y7,y8]
 obtain ⟨v4,y7⟩:=LH.1 w2
 rw [if_neg (by simp)]
 rcases E' with ⟨e1,e2⟩ | ⟨e1,e2⟩<;>rcases C with ⟨s1,s2,l1⟩ | ⟨s1,s2,l1⟩ | ⟨s1,s2,l1⟩ <;>
  simp [c53,KL,lendF,d1,d2,d3,d4,kn,ke,ks,q1,a1,a2,a3,x1,x2,x3,e1,e2,s1,s2,c6,c7,l1,hbn,r1,kv,b1,b2,b3,hl',y1,y2,y3,y4,y5,y6,y7]
end Go.Ab.Pz
