/-
  Sameness of messages: presentations, requests and responses.
-/
import Derived.Test.YtmedbcjomklohaaAb5tS7
import Derived.Test.YtmedbcjomklohaaAb5tS2
set_option linter.unusedVariables false
set_option linter.unusedSimpArgs false
set_option linter.unusedSectionVars false
namespace Go.Ab.WireT
set_option maxRecDepth 100000
set_option maxHeartbeats 1000000
theorem f8_s (a b:Pr) (ha:wts (rPr a)≤1000000) (h:Heap) (q:eqL eqSh a.sh.l b.sh.l=false):(mu K).fn 8 [a.av,b.av] h=some (.val (.bool false) h):=by
 simp only [wts] at ha
 have v0:wt (rShs a.sh)≤1000000:=by omega
 have v1:wt (rNs a.cm)≤1000000:=by omega
 have v2:wt (rNss a.pa)≤1000000:=by omega
 have v3:wt (rNss a.sq)≤1000000:=by omega
 have v4:wt (rNs a.cp)≤1000000:=by omega
 have v5:wt (rPf a.p)≤1000000:=by omega
 have k1:=fun h=>f29 a.cm b.cm (len_rL v1) h
 have k2:=fun h=>f30 a.pa b.pa (len_rL v2) (fun x hx=>len_rL (mem_rL v2 x hx)) h
 have k3:=fun h=>f30 a.sq b.sq (len_rL v3) (fun x hx=>len_rL (mem_rL v3 x hx)) h
 have k4:=fun h=>f29 a.cp b.cp (len_rL v4) h
 have k5:=fun h=>f31 a.p b.p v5 h
 rw [fn_go (KX _ _ _) fn8 rfl (by simp [c8])]
 by_cases hl:a.sh.l.length=b.sh.l.length
 ·have k:=f8_loop a b (h:=h) v0 a.sh.l b.sh.l [] [] rfl rfl hl rfl
  simp only [List.length_nil,Int.natCast_zero] at k
  obtain ⟨Fr,k⟩:=k.2 q
  obtain ⟨env,k,g4⟩:=retOf_some k
  simp [c8,KL,hl,k,g4]
 ·have hl2:¬ (a.sh.l.length:Int)=(b.sh.l.length:Int):=by omega
  simp [c8,KL,hl2]
theorem f8_0 (a b:Pr) (ha:wts (rPr a)≤1000000) (h:Heap) (q:eqL eqSh a.sh.l b.sh.l=true)  (c0:eqNs a.cm b.cm=false):(mu K).fn 8 [a.av,b.av] h=some (.val (.bool (false)) h):=by
 simp only [wts] at ha
 have v0:wt (rShs a.sh)≤1000000:=by omega
 have v1:wt (rNs a.cm)≤1000000:=by omega
 have v2:wt (rNss a.pa)≤1000000:=by omega
 have v3:wt (rNss a.sq)≤1000000:=by omega
 have v4:wt (rNs a.cp)≤1000000:=by omega
 have v5:wt (rPf a.p)≤1000000:=by omega
 have k1:=fun h=>f29 a.cm b.cm (len_rL v1) h
 have k2:=fun h=>f30 a.pa b.pa (len_rL v2) (fun x hx=>len_rL (mem_rL v2 x hx)) h
 have k3:=fun h=>f30 a.sq b.sq (len_rL v3) (fun x hx=>len_rL (mem_rL v3 x hx)) h
 have k4:=fun h=>f29 a.cp b.cp (len_rL v4) h
 have k5:=fun h=>f31 a.p b.p v5 h
 rw [fn_go (KX _ _ _) fn8 rfl (by simp [c8])]
 have hl:=eqL_len q
 have k:=f8_loop a b (h:=h) v0 a.sh.l b.sh.l [] [] rfl rfl hl rfl
 simp only [List.length_nil,Int.natCast_zero] at k
 obtain ⟨env,k,g2,g3⟩:=k.1 q
 simp [c8,KL,hl,k,g2,g3,k1,k2,k3,k4,k5,eqF,eqFs,c0]
theorem f8_1 (a b:Pr) (ha:wts (rPr a)≤1000000) (h:Heap) (q:eqL eqSh a.sh.l b.sh.l=true) (c0:eqNs a.cm b.cm=true) (c1:eqNss a.pa b.pa=false):(mu K).fn 8 [a.av,b.av] h=some (.val (.bool (false)) h):=by
 simp only [wts] at ha
 have v0:wt (rShs a.sh)≤1000000:=by omega
 have v1:wt (rNs a.cm)≤1000000:=by omega
 have v2:wt (rNss a.pa)≤1000000:=by omega
 have v3:wt (rNss a.sq)≤1000000:=by omega
 have v4:wt (rNs a.cp)≤1000000:=by omega
 have v5:wt (rPf a.p)≤1000000:=by omega
 have k1:=fun h=>f29 a.cm b.cm (len_rL v1) h
 have k2:=fun h=>f30 a.pa b.pa (len_rL v2) (fun x hx=>len_rL (mem_rL v2 x hx)) h
 have k3:=fun h=>f30 a.sq b.sq (len_rL v3) (fun x hx=>len_rL (mem_rL v3 x hx)) h
 have k4:=fun h=>f29 a.cp b.cp (len_rL v4) h
 have k5:=fun h=>f31 a.p b.p v5 h
 rw [fn_go (KX _ _ _) fn8 rfl (by simp [c8])]
 have hl:=eqL_len q
 have k:=f8_loop a b (h:=h) v0 a.sh.l b.sh.l [] [] rfl rfl hl rfl
 simp only [List.length_nil,Int.natCast_zero] at k
 obtain ⟨env,k,g2,g3⟩:=k.1 q
 simp [c8,KL,hl,k,g2,g3,k1,k2,k3,k4,k5,eqF,eqFs,c0,c1]
theorem f8_2 (a b:Pr) (ha:wts (rPr a)≤1000000) (h:Heap) (q:eqL eqSh a.sh.l b.sh.l=true) (c0:eqNs a.cm b.cm=true) (c1:eqNss a.pa b.pa=true) (c2:eqNss a.sq b.sq=false):(mu K).fn 8 [a.av,b.av] h=some (.val (.bool (false)) h):=by
 simp only [wts] at ha
 have v0:wt (rShs a.sh)≤1000000:=by omega
 have v1:wt (rNs a.cm)≤1000000:=by omega
 have v2:wt (rNss a.pa)≤1000000:=by omega
 have v3:wt (rNss a.sq)≤1000000:=by omega
 have v4:wt (rNs a.cp)≤1000000:=by omega
 have v5:wt (rPf a.p)≤1000000:=by omega
 have k1:=fun h=>f29 a.cm b.cm (len_rL v1) h
 have k2:=fun h=>f30 a.pa b.pa (len_rL v2) (fun x hx=>len_rL (mem_rL v2 x hx)) h
 have k3:=fun h=>f30 a.sq b.sq (len_rL v3) (fun x hx=>len_rL (mem_rL v3 x hx)) h
 have k4:=fun h=>f29 a.cp b.cp (len_rL v4) h
 have k5:=fun h=>f31 a.p b.p v5 h
 rw [fn_go (KX _ _ _) fn8 rfl (by simp [c8])]
 have hl:=eqL_len q
 have k:=f8_loop a b (h:=h) v0 a.sh.l b.sh.l [] [] rfl rfl hl rfl
 simp only [List.length_nil,Int.natCast_zero] at k
 obtain ⟨env,k,g2,g3⟩:=k.1 q
 simp [c8,KL,hl,k,g2,g3,k1,k2,k3,k4,k5,eqF,eqFs,c0,c1,c2]
theorem f8_3 (a b:Pr) (ha:wts (rPr a)≤1000000) (h:Heap) (q:eqL eqSh a.sh.l b.sh.l=true) (c0:eqNs a.cm b.cm=true) (c1:eqNss a.pa b.pa=true) (c2:eqNss a.sq b.sq=true) (c3:¬ a.ny=b.ny):(mu K).fn 8 [a.av,b.av] h=some (.val (.bool (false)) h):=by
 simp only [wts] at ha
 have v0:wt (rShs a.sh)≤1000000:=by omega
 have v1:wt (rNs a.cm)≤1000000:=by omega
 have v2:wt (rNss a.pa)≤1000000:=by omega
 have v3:wt (rNss a.sq)≤1000000:=by omega
 have v4:wt (rNs a.cp)≤1000000:=by omega
 have v5:wt (rPf a.p)≤1000000:=by omega
 have k1:=fun h=>f29 a.cm b.cm (len_rL v1) h
 have k2:=fun h=>f30 a.pa b.pa (len_rL v2) (fun x hx=>len_rL (mem_rL v2 x hx)) h
 have k3:=fun h=>f30 a.sq b.sq (len_rL v3) (fun x hx=>len_rL (mem_rL v3 x hx)) h
 have k4:=fun h=>f29 a.cp b.cp (len_rL v4) h
 have k5:=fun h=>f31 a.p b.p v5 h
 rw [fn_go (KX _ _ _) fn8 rfl (by simp [c8])]
 have hl:=eqL_len q
 have k:=f8_loop a b (h:=h) v0 a.sh.l b.sh.l [] [] rfl rfl hl rfl
 simp only [List.length_nil,Int.natCast_zero] at k
 obtain ⟨env,k,g2,g3⟩:=k.1 q
 simp [c8,KL,hl,k,g2,g3,k1,k2,k3,k4,k5,eqF,eqFs,c0,c1,c2,c3]
theorem f8_4 (a b:Pr) (ha:wts (rPr a)≤1000000) (h:Heap) (q:eqL eqSh a.sh.l b.sh.l=true) (c0:eqNs a.cm b.cm=true) (c1:eqNss a.pa b.pa=true) (c2:eqNss a.sq b.sq=true) (c3:a.ny=b.ny) (c4:¬ a.se=b.se):(mu K).fn 8 [a.av,b.av] h=some (.val (.bool (false)) h):=by
 simp only [wts] at ha
 have v0:wt (rShs a.sh)≤1000000:=by omega
 have v1:wt (rNs a.cm)≤1000000:=by omega
 have v2:wt (rNss a.pa)≤1000000:=by omega
 have v3:wt (rNss a.sq)≤1000000:=by omega
 have v4:wt (rNs a.cp)≤1000000:=by omega
 have v5:wt (rPf a.p)≤1000000:=by omega
 have k1:=fun h=>f29 a.cm b.cm (len_rL v1) h
 have k2:=fun h=>f30 a.pa b.pa (len_rL v2) (fun x hx=>len_rL (mem_rL v2 x hx)) h
 have k3:=fun h=>f30 a.sq b.sq (len_rL v3) (fun x hx=>len_rL (mem_rL v3 x hx)) h
 have k4:=fun h=>f29 a.cp b.cp (len_rL v4) h
 have k5:=fun h=>f31 a.p b.p v5 h
 rw [fn_go (KX _ _ _) fn8 rfl (by simp [c8])]
 have hl:=eqL_len q
 have k:=f8_loop a b (h:=h) v0 a.sh.l b.sh.l [] [] rfl rfl hl rfl
 simp only [List.length_nil,Int.natCast_zero] at k
 obtain ⟨env,k,g2,g3⟩:=k.1 q
 simp [c8,KL,hl,k,g2,g3,k1,k2,k3,k4,k5,eqF,eqFs,c0,c1,c2,c3,c4]
theorem f8_5 (a b:Pr) (ha:wts (rPr a)≤1000000) (h:Heap) (q:eqL eqSh a.sh.l b.sh.l=true) (c0:eqNs a.cm b.cm=true) (c1:eqNss a.pa b.pa=true) (c2:eqNss a.sq b.sq=true) (c3:a.ny=b.ny) (c4:a.se=b.se) (c5:¬ a.co=b.co):(mu K).fn 8 [a.av,b.av] h=some (.val (.bool (false)) h):=by
 simp only [wts] at ha
 have v0:wt (rShs a.sh)≤1000000:=by omega
 have v1:wt (rNs a.cm)≤1000000:=by omega
 have v2:wt (rNss a.pa)≤1000000:=by omega
 have v3:wt (rNss a.sq)≤1000000:=by omega
 have v4:wt (rNs a.cp)≤1000000:=by omega
 have v5:wt (rPf a.p)≤1000000:=by omega
 have k1:=fun h=>f29 a.cm b.cm (len_rL v1) h
 have k2:=fun h=>f30 a.pa b.pa (len_rL v2) (fun x hx=>len_rL (mem_rL v2 x hx)) h
 have k3:=fun h=>f30 a.sq b.sq (len_rL v3) (fun x hx=>len_rL (mem_rL v3 x hx)) h
 have k4:=fun h=>f29 a.cp b.cp (len_rL v4) h
 have k5:=fun h=>f31 a.p b.p v5 h
 rw [fn_go (KX _ _ _) fn8 rfl (by simp [c8])]
 have hl:=eqL_len q
 have k:=f8_loop a b (h:=h) v0 a.sh.l b.sh.l [] [] rfl rfl hl rfl
 simp only [List.length_nil,Int.natCast_zero] at k
 obtain ⟨env,k,g2,g3⟩:=k.1 q
 simp [c8,KL,hl,k,g2,g3,k1,k2,k3,k4,k5,eqF,eqFs,c0,c1,c2,c3,c4,c5]
theorem f8_6 (a b:Pr) (ha:wts (rPr a)≤1000000) (h:Heap) (q:eqL eqSh a.sh.l b.sh.l=true) (c0:eqNs a.cm b.cm=true) (c1:eqNss a.pa b.pa=true) (c2:eqNss a.sq b.sq=true) (c3:a.ny=b.ny) (c4:a.se=b.se) (c5:a.co=b.co) (c6:eqNs a.cp b.cp=false):(mu K).fn 8 [a.av,b.av] h=some (.val (.bool (false)) h):=by
 simp only [wts] at ha
 have v0:wt (rShs a.sh)≤1000000:=by omega
 have v1:wt (rNs a.cm)≤1000000:=by omega
 have v2:wt (rNss a.pa)≤1000000:=by omega
 have v3:wt (rNss a.sq)≤1000000:=by omega
 have v4:wt (rNs a.cp)≤1000000:=by omega
 have v5:wt (rPf a.p)≤1000000:=by omega
 have k1:=fun h=>f29 a.cm b.cm (len_rL v1) h
 have k2:=fun h=>f30 a.pa b.pa (len_rL v2) (fun x hx=>len_rL (mem_rL v2 x hx)) h
 have k3:=fun h=>f30 a.sq b.sq (len_rL v3) (fun x hx=>len_rL (mem_rL v3 x hx)) h
 have k4:=fun h=>f29 a.cp b.cp (len_rL v4) h
 have k5:=fun h=>f31 a.p b.p v5 h
 rw [fn_go (KX _ _ _) fn8 rfl (by simp [c8])]
 have hl:=eqL_len q
 have k:=f8_loop a b (h:=h) v0 a.sh.l b.sh.l [] [] rfl rfl hl rfl
 simp only [List.length_nil,Int.natCast_zero] at k
 obtain ⟨env,k,g2,g3⟩:=k.1 q
 simp [c8,KL,hl,k,g2,g3,k1,k2,k3,k4,k5,eqF,eqFs,c0,c1,c2,c3,c4,c5,c6]
theorem f8_7 (a b:Pr) (ha:wts (rPr a)≤1000000) (h:Heap) (q:eqL eqSh a.sh.l b.sh.l=true) (c0:eqNs a.cm b.cm=true) (c1:eqNss a.pa b.pa=true) (c2:eqNss a.sq b.sq=true) (c3:a.ny=b.ny) (c4:a.se=b.se) (c5:a.co=b.co) (c6:eqNs a.cp b.cp=true) (c7:(decide (a.es.a=b.es.a) && decide (a.es.b=b.es.b))=false):(mu K).fn 8 [a.av,b.av] h=some (.val (.bool (false)) h):=by
 simp only [wts] at ha
 have v0:wt (rShs a.sh)≤1000000:=by omega
 have v1:wt (rNs a.cm)≤1000000:=by omega
 have v2:wt (rNss a.pa)≤1000000:=by omega
 have v3:wt (rNss a.sq)≤1000000:=by omega
 have v4:wt (rNs a.cp)≤1000000:=by omega
 have v5:wt (rPf a.p)≤1000000:=by omega
 have k1:=fun h=>f29 a.cm b.cm (len_rL v1) h
 have k2:=fun h=>f30 a.pa b.pa (len_rL v2) (fun x hx=>len_rL (mem_rL v2 x hx)) h
 have k3:=fun h=>f30 a.sq b.sq (len_rL v3) (fun x hx=>len_rL (mem_rL v3 x hx)) h
 have k4:=fun h=>f29 a.cp b.cp (len_rL v4) h
 have k5:=fun h=>f31 a.p b.p v5 h
 rw [fn_go (KX _ _ _) fn8 rfl (by simp [c8])]
 have hl:=eqL_len q
 have k:=f8_loop a b (h:=h) v0 a.sh.l b.sh.l [] [] rfl rfl hl rfl
 simp only [List.length_nil,Int.natCast_zero] at k
 obtain ⟨env,k,g2,g3⟩:=k.1 q
 simp [c8,KL,hl,k,g2,g3,k1,k2,k3,k4,k5,eqF,eqFs,c0,c1,c2,c3,c4,c5,c6,c7]
theorem f8_8 (a b:Pr) (ha:wts (rPr a)≤1000000) (h:Heap) (q:eqL eqSh a.sh.l b.sh.l=true) (c0:eqNs a.cm b.cm=true) (c1:eqNss a.pa b.pa=true) (c2:eqNss a.sq b.sq=true) (c3:a.ny=b.ny) (c4:a.se=b.se) (c5:a.co=b.co) (c6:eqNs a.cp b.cp=true) (c7:a.es.a=b.es.a∧a.es.b=b.es.b):(mu K).fn 8 [a.av,b.av] h=some (.val (.bool (eqPf a.p b.p)) h):=by
 simp only [wts] at ha
 have v0:wt (rShs a.sh)≤1000000:=by omega
 have v1:wt (rNs a.cm)≤1000000:=by omega
 have v2:wt (rNss a.pa)≤1000000:=by omega
 have v3:wt (rNss a.sq)≤1000000:=by omega
 have v4:wt (rNs a.cp)≤1000000:=by omega
 have v5:wt (rPf a.p)≤1000000:=by omega
 have k1:=fun h=>f29 a.cm b.cm (len_rL v1) h
 have k2:=fun h=>f30 a.pa b.pa (len_rL v2) (fun x hx=>len_rL (mem_rL v2 x hx)) h
 have k3:=fun h=>f30 a.sq b.sq (len_rL v3) (fun x hx=>len_rL (mem_rL v3 x hx)) h
 have k4:=fun h=>f29 a.cp b.cp (len_rL v4) h
 have k5:=fun h=>f31 a.p b.p v5 h
 rw [fn_go (KX _ _ _) fn8 rfl (by simp [c8])]
 have hl:=eqL_len q
 have k:=f8_loop a b (h:=h) v0 a.sh.l b.sh.l [] [] rfl rfl hl rfl
 simp only [List.length_nil,Int.natCast_zero] at k
 obtain ⟨env,k,g2,g3⟩:=k.1 q
 simp [c8,KL,hl,k,g2,g3,k1,k2,k3,k4,k5,eqF,eqFs,c0,c1,c2,c3,c4,c5,c6,c7]
theorem f8 (a b:Pr) (ha:wts (rPr a)≤1000000) (h:Heap):(mu K).fn 8 [a.av,b.av] h=some (.val (.bool (eqPr a b)) h):=by
 cases q:eqL eqSh a.sh.l b.sh.l
 case false=>rw [f8_s a b ha h q];simp [eqPr,q]
 cases c0:eqNs a.cm b.cm
 case false=>rw [f8_0 a b ha h q  c0];simp [eqPr,q,c0]
 cases c1:eqNss a.pa b.pa
 case false=>rw [f8_1 a b ha h q c0 c1];simp [eqPr,q,c0,c1]
 cases c2:eqNss a.sq b.sq
 case false=>rw [f8_2 a b ha h q c0 c1 c2];simp [eqPr,q,c0,c1,c2]
 by_cases c3:a.ny=b.ny
 case neg=>rw [f8_3 a b ha h q c0 c1 c2 c3];simp [eqPr,q,c0,c1,c2,c3]
 by_cases c4:a.se=b.se
 case neg=>rw [f8_4 a b ha h q c0 c1 c2 c3 c4];simp [eqPr,q,c0,c1,c2,c3,c4]
 by_cases c5:a.co=b.co
 case neg=>rw [f8_5 a b ha h q c0 c1 c2 c3 c4 c5];simp [eqPr,q,c0,c1,c2,c3,c4,c5]
 cases c6:eqNs a.cp b.cp
 case false=>rw [f8_6 a b ha h q c0 c1 c2 c3 c4 c5 c6];simp [eqPr,q,c0,c1,c2,c3,c4,c5,c6]
 by_cases c7:a.es.a=b.es.a∧a.es.b=b.es.b
 case neg=>
  have n7:(decide (a.es.a=b.es.a) && decide (a.es.b=b.es.b))=false:=by simpa using c7
  rw [f8_7 a b ha h q c0 c1 c2 c3 c4 c5 c6 n7];simp [eqPr,q,c0,c1,c2,c3,c4,c5,c6,n7]
 rw [f8_8 a b ha h q c0 c1 c2 c3 c4 c5 c6 c7]
 simp [eqPr,eqB,q,c0,c1,c2,c3,c4,c5,c6,c7]
end Go.Ab.WireT
