/-
  The sizes that the statements allow; what is read again is the same.
-/
import Derived.Test.YtmedbcjomklohaaAb5tS8
import Derived.Test.YtmedbcjomklohaaAb5tS9
import Derived.Test.YtmedbcjomklohaaAb5tS6
set_option linter.unusedVariables false
set_option linter.unusedSimpArgs false
set_option linter.unusedSectionVars false
namespace Go.Ab.WireT
set_option maxRecDepth 100000
theorem wts_le {α:Type} {r:α→It} {n b:Nat}:∀ {l:List α},l.length≤n→(∀ x∈l,wt (r x)≤b)→wts (l.map r)≤n * b
 | [],_,_=>by simp [wts]
 | x :: l,hl,h=>by
  match n,hl with
  | m+1,hl=>
   have h1:=h x (by simp)
   have h2:=wts_le (n:=m) (b:=b) (l:=l) (by simpa using hl) (fun y hy=>h y (by simp [hy]))
   simp only [List.map_cons,wts]
   rw [Nat.succ_mul]
   omega
theorem sz26 {s:Sl (List UInt8)} (h:few26 s):wt (rNs s)≤3000:=by
 have:=wts_le (r:=nI) (n:=20) (b:=141) h.1 (fun x hx=>by have:=h.2 x hx;simp [wt,wts];omega)
 have e:wt (rNs s)=1+wts (s.l.map nI):=by simp [wt]
 omega
theorem sz75 {s:Sl Ig} (h:few75 s):wt (rIs s)≤4000:=by
 have:=wts_le (r:=rI) (n:=20) (b:=150) h.1 (fun x hx=>by have:=h.2 x hx;unfold rI intR;cases x.ng<;>simp [wt,wts,sg]<;>omega)
 have e:wt (rIs s)=1+wts (s.l.map rI):=by simp [wt]
 omega
theorem sz25 {x:Pf} (h:few25 x):wt (rPf x)≤90000:=by
 obtain ⟨h1,h2,h3,h4,h5⟩:=h
 have e:=wts_le (r:=rIs) (n:=20) (b:=4000) h4 (fun y hy=>sz75 (h5 y hy))
 have:=sz26 h3
 have:=sz75 h2
 have e1:wt (rPf x)=1+(wt (nI x.c)+(wt (rIs x.rs)+(wt (rNs x.gs)+(wt (rIss x.ls)+0)))):=by simp [wt,wts]
 have e2:wt (nI x.c)=1+x.c.length:=by simp [wt,wts]
 have e3:wt (rIss x.ls)=1+wts (x.ls.l.map rIs):=by simp [wt]
 omega
theorem numB_len (n:Int):(numB n).length≤8:=by
 unfold numB
 split
 ·simp
 ·unfold natB
  have:=trim_len (nat8 n.toNat)
  simp [nat8] at this ⊢
  exact this
theorem szSh {y:Sh} (h:fewSh y):wt (rSh y)≤5000:=by
 obtain ⟨h1,h2,h3⟩:=h
 have a1:y.a.length≤140:=h2.2 y.a (by simp)
 have a2:y.w.length≤140:=h2.2 y.w (by simp)
 have:=sz26 h3
 have:=numB_len y.ve
 have e1:wt (rSh y)=1+(1+y.is.length+(1+(numB y.ve).length+(1+y.a.length+(1+y.w.length+(wt (rNs y.ds)+0))))):=by simp [wt,wts]
 omega
/- Sameness. -/
end Go.Ab.WireT
