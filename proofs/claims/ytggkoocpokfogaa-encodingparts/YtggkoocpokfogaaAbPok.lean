/-
  The operations that read no memory: all of them.
-/
import Derived.Test.YtggkoocpokfogaaAbPops
set_option linter.unusedVariables false
set_option linter.unusedSimpArgs false
namespace Go.Ab
open Go.RowKit
variable {P : Program} {w : World} {G : Gm} {L : Loc → Prop}

theorem pure_ok {H : Hints} {f : FuncId} {o : Oper} {q : POp} (h : cOp P H f o = .p q) {e : Env} {a : Act} (he : EnvRel w G L e a) {v : AV} (hv : evP q e = some v) : Yields P w G L a o v := by
  unfold cOp at h
  cases hop : o.op with
  | move x =>
    simp only [hop] at h
    split at h
    · rename_i y hy
      injection h with h; subst h
      simp only [evP, Option.some.injEq] at hv
      subst hv
      exact y_mv he (.inl hop) hy
    · cases h
  | assign x =>
    simp only [hop] at h
    split at h
    · rename_i y hy
      split at h
      · cases h
      · injection h with h; subst h
        simp only [evP, Option.some.injEq] at hv
        subst hv
        exact y_mv he (.inr hop) hy
    · cases h
  | pick c x z =>
    simp only [hop] at h
    split at h
    · rename_i c' x' z' hc hx hz
      injection h with h; subst h
      exact y_pick he hop hc hx hz hv
    · cases h
  | build t ps =>
    simp only [hop] at h
    split at h
    · rename_i z pl hz hpl
      split at h
      · rename_i s hs
        injection h with h; subst h
        exact y_bld he hop hz hpl hs hv
      · cases h
    · cases h
  | nilCheck x =>
    simp only [hop] at h
    split at h
    · rename_i y hy
      injection h with h; subst h
      exact y_nilck he hop hy hv
    · cases h
  | binOp b t x z ty =>
    simp only [hop] at h
    split at h
    · rename_i x' z' hx hz
      split at h
      · injection h with h; subst h
        exact y_bin he hop hx hz hv
      · injection h with h; subst h
        exact y_bin he hop hx hz hv
      · rename_i hu
        split at h
        · injection h with h; subst h
          exact y_eqB (ng := false) he hop hx hz hu hv
        · injection h with h; subst h
          exact y_eqB (ng := true) he hop hx hz hu hv
        · cases h
      · rename_i d _ _ _ hu
        split at h
        · rename_i k hk
          split at h
          · injection h with h; subst h
            exact y_eqN (ng := false) he hop hx hk hu hv
          · injection h with h; subst h
            exact y_eqN (ng := true) he hop hx hk hu hv
          · cases h
        · split at h
          · split at h
            · rename_i j hi
              split at h
              · injection h with h; subst h
                exact y_eqP (ng := false) he hop hx hz hu hi hv
              · injection h with h; subst h
                exact y_eqP (ng := true) he hop hx hz hu hi hv
              · cases h
            · cases h
          · split at h
            · rename_i ks hks
              split at h
              · injection h with h; subst h
                exact y_eqA (ng := false) he hop hx hz hks hv
              · injection h with h; subst h
                exact y_eqA (ng := true) he hop hx hz hks hv
              · cases h
            · cases h
          · cases h
      · cases h
    · cases h
  | unOp u t x =>
    simp only [hop] at h
    split at h
    · rename_i y hy
      injection h with h; subst h
      exact y_not he hop hy hv
    · rename_i y hy
      injection h with h; subst h
      exact y_neg he hop hy hv
    · cases h
  | convert s d x =>
    simp only [hop] at h
    split at h
    · rename_i y k0 k hy hs hd
      injection h with h; subst h
      exact y_cvI he hop hy hs hd hv
    · rename_i y hy hs hd
      injection h with h; subst h
      exact y_cvS he hop hy hs hd hv
    · split at h <;> cases h
    · split at h <;> cases h
    · repeat' (first | (cases h; done) | split at h)
    · repeat' (first | (cases h; done) | split at h)
    · cases h
  | makeInterface t x =>
    simp only [hop] at h
    split at h
    · cases h
    · rename_i y d hni hy hu
      injection h with h; subst h
      simp only [evP, Option.some.injEq] at hv
      subst hv
      exact y_mkI he hop hy hu (fun ms e => hni ms e)
    · cases h
  | makeFunc fn x z =>
    simp only [hop] at h
    split at h
    · rename_i x' z' hx hz
      injection h with h; subst h
      simp only [evP, Option.some.injEq] at hv
      subst hv
      exact y_mkF he hop hx hz
    · cases h
  | slice t x lo hi mx =>
    simp only [hop] at h
    split at h
    · rename_i y lo' hi' hu hx hl hh hm
      injection h with h; subst h
      have hmx : mx = none := by
        cases mx with
        | none => rfl
        | some m => simp only [cOpdO] at hm; split at hm <;> cases hm
      subst hmx
      exact y_slS he hop hx hl hh hu hv
    · split at h <;> cases h
    · split at h <;> cases h
    · cases h
  | fieldAddr t x i =>
    simp only [hop] at h
    split at h
    · rename_i y off ft hy hf
      split at h
      · rename_i ag sz hsh
        split at h
        · rename_i hsz
          injection h with h; subst h
          exact y_fa he hop hy hf hsh hsz hv
        · cases h
      · cases h
    · cases h
  | field t x i =>
    simp only [hop] at h
    split at h
    · rename_i y off ft hy hf
      split at h
      · rename_i ag sz hsh
        injection h with h; subst h
        exact y_fld he hop hy hf hsh hv
      · cases h
    · cases h
  | indexAddr t x i =>
    simp only [hop] at h
    split at h
    · rename_i y j n el hx hi hu
      split at h
      · rename_i ag sz hsh
        injection h with h; subst h
        exact y_iaA he hop hx hi hu hsh hv
      · cases h
    · rename_i y j el hx hi hu
      split at h
      · rename_i ag sz hsh
        injection h with h; subst h
        exact y_iaS he hop hx hi hu hsh hv
      · cases h
    · cases h
  | index t x i =>
    simp only [hop] at h
    split at h
    · rename_i y j n el hx hi hu
      split at h
      · rename_i ag sz hsh
        injection h with h; subst h
        exact y_ixA he hop hx hi hu hsh hv
      · cases h
    · rename_i y j hx hi hu
      injection h with h; subst h
      exact y_ixS he hop hx hi hu hv
    · cases h
  | typeAssert x xt t ok =>
    simp only [hop] at h
    split at h
    · cases h
    · rename_i y d z hni hy hu hz
      injection h with h; subst h
      exact y_tyA he hop hy hu (fun ms e => hni ms e) hz hv
    · cases h
  | extract x i =>
    simp only [hop] at h
    split at h
    · rename_i y hy
      injection h with h; subst h
      exact y_ext he hop hy hv
    · cases h
  | call c =>
    simp only [hop] at h
    split at h
    · rename_i g xs hc hx
      split at h
      · rename_i hs
        split at h
        · rename_i x
          injection h with h; subst h
          simp only [evP, Option.some.injEq] at hv
          subst hv
          obtain ⟨x0, hl, hx0⟩ := cOpds_one hx
          exact y_same H.noEscOk he hop hc hs hl hx0
        · cases h
      · split at h <;> cases h
    · split at h <;> cases h
    · repeat' (first | (cases h; done) | split at h)
    · rename_i x hc hx
      have hargs := cOpds_one hx
      obtain ⟨x0, hl, hx0⟩ := hargs
      split at h
      · rename_i t ht
        split at h
        · rename_i hu
          injection h with h; subst h
          exact y_len he hop hc hl hx0 ht (.inl ⟨rfl, hu⟩) hv
        · rename_i el hu
          injection h with h; subst h
          exact y_len he hop hc hl hx0 ht (.inr ⟨rfl, el, hu⟩) hv
        · cases h
      · cases h
    · rename_i xs hc hx
      injection h with h; subst h
      exact y_mm (mx := true) he hop hc hx hv
    · rename_i xs hc hx
      injection h with h; subst h
      exact y_mm (mx := false) he hop hc hx hv
    · repeat' (first | (cases h; done) | split at h)
    · cases h
  | alloc t => simp only [hop] at h; repeat' (first | (cases h; done) | split at h)
  | box t x => simp only [hop] at h; repeat' (first | (cases h; done) | split at h)
  | buildSlice t n ps => simp only [hop] at h; repeat' (first | (cases h; done) | split at h)
  | load t x => simp only [hop] at h; repeat' (first | (cases h; done) | split at h)
  | store t x y => simp only [hop] at h; repeat' (first | (cases h; done) | split at h)
  | makeSlice t l c => simp only [hop] at h; repeat' (first | (cases h; done) | split at h)
  | panic x => simp only [hop] at h; repeat' (first | (cases h; done) | split at h)
  | _ => simp only [hop] at h; cases h

end Go.Ab
