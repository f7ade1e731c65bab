/-
  Functions, and all calls of a program.
-/
import Derived.Test.YtfokmdhmaabegaaCode
set_option linter.all false
namespace Go.Abs

theorem enumFrom_lk : ∀ {vs : List AV} {i t : Nat} {x : AV}, lk t (enumFrom i vs) = some x → i ≤ t ∧ vs[t - i]? = some x
  | [], i, t, x, h => by simp [enumFrom, lk] at h
  | v :: vs, i, t, x, h => by
    simp only [enumFrom, lk] at h
    split at h
    · rename_i e; subst e; simp at h; subst h; simp
    · rename_i hne
      obtain ⟨h1, h2⟩ := enumFrom_lk h
      refine ⟨by omega, ?_⟩
      rw [show t - i = t - (i + 1) + 1 by omega, List.getElem?_cons_succ]
      exact h2

section
variable {P : Program} {Own : Nat → Prop} {σ : Ids} {S : Nat → Prop} {w : World}

/-- each lent argument, at its row -/
def LentAt (τ : Ids) (S : Nat → Prop) (w : World) : List Value → List (Nat × Option Nat) → Prop
  | [], [] => True
  | v :: vs, p :: ps => RelV τ S w v (match p.2 with | none => .ptr p.1 0 0 | some n => .slice p.1 0 n) ∧ LentAt τ S w vs ps
  | _, _ => False

/-- the results -/
theorem results_run {fn : Func} {rs : List ARes} {a : Act} {tm : List (Nat × AV)} {rows : List (Nat × Row)} {vs : List AV} (hT : TmpsOk σ S w (fun t => lk t tm) a) (hR : RowsOk Own σ S w (fun i => lk i rows))
    (hc : mapO (compRes P) fn.results.toList = some rs) (h : mapO (resOf tm rows) rs = some vs) :
    ∃ v, (results fn a.tmps).run P w = .ok v w ∧ RelV σ S w v (tupled vs) := by
  have key : ∀ (l : List ResultVar) (rs : List ARes) (vs : List AV), mapO (compRes P) l = some rs → mapO (resOf tm rows) rs = some vs →
      ∃ us : List Value, (l.mapM fun (r : ResultVar) => match r with
        | .tmp t => (pure (a.tmps.getD t undef) : Sem Value)
        | .cell b t => do loadVar t (← asAddr (a.tmps.getD b undef))).run P w = .ok us w ∧ us.length = vs.length ∧ ∀ (i : Nat) u x, us[i]? = some u → vs[i]? = some x → RelV σ S w u x := by
    intro l
    induction l with
    | nil =>
      intro rs vs hc h
      simp [mapO] at hc; subst hc
      simp [mapO] at h; subst h
      exact ⟨[], by simp, rfl, by simp⟩
    | cons r l ih =>
      intro rs vs hc h
      simp only [mapO] at hc
      split at hc
      · cases hc
      · rename_i ar har
        split at hc
        · cases hc
        · rename_i ars hars
          simp at hc; subst hc
          simp only [mapO] at h
          split at h
          · cases h
          · rename_i x hx
            split at h
            · cases h
            · rename_i xs hxs
              simp at h; subst h
              obtain ⟨us, u1, u2, u3⟩ := ih ars xs hars hxs
              have one : ∃ u, (match r with
                  | .tmp t => (pure (a.tmps.getD t undef) : Sem Value)
                  | .cell b t => do loadVar t (← asAddr (a.tmps.getD b undef))).run P w = .ok u w ∧ RelV σ S w u x := by
                cases r with
                | tmp t =>
                  simp [compRes] at har; subst har
                  exact ⟨_, rfl, hT t x hx⟩
                | cell b t =>
                  simp only [compRes] at har
                  split at har
                  · rename_i n ag hn hag
                    split at har
                    · rename_i hcond
                      simp at har; subst har
                      simp only [resOf] at hx
                      split at hx
                      · rename_i id hb
                        split at hx
                        · rename_i cs hrow
                          obtain ⟨bb, cells, tt, hk, hh, hs, hsc, hrel⟩ := hR.ok id _ hrow
                          obtain ⟨b', sz', n', c', hσ, _, hv⟩ := (hT b _ hb).ptr_inv
                          have q := hk.symm.trans hσ
                          simp only [Option.some.injEq, Loc.row.injEq] at q
                          obtain ⟨rfl, rfl, rfl, rfl⟩ := q
                          obtain ⟨u, r1, r2⟩ := load_run (P := P) (σ := σ) (S := S) (w := w) (b := bb) (o := 0) (off := 0) (f := fun i => cells.getD i undef) hn hag (fun h' => hcond.resolve_left (by simp [h'])) hx
                            (fun i hi => by
                              rw [Nat.zero_add, cell_of_row w bb _ cells tt (0, 0) hh]
                              have : i < cells.size := by omega
                              simp [this])
                            (fun i c hc => by
                              obtain ⟨v', hv', hrel'⟩ := hrel i c hc
                              have e1 : cells.getD i undef = v' := by simp [Array.getD_eq_getD_getElem?, hv']
                              show RelV σ S w (cells.getD i undef) c
                              rw [e1]; exact hrel')
                          refine ⟨u, ?_, r2⟩
                          show (do loadVar t (← asAddr (a.tmps.getD b undef)) : Sem Value).run P w = .ok u w
                          rw [hv]
                          simp only [Instr.loadAt, Instr.sureAddr, pure_bind] at r1
                          simpa [asAddr] using r1
                        · cases hx
                      · cases hx
                    · cases har
                  · cases har
              obtain ⟨u, o1, o2⟩ := one
              refine ⟨u :: us, ?_, by simp [u2], fun i q y hq hy => ?_⟩
              · rw [List.mapM_cons]
                simp only [Sem.run_bind]
                rw [o1]
                simp only [Result.andThen_ok, Sem.run_bind]
                rw [u1]
                simp
              · cases i with
                | zero => simp at hq hy; subst hq hy; exact o2
                | succ i => simp at hq hy; exact u3 i q y hq hy
  obtain ⟨us, u1, u2, u3⟩ := key _ rs vs hc h
  have hm : (fn.results.mapM fun (r : ResultVar) => match r with
        | .tmp t => (pure (a.tmps.getD t undef) : Sem Value)
        | .cell b t => do loadVar t (← asAddr (a.tmps.getD b undef))).run P w = .ok us.toArray w := by
    rw [Array.mapM_eq_mapM_toList]
    simp only [Sem.run_map]
    rw [u1]
    simp
  refine ⟨if h : us.toArray.size = 1 then us.toArray[0] else .tuple us.toArray, ?_, ?_⟩
  · unfold results
    rw [Sem.run_bind]
    refine Eq.trans (congrArg (fun r => Result.andThen r _) hm) ?_
    simp only [Result.andThen_ok]
    split <;> rfl
  · match vs, us, u2 with
    | [x], [u], _ => simp only [List.size_toArray, List.length_singleton, dite_true, tupled]; exact u3 0 u x rfl rfl
    | [], [], _ => exact .tuple #[] [] rfl (by simp)
    | x :: y :: vs, u :: u' :: us, hl =>
      have : ¬ (u :: u' :: us).toArray.size = 1 := by simp
      rw [dif_neg this]
      exact .tuple _ _ (by simpa using hl) fun i q c hq hc => u3 i q c (by simpa using hq) hc

end
end Go.Abs
