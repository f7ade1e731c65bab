/-
  Calls without a bound on rounds and depth.
-/
import Derived.Test.YtfokmdhmaabegaaAbs
set_option linter.all false
namespace Go.Abs

def CallF.le (c c' : CallF) : Prop := ∀ f args r, c f args = some r → c' f args = some r

section
variable {c c' : CallF} (hc : c.le c')
include hc

theorem evCall_mono {s : Nat} {g : AOpd → Option AV} {R : Nat → Option Row} {f : AOpd} {args : List AOpd} {bor : List Nat} {e : Eff} (h : evCall c s g R f args bor = some e) : evCall c' s g R f args bor = some e := by
  unfold evCall at h ⊢
  split at h
  · split at h
    · rename_i l hl
      split at h
      · rename_i hnd
        split at h
        · rename_i res outs hcall
          simp only [hl, hnd, if_true, hc _ _ _ hcall]
          exact h
        · cases h
      · cases h
    · cases h
  · cases h

theorem evalOp_mono {s : Nat} {g : AOpd → Option AV} {R : Nat → Option Row} {op : AOp} {e : Eff} (h : evalOp c s g R op = some e) : evalOp c' s g R op = some e := by
  cases op <;> simp only [evalOp] at h ⊢ <;> first | exact h | exact evCall_mono hc h

theorem stepOp_mono {s : Nat} {o : AOper} {T : Nat → Option AV} {R : Nat → Option Row} {e : Eff} (h : stepOp c s o T R = some e) : stepOp c' s o T R = some e := by
  unfold stepOp at h ⊢
  split at h
  · exact evalOp_mono hc h
  · split at h
    · split at h
      · rename_i hb; rw [if_pos hb]; exact evalOp_mono hc h
      · rename_i hb; rw [if_neg hb]; exact h
    · exact h
    · cases h

theorem runOps_mono {base : Nat} {draw : Bool} : ∀ {os : List AOper} {k : Nat} {bef : List (List Nat)} {acc : List Foot} {tm : List (Nat × AV)} {rows : List (Nat × Row)} {r : List (Nat × AV) × List (Nat × Row)},
    runOps c base draw k os bef acc tm rows = some r → runOps c' base draw k os bef acc tm rows = some r
  | [], _, _, _, _, _, _, h => h
  | o :: os, k, bef, acc, tm, rows, r, h => by
    simp only [runOps] at h ⊢
    split at h
    · cases h
    · rename_i e he
      rw [stepOp_mono hc he]
      simp only
      split at h
      · rename_i hd
        rw [if_pos hd]
        split at h
        · rename_i ha; rw [if_pos ha]; exact runOps_mono h
        · cases h
      · rename_i hd
        rw [if_neg hd]
        exact runOps_mono h

theorem evalCode_mono {n n' : Nat} (hn : n ≤ n') : ∀ {a : ACode} {fr : Fr} {r : AEx × Fr}, evalCode c n a fr = some r → evalCode c' n' a fr = some r := by
  intro a
  induction a with
  | skip => intro fr r h; exact h
  | region ops draw bef keep =>
    intro fr r h
    simp only [evalCode, runRegion] at h ⊢
    cases hr : runOps c fr.next draw 0 ops bef [] fr.tm fr.rows with
    | none => rw [hr] at h; simp at h
    | some q => rw [hr] at h; rw [runOps_mono hc hr]; exact h
  | seq x y ihx ihy =>
    intro fr r h
    simp only [evalCode] at h ⊢
    cases hx : evalCode c n x fr with
    | none => rw [hx] at h; simp at h
    | some q =>
      rw [hx] at h
      rw [ihx hx]
      obtain ⟨q1, q2⟩ := q
      cases q1 with
      | normal => exact ihy h
      | exit i => exact h
      | ret => exact h
  | cond cd x y ihx ihy =>
    intro fr r h
    simp only [evalCode] at h ⊢
    split at h
    · exact ihx h
    · exact ihy h
    · cases h
  | block id x ih =>
    intro fr r h
    simp only [evalCode] at h ⊢
    cases hx : evalCode c n x fr with
    | none => rw [hx] at h; simp at h
    | some q => rw [hx] at h; rw [ih hx]; exact h
  | loop keep x ih =>
    intro fr r h
    simp only [evalCode] at h ⊢
    split at h
    · rename_i fr1 hnorm
      have key : ∀ (m m' : Nat) (fr : Fr) (r : AEx × Fr), m ≤ m' → loopN (evalCode c n x) (norm keep) m fr = some r → loopN (evalCode c' n' x) (norm keep) m' fr = some r := by
        intro m
        induction m with
        | zero => intro m' fr r _ h; simp [loopN] at h
        | succ m ihm =>
          intro m' fr r hm h
          cases m' with
          | zero => omega
          | succ m' =>
            simp only [loopN] at h ⊢
            cases hx : evalCode c n x fr with
            | none => rw [hx] at h; simp at h
            | some q =>
              rw [hx] at h
              rw [ih hx]
              obtain ⟨q1, q2⟩ := q
              cases q1 with
              | normal =>
                simp only at h ⊢
                split at h
                · exact ihm m' _ r (by omega) h
                · cases h
              | exit i => exact h
              | ret => exact h
      exact key n n' fr1 r hn h
    · cases h
  | exit id => intro fr r h; exact h
  | ret => intro fr r h; exact h

theorem evalFn_mono {n n' : Nat} (hn : n ≤ n') {fn : AFn} {args : List AV} {r : AV × List AV} (h : evalFn c n fn args = some r) : evalFn c' n' fn args = some r := by
  unfold evalFn at h ⊢
  split at h
  · rename_i hcond
    rw [if_pos hcond]
    cases hx : evalCode c n fn.body (enter args) with
    | none => rw [hx] at h; simp at h
    | some q => rw [hx] at h; rw [evalCode_mono hc hn hx]; exact h
  · cases h

end

theorem evalCall_mono {F : Nat → Option AFn} : ∀ {n n' : Nat}, n ≤ n' → CallF.le (evalCall F n) (evalCall F n')
  | 0, _, _, f, args, r, h => by simp [evalCall] at h
  | n + 1, 0, hn, _, _, _, _ => by omega
  | n + 1, n' + 1, hn, f, args, r, h => by
    simp only [evalCall] at h ⊢
    split at h
    · exact evalFn_mono (evalCall_mono (by omega)) (by omega) h
    · cases h

/-- a call returns -/
def Ev (F : Nat → Option AFn) (f : Nat) (args : List AV) (r : AV × List AV) : Prop := ∃ n, evalCall F n f args = some r

theorem Ev.det {F : Nat → Option AFn} {f : Nat} {args : List AV} {r r' : AV × List AV} (h : Ev F f args r) (h' : Ev F f args r') : r = r' := by
  obtain ⟨n, hn⟩ := h
  obtain ⟨m, hm⟩ := h'
  have h1 := evalCall_mono (Nat.le_max_left n m) f args r hn
  have h2 := evalCall_mono (Nat.le_max_right n m) f args r' hm
  rw [h1] at h2
  exact Option.some.inj h2

open Classical in
/-- the calls of a program -/
noncomputable def lim (F : Nat → Option AFn) : CallF := fun f args => if h : ∃ r, Ev F f args r then some (Classical.choose h) else none

theorem lim_iff {F : Nat → Option AFn} {f : Nat} {args : List AV} {r : AV × List AV} : lim F f args = some r ↔ Ev F f args r := by
  unfold lim
  constructor
  · intro h
    split at h
    · rename_i hex
      simp only [Option.some.injEq] at h
      rw [← h]; exact Classical.choose_spec hex
    · cases h
  · intro h
    rw [dif_pos ⟨r, h⟩]
    exact congrArg some ((Classical.choose_spec (⟨r, h⟩ : ∃ r, Ev F f args r)).det h)

section
variable {F : Nat → Option AFn}

theorem evalOp_cont {s : Nat} {g : AOpd → Option AV} {R : Nat → Option Row} {op : AOp} {e : Eff} (h : evalOp (lim F) s g R op = some e) : ∃ m, evalOp (evalCall F m) s g R op = some e := by
  cases op
  case call f args bor =>
    simp only [evalOp] at h ⊢
    unfold evCall at h ⊢
    split at h
    · split at h
      · rename_i l hl
        split at h
        · rename_i hnd
          split at h
          · rename_i res outs hcall
            obtain ⟨m, hm⟩ := lim_iff.1 hcall
            refine ⟨m, ?_⟩
            simp only [hl, hnd, if_true, hm]
            exact h
          · cases h
        · cases h
      · cases h
    · cases h
  all_goals exact ⟨0, h⟩

theorem stepOp_cont {s : Nat} {o : AOper} {T : Nat → Option AV} {R : Nat → Option Row} {e : Eff} (h : stepOp (lim F) s o T R = some e) : ∃ m, stepOp (evalCall F m) s o T R = some e := by
  unfold stepOp at h ⊢
  split at h
  · exact evalOp_cont h
  · split at h
    · split at h
      · rename_i hb
        obtain ⟨m, hm⟩ := evalOp_cont h
        exact ⟨m, by rw [if_pos hb]; exact hm⟩
      · rename_i hb; exact ⟨0, by rw [if_neg hb]; exact h⟩
    · exact ⟨0, h⟩
    · cases h

theorem runOps_cont {base : Nat} {draw : Bool} : ∀ {os : List AOper} {k : Nat} {bef : List (List Nat)} {acc : List Foot} {tm : List (Nat × AV)} {rows : List (Nat × Row)} {r : List (Nat × AV) × List (Nat × Row)},
    runOps (lim F) base draw k os bef acc tm rows = some r → ∃ m, runOps (evalCall F m) base draw k os bef acc tm rows = some r
  | [], _, _, _, _, _, _, h => ⟨0, h⟩
  | o :: os, k, bef, acc, tm, rows, r, h => by
    simp only [runOps] at h
    split at h
    · cases h
    · rename_i e he
      obtain ⟨m, hm⟩ := stepOp_cont he
      split at h
      · rename_i hd
        split at h
        · rename_i ha
          obtain ⟨m', hm'⟩ := runOps_cont h
          refine ⟨max m m', ?_⟩
          simp only [runOps]
          rw [stepOp_mono (evalCall_mono (Nat.le_max_left m m')) hm]
          simp only
          rw [if_pos hd, if_pos ha]
          exact runOps_mono (evalCall_mono (Nat.le_max_right m m')) hm'
        · cases h
      · rename_i hd
        obtain ⟨m', hm'⟩ := runOps_cont h
        refine ⟨max m m', ?_⟩
        simp only [runOps]
        rw [stepOp_mono (evalCall_mono (Nat.le_max_left m m')) hm]
        simp only
        rw [if_neg hd]
        exact runOps_mono (evalCall_mono (Nat.le_max_right m m')) hm'

theorem evalCode_cont {n : Nat} : ∀ {a : ACode} {fr : Fr} {r : AEx × Fr}, evalCode (lim F) n a fr = some r → ∃ m, evalCode (evalCall F m) n a fr = some r := by
  intro a
  induction a with
  | skip => intro fr r h; exact ⟨0, h⟩
  | region ops draw bef keep =>
    intro fr r h
    simp only [evalCode, runRegion] at h ⊢
    cases hr : runOps (lim F) fr.next draw 0 ops bef [] fr.tm fr.rows with
    | none => rw [hr] at h; simp at h
    | some q =>
      rw [hr] at h
      obtain ⟨m, hm⟩ := runOps_cont hr
      exact ⟨m, by rw [hm]; exact h⟩
  | seq x y ihx ihy =>
    intro fr r h
    simp only [evalCode] at h ⊢
    cases hx : evalCode (lim F) n x fr with
    | none => rw [hx] at h; simp at h
    | some q =>
      rw [hx] at h
      obtain ⟨m, hm⟩ := ihx hx
      obtain ⟨q1, q2⟩ := q
      cases q1 with
      | normal =>
        obtain ⟨m', hm'⟩ := ihy h
        refine ⟨max m m', ?_⟩
        rw [evalCode_mono (evalCall_mono (Nat.le_max_left m m')) (Nat.le_refl n) hm]
        exact evalCode_mono (evalCall_mono (Nat.le_max_right m m')) (Nat.le_refl n) hm'
      | exit i => exact ⟨m, by rw [hm]; exact h⟩
      | ret => exact ⟨m, by rw [hm]; exact h⟩
  | cond cd x y ihx ihy =>
    intro fr r h
    simp only [evalCode] at h ⊢
    split at h
    · exact ihx h
    · exact ihy h
    · cases h
  | block id x ih =>
    intro fr r h
    simp only [evalCode] at h ⊢
    cases hx : evalCode (lim F) n x fr with
    | none => rw [hx] at h; simp at h
    | some q =>
      rw [hx] at h
      obtain ⟨m, hm⟩ := ih hx
      exact ⟨m, by rw [hm]; exact h⟩
  | loop keep x ih =>
    intro fr r h
    simp only [evalCode] at h ⊢
    split at h
    · rename_i fr1 hnorm
      have key : ∀ (k : Nat) (fr : Fr) (r : AEx × Fr), loopN (evalCode (lim F) n x) (norm keep) k fr = some r → ∃ m, loopN (evalCode (evalCall F m) n x) (norm keep) k fr = some r := by
        intro k
        induction k with
        | zero => intro fr r h; simp [loopN] at h
        | succ k ihk =>
          intro fr r h
          simp only [loopN] at h ⊢
          cases hx : evalCode (lim F) n x fr with
          | none => rw [hx] at h; simp at h
          | some q =>
            rw [hx] at h
            obtain ⟨m, hm⟩ := ih hx
            obtain ⟨q1, q2⟩ := q
            cases q1 with
            | normal =>
              simp only at h
              split at h
              · rename_i fr2 hn2
                obtain ⟨m', hm'⟩ := ihk fr2 r h
                refine ⟨max m m', ?_⟩
                rw [evalCode_mono (evalCall_mono (Nat.le_max_left m m')) (Nat.le_refl n) hm]
                simp only [hn2]
                have mono : ∀ (k : Nat) (fr : Fr) (r : AEx × Fr), loopN (evalCode (evalCall F m') n x) (norm keep) k fr = some r → loopN (evalCode (evalCall F (max m m')) n x) (norm keep) k fr = some r := by
                  intro k
                  induction k with
                  | zero => intro fr r h; simp [loopN] at h
                  | succ k ihk =>
                    intro fr r h
                    simp only [loopN] at h ⊢
                    cases hx : evalCode (evalCall F m') n x fr with
                    | none => rw [hx] at h; simp at h
                    | some q =>
                      rw [hx] at h
                      rw [evalCode_mono (evalCall_mono (Nat.le_max_right m m')) (Nat.le_refl n) hx]
                      obtain ⟨q1, q2⟩ := q
                      cases q1 with
                      | normal =>
                        simp only at h ⊢
                        split at h
                        · exact ihk _ r h
                        · cases h
                      | exit i => exact h
                      | ret => exact h
                exact mono k fr2 r hm'
              · cases h
            | exit i => exact ⟨m, by rw [hm]; exact h⟩
            | ret => exact ⟨m, by rw [hm]; exact h⟩
      exact key n fr1 r h
    · cases h
  | exit id => intro fr r h; exact ⟨0, h⟩
  | ret => intro fr r h; exact ⟨0, h⟩

/-- a function's contract, by its body -/
theorem lim_intro {n f : Nat} {fn : AFn} {args : List AV} {r : AV × List AV} (hf : F f = some fn) (h : evalFn (lim F) n fn args = some r) : lim F f args = some r := by
  have h1 : ∃ m, evalFn (evalCall F m) n fn args = some r := by
    unfold evalFn at h ⊢
    split at h
    · rename_i hcond
      cases hx : evalCode (lim F) n fn.body (enter args) with
      | none => rw [hx] at h; simp at h
      | some q =>
        rw [hx] at h
        obtain ⟨m, hm⟩ := evalCode_cont hx
        exact ⟨m, by rw [if_pos hcond, hm]; exact h⟩
    · cases h
  obtain ⟨m, hm⟩ := h1
  refine lim_iff.2 ⟨max m n + 1, ?_⟩
  simp only [evalCall, hf]
  exact evalFn_mono (evalCall_mono (Nat.le_max_left m n)) (Nat.le_max_right m n) hm

end

theorem lim_of_eval {F : Nat → Option AFn} {n f : Nat} {args : List AV} {r : AV × List AV} (h : evalCall F n f args = some r) : lim F f args = some r := lim_iff.2 ⟨n, h⟩

end Go.Abs
