/-
  The step of any operation.
-/
import Derived.Test.YtfokmdhmaabegaaCall3
set_option linter.all false
namespace Go.Abs

section
variable {P : Program} {Own : Nat → Prop} {σ : Ids} {S : Nat → Prop} {w : World} {R : Nat → Option Row} {s : Nat} {T : Nat → Option AV} {a : Act} {o : Oper} {e : Eff}

theorem op_sound {bor : Nat → List Nat} {aop : AOp} {call : CallF} {K : Act → World → Prop} {Q : Exit → Act → World → Prop}
    (hT : TmpsOk σ S w T a) (hR : RowsOk Own σ S w R) (hF : Free Own σ w s) (hc : compOp P bor o.type o.op = some aop) (he : evalOp call s (getO T) R aop = some e)
    (hcall : ∀ f vs r, call f vs = some r → CallOk P f vs r.1 r.2 ∧ Enterable P f) (hK : ∀ v w', Step Own σ S w R s e v w' → K (a.put o.dst v) w') : o.wp P a w K Q := by
  have fin : (∃ v w', OpRuns P a o w v w' ∧ Step Own σ S w R s e v w') → o.wp P a w K Q := fun ⟨v, w', h1, h2⟩ => h1.wp (hK v w' h2)
  have ag1 : ∀ {ag : Bool} {n : Nat}, (ag = true ∨ n = 1) → ag = false → n = 1 := fun h h' => h.resolve_left (by simp [h'])
  cases hop : o.op <;> rw [hop] at hc <;> simp only [compOp] at hc
  case move x =>
    obtain ⟨ao, h1, rfl⟩ := Option.map_eq_some_iff.1 hc
    exact fin (mv_sound hT hR (.inl hop) h1 call he)
  case assign x =>
    obtain ⟨ao, h1, rfl⟩ := Option.map_eq_some_iff.1 hc
    exact fin (mv_sound hT hR (.inr hop) h1 call he)
  case pick c x y =>
    split at hc
    · rename_i c' x' y' h1 h2 h3
      simp at hc; subst hc
      exact fin (pick_sound hT hR hop h1 h2 h3 call he)
    · cases hc
  case alloc t =>
    split at hc
    · rename_i z hz
      simp at hc; subst hc
      exact fin (alloc_sound hR hF hop hz call he)
    · cases hc
  case box t x =>
    obtain ⟨ao, h1, rfl⟩ := Option.map_eq_some_iff.1 hc
    exact fin (box_sound hT hR hF hop h1 call he)
  case build t parts =>
    split at hc
    · rename_i fields z hu hz
      split at hc
      · rename_i ps hps
        split at hc
        · rename_i hcond
          simp only [Bool.and_eq_true] at hcond
          simp at hc; subst hc
          exact fin (build_struct_sound hT hR hop hu hz (by simpa using hcond.2) hps hcond.1 call he)
        · cases hc
      · cases hc
    · rename_i len el z hu hz
      split at hc
      · rename_i n hn
        split at hc
        · rename_i ps hps
          split at hc
          · rename_i hcond
            simp at hc; subst hc
            exact fin (build_array_sound hT hR hop hu hz (by simpa using hcond) hn hps call he)
          · cases hc
        · cases hc
      · cases hc
    · cases hc
  case buildSlice t len parts =>
    split at hc
    · rename_i el hu
      split at hc
      · rename_i n z hn hz
        split at hc
        · rename_i ps hps
          split at hc
          · rename_i hcond
            simp at hc; subst hc
            exact fin (mkList_sound hT hR hF hop hu hn hz hps hcond.1 hcond.2.1 hcond.2.2.2.1 hcond.2.2.2.2 he)
          · cases hc
        · cases hc
      · cases hc
    · cases hc
  case insert t m k x =>
    split at hc
    · rename_i kt et hu
      split at hc
      · rename_i kk m' k' x' h1 h2 h3 h4 h5
        simp at hc; subst hc
        exact fin (mapSet_sound hT hR (.inr hop) hu h1 h3 h4 h5 he)
      · cases hc
    · cases hc
  case load t x =>
    split at hc
    · rename_i n ag x' h1 h2 h3
      split at hc
      · rename_i hcond
        simp at hc; subst hc
        exact fin (load_sound hT hR hop h1 h2 (ag1 hcond) h3 he)
      · cases hc
    · cases hc
  case store t x y =>
    split at hc
    · rename_i n x' y' h1 h2 h3
      simp at hc; subst hc
      exact fin (store_sound hT hR hop h1 h2 h3 he)
    · cases hc
  case nilCheck x =>
    obtain ⟨ao, h1, rfl⟩ := Option.map_eq_some_iff.1 hc
    exact fin (nilCk_sound hT hR hop h1 call he)
  case binOp op t x y ty =>
    split at hc
    · rename_i x' y' h1 h2
      split at hc
      · split at hc
        · simp at hc; subst hc; exact fin (bin_sound hT hR hop h1 h2 call he)
        · rename_i hu; simp at hc; subst hc; exact fin (eq_sound hT hR hop (.inl rfl) (.inl ⟨rfl, hu⟩) h1 h2 call he)
        · rename_i fs hu
          split at hc
          · rename_i ks hks
            split at hc
            · cases hc
            · rename_i hg
              simp at hc; subst hc
              exact fin (eq_sound hT hR hop (.inl rfl) (.inr ⟨ks, fs, rfl, hu, hks, by simpa using hg⟩) h1 h2 call he)
          · cases hc
        · cases hc
      · split at hc
        · simp at hc; subst hc; exact fin (bin_sound hT hR hop h1 h2 call he)
        · rename_i hu; simp at hc; subst hc; exact fin (eq_sound hT hR hop (.inr rfl) (.inl ⟨rfl, hu⟩) h1 h2 call he)
        · rename_i fs hu
          split at hc
          · rename_i ks hks
            split at hc
            · cases hc
            · rename_i hg
              simp at hc; subst hc
              exact fin (eq_sound hT hR hop (.inr rfl) (.inr ⟨ks, fs, rfl, hu, hks, by simpa using hg⟩) h1 h2 call he)
          · cases hc
        · cases hc
      · simp at hc; subst hc; exact fin (bin_sound hT hR hop h1 h2 call he)
    · cases hc
  case unOp op ty x =>
    split at hc
    · obtain ⟨ao, h1, rfl⟩ := Option.map_eq_some_iff.1 hc
      exact fin (un_sound hT hR hop h1 call he)
    · obtain ⟨ao, h1, rfl⟩ := Option.map_eq_some_iff.1 hc
      exact fin (un_sound hT hR hop h1 call he)
    · cases hc
  case convert src dst x =>
    split at hc
    · rename_i k0 k h1 h2
      obtain ⟨ao, h3, rfl⟩ := Option.map_eq_some_iff.1 hc
      exact fin (conv_sound hT hR hop h1 h2 h3 call he)
    · cases hc
  case makeFunc fn first captured =>
    cases fn <;> simp only at hc
    case func f =>
      split at hc
      · rename_i hf
        obtain ⟨ao, h1, rfl⟩ := Option.map_eq_some_iff.1 hc
        exact fin (fn_sound hT hR hop hf h1 call he)
      · cases hc
    all_goals cases hc
  case makeMap t r =>
    cases r with
    | none =>
      simp only at hc
      split at hc
      · split at hc
        · simp at hc; subst hc; exact fin (mkMap_sound hR hF hop call he)
        · cases hc
      · cases hc
    | some r => simp at hc
  case makeSlice t l c =>
    split at hc
    · rename_i el hu
      split at hc
      · rename_i i z l' c' h1 h2 h3 h4
        split at hc
        · rename_i hcond
          simp at hc; subst hc
          exact fin (mkSlice_sound hT hR hF hop hu h1 h2 hcond.1 hcond.2.1 hcond.2.2.1 hcond.2.2.2.1 h3 h4 call he)
        · cases hc
      · cases hc
    · cases hc
  case slice t x lo hi mx =>
    cases mx with
    | none =>
      simp only at hc
      split at hc
      · rename_i el hu
        split at hc
        · rename_i n x' lo' hi' h1 h2 h3 h4
          split at hc
          · simp at hc; subst hc; exact fin (slice_sound hT hR hop hu h1 h2 h3 h4 he)
          · cases hc
        · cases hc
      · cases hc
    | some m => simp at hc
  case fieldAddr t x f =>
    split at hc
    · rename_i fields x' h1 h2
      split at hc
      · rename_i fl h3
        split at hc
        · rename_i n h4
          split at hc
          · cases hc
          · rename_i hz
            simp at hc; subst hc
            exact fin (fieldA_sound hT hR hop h1 h3 h4 hz rfl h2 call he)
        · cases hc
      · cases hc
    · cases hc
  case field t x f =>
    split at hc
    · rename_i fields x' h1 h2
      split at hc
      · rename_i fl h3
        split at hc
        · rename_i n ag h4 h5
          split at hc
          · rename_i hcond
            simp at hc; subst hc
            exact fin (field_sound hT hR hop h1 h3 h4 h5 (ag1 hcond) rfl h2 call he)
          · cases hc
        · cases hc
      · cases hc
    · cases hc
  case indexAddr t x i =>
    split at hc
    · rename_i el x' i' h1 h2 h3
      split at hc
      · rename_i n h4
        split at hc
        · simp at hc; subst hc; exact fin (indexA_sound hT hR hop h1 h4 h2 h3 he)
        · cases hc
      · cases hc
    · rename_i len el x' i' h1 h2 h3
      split at hc
      · rename_i n h4
        split at hc
        · simp at hc; subst hc; exact fin (indexP_sound hT hR hop h1 h4 h2 h3 call he)
        · cases hc
      · cases hc
    · cases hc
  case index t x i =>
    split at hc
    · rename_i len el x' i' h1 h2 h3
      split at hc
      · rename_i n ag h4 h5
        split at hc
        · rename_i hcond
          simp at hc; subst hc
          exact fin (index_sound hT hR hop h1 h4 h5 (ag1 hcond) h2 h3 call he)
        · cases hc
      · cases hc
    · cases hc
  case lookup t m k ok =>
    split at hc
    · rename_i kt et hu
      split at hc
      · rename_i kk z m' k' h1 h2 h3 h4 h5
        split at hc
        · simp at hc; subst hc; exact fin (mapGet_sound hT hR hop hu h1 h3 h4 h5 he)
        · cases hc
      · cases hc
    · cases hc
  case mapUpdate t m k x =>
    split at hc
    · rename_i kt et hu
      split at hc
      · rename_i kk m' k' x' h1 h2 h3 h4 h5
        simp at hc; subst hc
        exact fin (mapSet_sound hT hR (.inl hop) hu h1 h3 h4 h5 he)
      · cases hc
    · cases hc
  case extract x i =>
    obtain ⟨ao, h1, rfl⟩ := Option.map_eq_some_iff.1 hc
    exact fin (extract_sound hT hR hop h1 call he)
  case call c =>
    obtain ⟨callee, args, ats⟩ := c
    simp only at hc
    split at hc
    · rename_i f
      split at hc
      · rename_i f' args' h1 h2
        simp at hc; subst hc
        exact call_sound hT hR hF hop h1 h2 he hcall hK
      · cases hc
    · split at hc
      · rename_i x t hx ht
        have hx' : args = #[x] := by rw [← Array.toArray_toList (xs := args), hx]
        have ht' : ats = #[t] := by rw [← Array.toArray_toList (xs := ats), ht]
        subst hx' ht'
        split at hc
        · rename_i el hu
          obtain ⟨ao, h1, rfl⟩ := Option.map_eq_some_iff.1 hc
          exact fin (len_sound hT hR hop hu h1 call he)
        · rename_i n el hu
          simp at hc; subst hc
          simp only [evalOp, getO, Option.some.injEq] at he
          subst he
          refine fin ⟨.int .i64 n, w, .inl ?_, Step.pure hR (.imm (.int _ _))⟩
          simp only [execOp, hop, resolve, invoke, builtin, pure_bind, Sem.run_bind, List.map_toArray, List.map_cons, List.map_nil]
          unfold Builtin.len_
          simp [run_underlying hu, goInt]
        · cases hc
      · cases hc
    · obtain ⟨ao, h1, rfl⟩ := Option.map_eq_some_iff.1 hc
      exact fin (minmax_sound (isMax := true) hT hR hop h1 call he)
    · obtain ⟨ao, h1, rfl⟩ := Option.map_eq_some_iff.1 hc
      exact fin (minmax_sound (isMax := false) hT hR hop h1 call he)
    · split at hc
      · rename_i d x t u hx ht
        have hx' : args = #[d, x] := by rw [← Array.toArray_toList (xs := args), hx]
        have ht' : ats = #[t, u] := by rw [← Array.toArray_toList (xs := ats), ht]
        subst hx' ht'
        split at hc
        · rename_i el hu
          split at hc
          · rename_i i d' x' h1 h2 h3
            split at hc
            · rename_i hcond
              obtain ⟨c1, c2, rfl, c4⟩ := hcond
              simp at hc; subst hc
              cases hz : i.zero with
              | none => simp [hz] at c4
              | some z => exact fin (append_sound hT hR hF hop hu h1 hz (by simpa [hz] using c4) c1 c2 h2 h3 he)
            · cases hc
          · cases hc
        · cases hc
      · cases hc
    · cases hc
  all_goals cases hc

end
end Go.Abs
