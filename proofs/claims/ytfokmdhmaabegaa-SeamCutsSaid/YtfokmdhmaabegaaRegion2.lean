/-
  Regions, second part.
-/
import Derived.Test.YtfokmdhmaabegaaRegion
set_option linter.all false
namespace Go.Abs

/-! ## Writes, some of them done -/

def updG {β : Type} (ws : List (Nat × Option β)) (X : Nat → Option β) (t : Nat) : Option β := match lk t ws with
  | some r => r
  | none => X t

/-- the writes of those of a list that are in L, in the list's order -/
def foldG {β : Type} (L : Nat → Bool) (X : Nat → Option β) : Nat → List (List (Nat × Option β)) → Nat → Option β
  | _, [] => X
  | k, ws :: r => foldG L (if L k then updG ws X else X) (k + 1) r

theorem foldG_agree {β : Type} {L L' : Nat → Bool} {t : Nat} : ∀ {l : List (List (Nat × Option β))} {X X' : Nat → Option β} {k : Nat}, X t = X' t → (∀ (j : Nat) ws, l[j]? = some ws → L (k + j) ≠ L' (k + j) → lk t ws = none) →
    foldG L X k l t = foldG L' X' k l t
  | [], X, X', k, h, _ => h
  | ws :: l, X, X', k, h, hd => by
    simp only [foldG]
    refine foldG_agree ?_ fun j w hw hne => hd (j + 1) w (by simpa using hw) (by rw [show k + (j + 1) = k + 1 + j by omega]; exact hne)
    have h0 := hd 0 ws rfl
    simp only [Nat.add_zero] at h0
    by_cases hL : L k = true <;> by_cases hL' : L' k = true
    · simp only [hL, hL', if_true, updG, h]
    · have := h0 (by simp_all)
      simp only [hL, hL', if_true, updG, this]; exact h
    · have := h0 (by simp_all)
      simp only [hL, hL', if_true, updG, this]; exact h
    · simp only [hL, hL']; exact h

theorem foldG_last {β : Type} {L : Nat → Bool} {t : Nat} {ws : List (Nat × Option β)} {r : Option β} : ∀ {l : List (List (Nat × Option β))} {X : Nat → Option β} {k i : Nat}, l[i]? = some ws → lk t ws = some r → L (k + i) = true →
    (∀ (j : Nat) wj, i < j → l[j]? = some wj → L (k + j) = true → lk t wj = none) → foldG L X k l t = r
  | [], X, k, i, h, _, _, _ => by simp at h
  | w0 :: l, X, k, 0, h, hr, hL, hd => by
    simp at h; subst h
    simp only [Nat.add_zero] at hL
    simp only [foldG, hL, if_true]
    have : foldG L (updG w0 X) (k + 1) l t = foldG (fun _ => false) (updG w0 X) (k + 1) l t := by
      refine foldG_agree rfl fun j w hw hne => ?_
      have hj : L (k + (j + 1)) = true := by rw [show k + (j + 1) = k + 1 + j by omega]; simpa using hne
      exact hd (j + 1) w (by omega) (by simpa using hw) hj
    rw [this]
    have key : ∀ (l : List (List (Nat × Option β))) (X : Nat → Option β) (k : Nat), foldG (fun _ => false) X k l = X := by
      intro l
      induction l with
      | nil => intro X k; rfl
      | cons a l ih => intro X k; simp only [foldG, Bool.false_eq_true, if_false]; exact ih X _
    rw [key]
    simp [updG, hr]
  | w0 :: l, X, k, i + 1, h, hr, hL, hd => by
    simp only [foldG]
    refine foldG_last (i := i) (by simpa using h) hr (by rw [show k + 1 + i = k + (i + 1) by omega]; exact hL) fun j wj hij hw hj => ?_
    exact hd (j + 1) wj (by omega) (by simpa using hw) (by rw [show k + (j + 1) = k + 1 + j by omega]; exact hj)

theorem foldG_take {β : Type} {X : Nat → Option β} {t : Nat} : ∀ {l : List (List (Nat × Option β))} {k m : Nat} {X : Nat → Option β}, foldG (fun _ => true) X k (l.take m) t = foldG (fun i => decide (i < k + m)) X k l t
  | [], k, m, X => by simp [foldG]
  | ws :: l, k, 0, X => by
    simp only [List.take_zero, foldG, Nat.add_zero, Nat.lt_irrefl, decide_false, Bool.false_eq_true, if_false]
    have key : ∀ (l : List (List (Nat × Option β))) (X : Nat → Option β) (k q : Nat), q ≤ k → foldG (fun i => decide (i < q)) X k l = X := by
      intro l
      induction l with
      | nil => intro X k q _; rfl
      | cons a l ih => intro X k q h; simp only [foldG]; rw [if_neg (by simp; omega)]; exact ih X _ q (by omega)
    rw [key l X (k + 1) k (by omega)]
  | ws :: l, k, m + 1, X => by
    simp only [List.take_succ_cons, foldG, if_true]
    rw [if_pos (by simp), foldG_take (X := updG ws X)]
    rw [show k + 1 + m = k + (m + 1) by omega]

theorem updR_updG (ws : List (Nat × Option Row)) (R : Nat → Option Row) : updR ws R = updG ws R := by
  funext k
  rw [updR_eq]
  unfold updG
  cases lk k ws <;> rfl

/-- what an operation writes to temporaries -/
def wT (o : AOper) (e : Eff) : List (Nat × Option AV) := match o.dst with
  | some d => [(d, some e.v)]
  | none => []

theorem updT_updG (T : Nat → Option AV) (o : AOper) (e : Eff) : updT T o.dst e.v = updG (wT o e) T := by
  funext t
  unfold updT updG wT
  cases o.dst with
  | none => simp [lk]
  | some d =>
    simp only [lk, Option.some.injEq]
    by_cases h : d = t <;> simp [h]

theorem lk_wT {o : AOper} {e : Eff} {t : Nat} (h : o.dst ≠ some t) : lk t (wT o e) = none := by
  unfold wT
  cases hd : o.dst with
  | none => rfl
  | some d =>
    have : d ≠ t := fun e => h (by rw [hd, e])
    simp [lk, this]

theorem lk_keys {α : Type} {t : Nat} : ∀ {l : List (Nat × α)}, t ∉ l.map (·.1) → lk t l = none
  | [], _ => rfl
  | (j, v) :: l, h => by
    simp only [List.map_cons, List.mem_cons, not_or] at h
    simp only [lk, Ne.symm h.1, if_false]
    exact lk_keys h.2

def foot (k : Nat) (e : Eff) : Foot := ⟨k, e.rd, e.wr.map (·.1)⟩

def zipT : List AOper → List Eff → List (List (Nat × Option AV))
  | o :: os, e :: es => wT o e :: zipT os es
  | _, _ => []

theorem zipT_get : ∀ {os : List AOper} {es : List Eff} {j : Nat} {o : AOper} {e : Eff}, os[j]? = some o → es[j]? = some e → (zipT os es)[j]? = some (wT o e)
  | [], _, j, _, _, h, _ => by simp at h
  | _ :: _, [], j, _, _, _, h => by simp at h
  | o :: os, e :: es, 0, _, _, h, h' => by simp at h h'; subst h h'; rfl
  | o :: os, e :: es, j + 1, _, _, h, h' => by
    simp only [zipT, List.getElem?_cons_succ] at h h' ⊢
    exact zipT_get h h'

theorem zipT_length : ∀ {os : List AOper} {es : List Eff}, es.length = os.length → (zipT os es).length = os.length
  | [], [], _ => rfl
  | [], _ :: _, h => by simp at h
  | _ :: _, [], h => by simp at h
  | _ :: os, _ :: es, h => by simp [zipT, zipT_length (os := os) (es := es) (by simpa using h)]

/-- a region in the order of the text: the effects, and that those that are not ordered are apart -/
theorem runOps_draw {call : CallF} {base : Nat} : ∀ {os : List AOper} {k : Nat} {bef : List (List Nat)} {acc : List Foot} {tm tm' : List (Nat × AV)} {rows rows' : List (Nat × Row)},
    runOps call base true k os bef acc tm rows = some (tm', rows') → ∃ es : List Eff, es.length = os.length ∧
      (∀ (j : Nat) o e, os[j]? = some o → es[j]? = some e → stepOp call (base + siteWidth * (k + j)) o (foldG (fun _ => true) (fun t => lk t tm) 0 ((zipT os es).take j)) (foldG (fun _ => true) (fun i => lk i rows) 0 ((es.map (·.wr)).take j)) = some e) ∧
      (∀ (j : Nat) e, es[j]? = some e → ∀ f ∈ acc, (bef.getD j []).contains f.k = true ∨ f.apart (foot (k + j) e) = true) ∧
      (∀ (j j' : Nat) e e', j < j' → es[j]? = some e → es[j']? = some e' → (bef.getD j' []).contains (k + j) = true ∨ (foot (k + j) e).apart (foot (k + j') e') = true) ∧
      (∀ t, lk t tm' = foldG (fun _ => true) (fun t => lk t tm) 0 (zipT os es) t) ∧ (∀ i, lk i rows' = foldG (fun _ => true) (fun i => lk i rows) 0 (es.map (·.wr)) i)
  | [], k, bef, acc, tm, tm', rows, rows', h => by
    simp [runOps] at h
    obtain ⟨rfl, rfl⟩ := h
    exact ⟨[], rfl, by simp, by simp, by simp, by simp [zipT, foldG], by simp [foldG]⟩
  | o :: os, k, bef, acc, tm, tm', rows, rows', h => by
    simp only [runOps] at h
    split at h
    · cases h
    · rename_i e he
      simp only [if_true] at h
      split at h
      · rename_i hacc
        obtain ⟨es, h1, h2, h3, h4, h5, h6⟩ := runOps_draw h
        have hT : (fun t => lk t (putT o.dst e.v tm)) = updG (wT o e) (fun t => lk t tm) := by
          rw [← updT_updG]; funext t; exact lk_putT ..
        have hRr : (fun i => lk i (updRows e.wr rows)) = updG e.wr (fun i => lk i rows) := by
          rw [← updR_updG]; funext t; exact lk_updRows ..
        have shift : ∀ {β : Type} (l : List (List (Nat × Option β))) (X : Nat → Option β) (k k' : Nat), foldG (fun _ => true) X k l = foldG (fun _ => true) X k' l := by
          intro β l
          induction l with
          | nil => intro X k k'; rfl
          | cons a l ih => intro X k k'; simp only [foldG, if_true]; exact ih _ _ _
        refine ⟨e :: es, by simp [h1], fun j o' e' ho' he' => ?_, fun j e' he' f hf => ?_, fun j j' e1 e2 hjj h1' h2' => ?_, fun t => ?_, fun i => ?_⟩
        · cases j with
          | zero =>
            simp at ho' he'
            subst ho' he'
            simpa [zipT, foldG] using he
          | succ j =>
            simp only [List.getElem?_cons_succ] at ho' he'
            have := h2 j o' e' ho' he'
            rw [hT, hRr, show k + 1 + j = k + (j + 1) by omega] at this
            simp only [zipT, List.map_cons, List.take_succ_cons, foldG, if_true]
            rw [shift _ _ (0 + 1) 0, shift (List.take j (List.map (fun x => x.wr) es)) _ (0 + 1) 0]
            exact this
        · cases j with
          | zero =>
            simp at he'; subst he'
            have := List.all_eq_true.1 hacc f hf
            simp only [Bool.or_eq_true] at this
            cases bef <;> simpa [foot] using this
          | succ j =>
            simp only [List.getElem?_cons_succ] at he'
            have := h3 j e' he' f (List.mem_cons_of_mem _ hf)
            rw [show k + 1 + j = k + (j + 1) by omega] at this
            cases bef <;> simpa using this
        · cases j' with
          | zero => omega
          | succ j' =>
            simp only [List.getElem?_cons_succ] at h2'
            cases j with
            | zero =>
              simp at h1'; subst h1'
              have := h3 j' e2 h2' (foot k e) (by simp [foot])
              rw [show k + 1 + j' = k + (j' + 1) by omega] at this
              cases bef <;> simpa [foot] using this
            | succ j =>
              simp only [List.getElem?_cons_succ] at h1'
              have := h4 j j' e1 e2 (by omega) h1' h2'
              rw [show k + 1 + j' = k + (j' + 1) by omega, show k + 1 + j = k + (j + 1) by omega] at this
              cases bef <;> simpa using this
        · rw [h5 t, hT]
          simp only [zipT, foldG, if_true]
          rw [shift _ _ (0 + 1) 0]
        · rw [h6 i, hRr]
          simp only [List.map_cons, foldG, if_true]
          rw [shift _ _ (0 + 1) 0]
      · cases h

end Go.Abs
