/-
  Chapter 6: what the nearest wheels are, in plain Lean: no program in sight.
-/
import Derived.Test.YtbmihapnaclidaaN5
set_option linter.all false
namespace Go.Abs
set_option maxRecDepth 10000

/-- how far a take-up is from a ratio, in parts of its Den -/
def awT (wn wd : Int) (x : WheelA) : Nat := awayN (nT (wheelT x)) (dT (wheelT x)) wn wd
def dW (x : WheelA) : Nat := (dT (wheelT x)).toNat
/-- not farther -/
def leW (wn wd : Int) (b x : WheelA) : Prop := awT wn wd b * dW x ≤ awT wn wd x * dW b
theorem leW_refl (wn wd : Int) (b : WheelA) : leW wn wd b b := Nat.le_refl _
theorem leW_trans {wn wd : Int} {a b c : WheelA} (hb : 0 < dW b) (h1 : leW wn wd a b) (h2 : leW wn wd b c) : leW wn wd a c := by
  unfold leW at *
  apply Nat.le_of_mul_le_mul_right (c := dW b) _ hb
  calc awT wn wd a * dW c * dW b = awT wn wd a * dW b * dW c := by rw [Nat.mul_assoc, Nat.mul_comm (dW c), ← Nat.mul_assoc]
    _ ≤ awT wn wd b * dW a * dW c := Nat.mul_le_mul_right _ h1
    _ = awT wn wd b * dW c * dW a := by rw [Nat.mul_assoc, Nat.mul_comm (dW a), ← Nat.mul_assoc]
    _ ≤ awT wn wd c * dW b * dW a := Nat.mul_le_mul_right _ h2
    _ = awT wn wd c * dW a * dW b := by rw [Nat.mul_assoc, Nat.mul_comm (dW b), ← Nat.mul_assoc]
theorem stepB_le (wn wd : Int) (b x : WheelA) : leW wn wd (stepB wn wd b x) b ∧ leW wn wd (stepB wn wd b x) x := by
  unfold stepB
  have e : nearW wn wd x b = decide (awT wn wd x * dW b < awT wn wd b * dW x) := rfl
  by_cases h : awT wn wd x * dW b < awT wn wd b * dW x
  · rw [e, decide_eq_true h, if_pos rfl]
    exact ⟨Nat.le_of_lt h, leW_refl ..⟩
  · rw [e, decide_eq_false h, if_neg (by simp)]
    exact ⟨leW_refl .., Nat.le_of_not_lt h⟩
theorem bestOf_le (wn wd : Int) : ∀ (l : List WheelA) (w0 : WheelA), (∀ x ∈ w0 :: l, 0 < dW x) → ∀ x ∈ w0 :: l, leW wn wd (bestOf wn wd w0 l) x
  | [], w0, _, x, hx => by
    rw [List.mem_singleton.1 hx]; exact leW_refl ..
  | y :: l, w0, h, x, hx => by
    have hs : stepB wn wd w0 y = y ∨ stepB wn wd w0 y = w0 := by unfold stepB; split <;> simp
    have hd : ∀ z ∈ stepB wn wd w0 y :: l, 0 < dW z := by
      intro z hz
      rcases List.mem_cons.1 hz with rfl | hz
      · rcases hs with e | e <;> rw [e]
        · exact h _ (by simp)
        · exact h _ (by simp)
      · exact h z (by simp [hz])
    have ih := bestOf_le wn wd l (stepB wn wd w0 y) hd
    have e : bestOf wn wd w0 (y :: l) = bestOf wn wd (stepB wn wd w0 y) l := rfl
    rw [e]
    have h0 := ih _ (List.mem_cons_self ..)
    have sd := hd _ (List.mem_cons_self ..)
    have sl := stepB_le wn wd w0 y
    rcases List.mem_cons.1 hx with rfl | hx
    · exact leW_trans sd h0 sl.1
    · rcases List.mem_cons.1 hx with rfl | hx
      · exact leW_trans sd h0 sl.2
      · exact ih x (List.mem_cons_of_mem _ hx)

theorem mem_more {w x : WheelA} : x ∈ moreL w ↔ ∃ a b : Nat, a < w.shop.length ∧ b < w.shop.length ∧ okW w a b = true ∧ x = extW w a b := by
  unfold moreL moreIn
  simp only [List.mem_flatMap, List.mem_map, List.mem_filter, List.mem_range]
  constructor
  · rintro ⟨a, ha, b, ⟨hb, ho⟩, rfl⟩; exact ⟨a, b, ha, hb, ho, rfl⟩
  · rintro ⟨a, b, ha, hb, ho, rfl⟩; exact ⟨a, ha, b, ⟨hb, ho⟩, rfl⟩
/-- all wheels that are tried -/
def tried (t : TakeA) (shop : List Int) (p : Nat) : List WheelA := ⟨t, shop, []⟩ :: upTo ⟨t, shop, []⟩ p
theorem lv_tried {t : TakeA} {shop : List Int} {x : WheelA} {k : Nat} : ∀ {p : Nat}, k ≤ p → x ∈ lv ⟨t, shop, []⟩ k → x ∈ tried t shop p
  | 0, hk, hx => by
    obtain rfl : k = 0 := by omega
    rw [List.mem_singleton.1 hx]; exact List.mem_cons_self ..
  | p + 1, hk, hx => by
    by_cases h : k = p + 1
    · subst h
      exact List.mem_cons_of_mem _ (List.mem_append_right _ hx)
    · have ih := lv_tried (p := p) (by omega) hx
      unfold tried at *
      rcases List.mem_cons.1 ih with ih | ih
      · rw [ih]; exact List.mem_cons_self ..
      · exact List.mem_cons_of_mem _ (List.mem_append_left _ ih)
theorem tried_lv {t : TakeA} {shop : List Int} {x : WheelA} : ∀ {p : Nat}, x ∈ tried t shop p → ∃ k, k ≤ p ∧ x ∈ lv ⟨t, shop, []⟩ k
  | 0, hx => ⟨0, Nat.le_refl _, hx⟩
  | p + 1, hx => by
    unfold tried at hx
    rcases List.mem_cons.1 hx with hx | hx
    · exact ⟨0, by omega, by rw [hx]; exact List.mem_singleton.2 rfl⟩
    · rcases List.mem_append.1 hx with hx | hx
      · obtain ⟨k, hk, h⟩ := tried_lv (p := p) (List.mem_cons_of_mem _ hx)
        exact ⟨k, by omega, h⟩
      · exact ⟨p + 1, Nat.le_refl _, hx⟩
theorem nsI_snoc (ps : List P2) (p : P2) : nsI (ps ++ [p]) = nsI ps ++ [p.1, p.2] := by simp [nsI]
theorem ok_iff (w : WheelA) (a b : Nat) : okW w a b = true ↔ a ≠ b ∧ (a : Int) ∉ nsI w.ps ∧ (b : Int) ∉ nsI w.ps := by
  unfold okW
  rw [Bool.not_eq_true', Bool.or_eq_false_iff, Bool.or_eq_false_iff, decide_eq_false_iff_not, List.any_eq_false, List.any_eq_false]
  constructor
  · rintro ⟨⟨h1, h2⟩, h3⟩
    exact ⟨h1, fun hm => h2 _ hm (by simp), fun hm => h3 _ hm (by simp)⟩
  · rintro ⟨h1, h2, h3⟩
    exact ⟨⟨h1, fun x hx e => h2 (by rw [of_decide_eq_true e]; exact hx)⟩, fun x hx e => h3 (by rw [of_decide_eq_true e]; exact hx)⟩
theorem lv_nodup {t : TakeA} {shop : List Int} : ∀ k, ∀ x ∈ lv ⟨t, shop, []⟩ k, (nsI x.ps).Nodup
  | 0, x, hx => by rw [List.mem_singleton.1 hx]; exact List.nodup_nil
  | k + 1, x, hx => by
    obtain ⟨w, hw, hx⟩ := List.mem_flatMap.1 hx
    obtain ⟨a, b, _, _, ho, rfl⟩ := mem_more.1 hx
    obtain ⟨h1, h2, h3⟩ := (ok_iff w a b).1 ho
    have ih := lv_nodup k w hw
    unfold extW
    dsimp only
    rw [nsI_snoc]
    refine List.nodup_append.2 ⟨ih, ?_, ?_⟩
    · simp; omega
    · intro x hx y hy e
      subst e
      rcases List.mem_cons.1 hy with e | hy
      · exact h2 (by have e' : x = (a : Int) := e; rw [← e']; exact hx)
      · exact h3 (by have e' : x = (b : Int) := List.mem_singleton.1 hy; rw [← e']; exact hx)
theorem shop_more (shop : List Int) (n m : Int) (h : 0 ≤ n ∧ n < shop.length) : shopAt (shop ++ [m]) n = shopAt shop n := by
  unfold shopAt
  rw [List.getD_eq_getElem?_getD, List.getD_eq_getElem?_getD, List.getElem?_append_left (by omega)]
theorem lv_wider {t : TakeA} {shop : List Int} (m : Int) : ∀ k, ∀ x ∈ lv ⟨t, shop, []⟩ k, (⟨t, shop ++ [m], x.ps⟩ : WheelA) ∈ lv ⟨t, shop ++ [m], []⟩ k
  | 0, x, hx => by rw [List.mem_singleton.1 hx]; exact List.mem_singleton.2 rfl
  | k + 1, x, hx => by
    obtain ⟨w, hw, hx⟩ := List.mem_flatMap.1 hx
    have hg := lv_good k w hw
    obtain ⟨a, b, ha, hb, ho, rfl⟩ := mem_more.1 hx
    rw [hg.s] at ha hb
    refine List.mem_flatMap.2 ⟨_, lv_wider m k w hw, mem_more.2 ⟨a, b, by simp; omega, by simp; omega, ?_, rfl⟩⟩
    exact (ok_iff _ a b).2 ((ok_iff w a b).1 ho)
theorem wheelT_wider {t : TakeA} {shop : List Int} (m : Int) {k : Nat} {x : WheelA} (h : Good t shop k x) : wheelT ⟨t, shop ++ [m], x.ps⟩ = wheelT x := by
  unfold wheelT
  rw [h.t, h.s]
  dsimp only
  congr 1
  apply List.map_congr_left
  intro p hp
  have hi := h.i p hp
  rw [h.s] at hi
  rw [shop_more _ _ _ hi.1, shop_more _ _ _ hi.2]

variable {t : TakeA} {shop : List Int}
theorem tried_good {p : Nat} {x : WheelA} (h : x ∈ tried t shop p) : ∃ k, k ≤ p ∧ Good t shop k x := by
  obtain ⟨k, hk, h⟩ := tried_lv h
  exact ⟨k, hk, lv_good k x h⟩
theorem tried_d (hs : ShopOk t shop) {p : Nat} (hp : p ≤ 2) {x : WheelA} (h : x ∈ tried t shop p) : 0 < dW x := by
  obtain ⟨k, hk, hg⟩ := tried_good h
  have := nT_bound (good_check hs hg (by omega))
  unfold dW; omega
/-- the nearest wheels -/
def nearestW (t : TakeA) (shop : List Int) (wn wd : Int) (p : Nat) : WheelA := bestOf wn wd ⟨t, shop, []⟩ (upTo ⟨t, shop, []⟩ p)
theorem nearest_tried (wn wd : Int) (p : Nat) : nearestW t shop wn wd p ∈ tried t shop p := bestOf_mem ..
theorem nearest_le (hs : ShopOk t shop) {p : Nat} (hp : p ≤ 2) (wn wd : Int) {x : WheelA} (h : x ∈ tried t shop p) : leW wn wd (nearestW t shop wn wd p) x :=
  bestOf_le wn wd _ _ (fun _ h => tried_d hs hp h) x h
theorem nearest_more (hs : ShopOk t shop) {p : Nat} (hp : p + 1 ≤ 2) (wn wd : Int) : leW wn wd (nearestW t shop wn wd (p + 1)) (nearestW t shop wn wd p) := by
  obtain ⟨k, hk, h⟩ := tried_lv (nearest_tried (t := t) (shop := shop) wn wd p)
  exact nearest_le hs hp wn wd (lv_tried (by omega) h)
theorem nearest_wider (m : Int) (hs : ShopOk t shop) (hs' : ShopOk t (shop ++ [m])) {p : Nat} (hp : p ≤ 2) (wn wd : Int) : leW wn wd (nearestW t (shop ++ [m]) wn wd p) (nearestW t shop wn wd p) := by
  obtain ⟨k, hk, h⟩ := tried_lv (nearest_tried (t := t) (shop := shop) wn wd p)
  have h1 := nearest_le hs' hp wn wd (lv_tried hk (lv_wider m k _ h))
  unfold leW awT dW at *
  rw [wheelT_wider m (lv_good k _ h)] at h1
  exact h1
end Go.Abs
