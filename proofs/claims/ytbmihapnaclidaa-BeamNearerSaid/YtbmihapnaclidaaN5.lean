/-
  Chapter 6: all wheels, level by level, and the nearest ones, in plain Lean: no program in sight.
-/
import Derived.Test.YtbmihapnaclidaaN3
import Derived.Test.YtbmihapnaclidaaN4
import Derived.Test.YtbmihapnaclidaaI1
set_option linter.all false
namespace Go.Abs
set_option maxRecDepth 10000

def lv (w0 : WheelA) : Nat → List WheelA
  | 0 => [w0]
  | k + 1 => (lv w0 k).flatMap moreL
/-- the wheels of the levels 1 to k -/
def upTo (w0 : WheelA) : Nat → List WheelA
  | 0 => []
  | k + 1 => upTo w0 k ++ lv w0 (k + 1)
structure ShopOk (t : TakeA) (shop : List Int) : Prop where
  c : checkT t = 0
  l : shop.length ≤ 8
  s : ∀ n ∈ shop, 1 ≤ n ∧ n ≤ 100
structure Good (t : TakeA) (shop : List Int) (k : Nat) (w : WheelA) : Prop where
  t : w.t = t
  s : w.shop = shop
  p : w.ps.length = k
  i : w.In
theorem more_good {t : TakeA} {shop : List Int} {k : Nat} {w : WheelA} (h : Good t shop k w) : ∀ x ∈ moreL w, Good t shop (k + 1) x := by
  intro x hx
  unfold moreL at hx
  obtain ⟨a, ha, hx⟩ := List.mem_flatMap.1 hx
  unfold moreIn at hx
  obtain ⟨b, hb, rfl⟩ := List.mem_map.1 hx
  have hb' := (List.mem_filter.1 hb).1
  rw [List.mem_range] at ha hb'
  refine ⟨h.t, h.s, by simp [extW, h.p], fun p hp => ?_⟩
  rcases List.mem_append.1 hp with hp | hp
  · exact h.i p hp
  · rw [List.mem_singleton.1 hp]
    simp only [extW]
    omega
theorem lv_good {t : TakeA} {shop : List Int} : ∀ k, ∀ x ∈ lv ⟨t, shop, []⟩ k, Good t shop k x
  | 0, x, hx => by
    rw [List.mem_singleton.1 hx]
    exact ⟨rfl, rfl, rfl, fun p hp => by cases hp⟩
  | k + 1, x, hx => by
    obtain ⟨w, hw, hx⟩ := List.mem_flatMap.1 hx
    exact more_good (lv_good k w hw) x hx
theorem good_check {t : TakeA} {shop : List Int} (hs : ShopOk t shop) {k : Nat} {w : WheelA} (h : Good t shop k w) (hk : k ≤ 2) : checkT (wheelT w) = 0 := by
  obtain ⟨_, ⟨h1, h2, h3⟩, _⟩ := checkT_zero hs.c
  unfold checkT wheelT
  rw [if_neg (by rw [List.length_map, h.p]; omega), if_pos]
  refine ⟨⟨by rw [h.t]; exact h1, by rw [h.t]; exact h2, by rw [h.t]; exact h3⟩, fun p hp => ?_⟩
  obtain ⟨q, hq, rfl⟩ := List.mem_map.1 hp
  have hi := h.i q hq
  have g : ∀ n : Int, 0 ≤ n → n < w.shop.length → 1 ≤ shopAt w.shop n ∧ shopAt w.shop n ≤ 100 := fun n n0 n1 => by
    apply hs.s
    rw [← h.s]
    unfold shopAt
    rw [List.getD_eq_getElem?_getD, List.getElem?_eq_getElem (by omega)]
    exact List.getElem_mem (by omega)
  exact ⟨g _ hi.1.1 hi.1.2, g _ hi.2.1 hi.2.2⟩
theorem flat_len {α β : Type} (f : α → List β) (B : Nat) : ∀ l : List α, (∀ x ∈ l, (f x).length ≤ B) → (l.flatMap f).length ≤ l.length * B
  | [], _ => by simp
  | a :: l, h => by
    have h1 := flat_len f B l fun x hx => h x (List.mem_cons_of_mem _ hx)
    have h2 := h a (List.mem_cons_self ..)
    rw [List.flatMap_cons, List.length_append, List.length_cons, Nat.add_mul]
    omega
theorem more_len {w : WheelA} (h : w.shop.length ≤ 8) : (moreL w).length ≤ 64 := by
  have h1 := flat_len (moreIn w (List.range w.shop.length)) 8 (List.range w.shop.length) fun a _ => by
    unfold moreIn
    rw [List.length_map]
    exact Nat.le_trans (List.length_filter_le _ _) (by simpa using h)
  rw [List.length_range] at h1
  unfold moreL
  omega
theorem lv_len {t : TakeA} {shop : List Int} (hl : shop.length ≤ 8) : ∀ k, (lv ⟨t, shop, []⟩ k).length ≤ 64 ^ k
  | 0 => by simp [lv]
  | k + 1 => by
    have h1 := flat_len moreL 64 (lv ⟨t, shop, []⟩ k) fun x hx => more_len (by rw [(lv_good k x hx).s]; exact hl)
    have h2 := lv_len (t := t) hl k
    have e : (lv ⟨t, shop, []⟩ (k + 1)) = (lv ⟨t, shop, []⟩ k).flatMap moreL := rfl
    rw [e, Nat.pow_succ]
    exact Nat.le_trans h1 (Nat.mul_le_mul_right 64 h2)

/-- the first wheels come nearer than the second ones -/
def nearW (wn wd : Int) (x b : WheelA) : Bool := decide (awayN (nT (wheelT x)) (dT (wheelT x)) wn wd * (dT (wheelT b)).toNat < awayN (nT (wheelT b)) (dT (wheelT b)) wn wd * (dT (wheelT x)).toNat)
def stepB (wn wd : Int) (b x : WheelA) : WheelA := if nearW wn wd x b then x else b
def bestOf (wn wd : Int) (w0 : WheelA) (l : List WheelA) : WheelA := l.foldl (stepB wn wd) w0
theorem bestOf_snoc (wn wd : Int) (w0 : WheelA) (l : List WheelA) (x : WheelA) : bestOf wn wd w0 (l ++ [x]) = stepB wn wd (bestOf wn wd w0 l) x := by
  unfold bestOf; rw [List.foldl_append]; rfl
theorem bestOf_mem (wn wd : Int) : ∀ (l : List WheelA) (w0 : WheelA), bestOf wn wd w0 l ∈ w0 :: l
  | [], w0 => by simp [bestOf]
  | x :: l, w0 => by
    have h := bestOf_mem wn wd l (stepB wn wd w0 x)
    have e : bestOf wn wd w0 (x :: l) = bestOf wn wd (stepB wn wd w0 x) l := rfl
    rw [e]
    rcases List.mem_cons.1 h with h | h
    · rw [h]; unfold stepB; split <;> simp
    · exact List.mem_cons_of_mem _ (List.mem_cons_of_mem _ h)
theorem good_far {t : TakeA} {shop : List Int} (hs : ShopOk t shop) {k : Nat} {w : WheelA} (h : Good t shop k w) (hk : k ≤ 2) {wn wd : Int} (h1 : 1 ≤ wn ∧ wn ≤ 1000000) (h2 : 1 ≤ wd ∧ wd ≤ 100) : FarOk (nT (wheelT w)) (dT (wheelT w)) wn wd := by
  have nb := nT_bound (good_check hs h hk)
  exact ⟨nb.1.1, nb.1.2, nb.2.1, nb.2.2, h1.1, h1.2, h2.1, h2.2⟩
theorem upTo_good {t : TakeA} {shop : List Int} : ∀ k, ∀ x ∈ upTo ⟨t, shop, []⟩ k, ∃ j, j ≤ k ∧ Good t shop j x
  | 0, x, hx => by cases hx
  | k + 1, x, hx => by
    rcases List.mem_append.1 hx with h | h
    · obtain ⟨j, hj, hg⟩ := upTo_good k x h
      exact ⟨j, by omega, hg⟩
    · exact ⟨k + 1, Nat.le_refl _, lv_good _ x h⟩
end Go.Abs
