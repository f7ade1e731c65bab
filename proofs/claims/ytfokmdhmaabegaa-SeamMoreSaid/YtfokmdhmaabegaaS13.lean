/-
  Chapter 7: the contract of Show: a truth is left, in which one length is ahead by just so much.
-/
import Derived.Test.YtfokmdhmaabegaaS12
set_option linter.all false
namespace Go.Abs
set_option maxRecDepth 10000
set_option maxHeartbeats 4000000

theorem kvGet_set (x k : Int) (v : AV) : ∀ kv, kvGet x (kvSet k v kv) = if k = x then some v else kvGet x kv
  | [] => by simp [kvSet, kvGet]
  | (j, u) :: r => by
    unfold kvSet
    by_cases h : j = k
    · subst h
      by_cases h2 : j = x
      · simp [kvGet, h2]
      · simp [kvGet, h2]
    · rw [if_neg h]
      simp only [kvGet]
      rw [kvGet_set x k v r]
      by_cases h2 : j = x
      · have : ¬ k = x := fun e => h (h2.trans e.symm)
        simp [h2, this]
      · simp [h2]
def kvM (edge ahead : Int) (ts : List Int) : List (Int × AV) := ts.foldl (fun kv t => kvSet t (iv 0) kv) [(edge, iv ahead)]
theorem kvM_take {edge ahead : Int} {ts : List Int} {k : Nat} (h : k < ts.length) : kvM edge ahead (ts.take (k + 1)) = kvSet ts[k] (iv 0) (kvM edge ahead (ts.take k)) := by
  unfold kvM
  rw [List.take_succ_eq_append_getElem h, List.foldl_append]; rfl
theorem kvM_get {edge ahead : Int} (x : Int) : ∀ {ts : List Int} (kv : List (Int × AV)), kvGet x (ts.foldl (fun kv t => kvSet t (iv 0) kv) kv) = if x ∈ ts then some (iv 0) else kvGet x kv
  | [], kv => by simp
  | t :: ts, kv => by
    rw [List.foldl_cons, kvM_get (edge := edge) (ahead := ahead) x, kvGet_set]
    by_cases h : x ∈ ts
    · simp [h]
    · by_cases h2 : t = x
      · simp [h2]
      · have : ¬ x = t := fun e => h2 e.symm
        simp [h, h2, this]

/-! ### The truth that is filled in -/

theorem atI_app1 {A X : List Int} {i : Nat} (h : i < A.length) : atI (A ++ X) i = atI A i := by simp only [atI, List.getElem?_append_left h]
theorem atI_app2 {A : List Int} {f : Nat → Int} {k j : Nat} (h : j < k) : atI (A ++ (List.range k).map f) (A.length + j) = f j := by simp [atI, h]
theorem ahT_app {A B X Y : List Int} (hl : A.length = B.length) : ∀ {i : Nat}, i ≤ A.length → ahT (A ++ X) (B ++ Y) i = ahT A B i
  | 0, _ => rfl
  | i + 1, h => by simp only [ahT]; rw [ahT_app hl (by omega), atI_app1 (by omega), atI_app1 (by omega)]

section
variable {wa wb : List Span} {ts : List Int} {n : Nat} (hla : wa.length = n) (hlb : wb.length = n)
include hla hlb

theorem fill_ah {p q : Nat} {g : Int} {A B : List Int} (hA : A.length = p) (hB : B.length = p) : ∀ {j : Nat}, p + j ≤ q →
    ahT (A ++ (List.range (q - p)).map (fA wa wb (moreL wa wb) p q g)) (B ++ (List.range (q - p)).map (fB wa wb (moreL wa wb) p q g)) (p + j) = ahT A B p + (g - gN (moreL wa wb) p q g j)
  | 0, _ => by rw [Nat.add_zero, ahT_app (by omega) (by omega)]; simp [gN]
  | j + 1, h => by
    rw [← Nat.add_assoc, ahT, fill_ah hA hB (by omega)]
    have e1 := atI_app2 (A := A) (f := fA wa wb (moreL wa wb) p q g) (k := q - p) (j := j) (by omega)
    have e2 := atI_app2 (A := B) (f := fB wa wb (moreL wa wb) p q g) (k := q - p) (j := j) (by omega)
    rw [hA] at e1
    rw [hB] at e2
    rw [e1, e2]
    simp only [gN, fB]; omega

theorem fill_fit (wda : ∀ i, i < n → (at' wa i).lo ≤ (at' wa i).hi) (wdb : ∀ i, i < n → (at' wb i).lo ≤ (at' wb i).hi) (ho : ∀ i, (at' (moreL wa wb) i).lo ≤ (at' (moreL wa wb) i).hi) {p q : Nat} {g : Int} (hq : q ≤ n)
    (hg : (dS (moreL wa wb) p q).lo ≤ g ∧ g ≤ (dS (moreL wa wb) p q).hi) {A B : List Int} (hA : A.length = p) (hB : B.length = p) (hf : ∀ j, j < p → FitT wa wb A B j) :
    ∀ j, j < q → FitT wa wb (A ++ (List.range (q - p)).map (fA wa wb (moreL wa wb) p q g)) (B ++ (List.range (q - p)).map (fB wa wb (moreL wa wb) p q g)) j := by
  intro j hj
  by_cases h : j < p
  · have := hf j h
    unfold FitT at this ⊢
    rw [atI_app1 (by omega), atI_app1 (by omega)]; exact this
  · have e1 := atI_app2 (A := A) (f := fA wa wb (moreL wa wb) p q g) (k := q - p) (j := j - p) (by omega)
    have e2 := atI_app2 (A := B) (f := fB wa wb (moreL wa wb) p q g) (k := q - p) (j := j - p) (by omega)
    rw [hA, show p + (j - p) = j by omega] at e1
    rw [hB, show p + (j - p) = j by omega] at e2
    unfold FitT
    rw [e1, e2]
    have b := gN_bound (m := moreL wa wb) (p := p) (q := q) (g := g) ho (by simp [moreL]; omega) hg (j := j - p) (by omega)
    rw [show p + (j - p) = j by omega, dS_step (by simp [moreL]; omega)] at b
    have xm : at' (moreL wa wb) j = ⟨(at' wa j).lo - (at' wb j).hi, (at' wa j).hi - (at' wb j).lo⟩ := by
      unfold at'
      rw [more_at (by omega) (by omega)]; rfl
    have q1 := wda j (by omega)
    have q2 := wdb j (by omega)
    unfold fB fA fD InW
    rw [show p + (j - p) = j by omega]
    rw [xm] at b ⊢
    dsimp only at b ⊢
    omega

/-- what is known of the first lengths of a truth, up to a place -/
structure ShowInv (wa wb : List Span) (ts : List Int) (edge : Nat) (ahead : Int) (i fr : Nat) (was : Int) (A B : List Int) : Prop where
  lt : fr < i
  la : A.length = fr
  lb : B.length = fr
  known : fr = 0 ∨ (fr : Int) ∈ ts ∨ fr = edge
  between : ∀ x, fr < x → x < i → ¬ (x : Int) ∈ ts ∧ x ≠ edge
  fit : ∀ j, j < fr → FitT wa wb A B j
  now : ahT A B fr = was
  wasM : (fr = 0 ∨ (fr : Int) ∈ ts) → was = 0
  wasE : fr = edge → was = ahead
  marks : ∀ x : Nat, x ≤ fr → (x : Int) ∈ ts → ahT A B x = 0
  edge : edge ≤ fr → ahT A B edge = ahead

theorem fo_zero (f : Nat) (h : f = 0 ∨ (f : Int) ∈ ts) : fo wa wb ts f = ⟨0, 0⟩ := by
  cases f with
  | zero => rfl
  | succ f => rw [fo, if_pos (by rcases h with h | h; omega; simpa using h)]

theorem show_gap {edge : Nat} {ahead : Int} (hgood : ∀ i, i < n → ¬ BadAt wa wb ts i) (hspan : (outR wa wb ts n edge).lo ≤ ahead ∧ ahead ≤ (outR wa wb ts n edge).hi) {i fr : Nat} {was : Int} {A B : List Int} (h : ShowInv wa wb ts edge ahead i fr was A B) (hi : i ≤ n)
    {is : Int} (his : (i : Int) ∈ ts ∧ is = 0 ∨ (¬ (i : Int) ∈ ts ∧ i = edge ∧ is = ahead)) : (dS (moreL wa wb) fr i).lo ≤ is - was ∧ is - was ≤ (dS (moreL wa wb) fr i).hi := by
  obtain ⟨lt, la, lb, known, between, fit, w1, wasM, wasE, marks, hedge⟩ := h
  have hl : wa.length = wb.length := by omega
  rcases his with ⟨m, rfl⟩ | ⟨m, rfl, rfl⟩
  · by_cases c : fr = 0 ∨ (fr : Int) ∈ ts
    · have h0 := fo_zero hla hlb (wa := wa) (wb := wb) (ts := ts) fr c
      have e := fo_seg hl h0 (e := i - 1) (by omega) (by omega) fun x h1 h2 => (between x h1 (by omega)).1
      have hb := hgood (i - 1) (by omega)
      have hz : (foR wa wb (fo wa wb ts (i - 1)) (i - 1)).Has0 := by
        apply Classical.byContradiction
        intro hz
        exact hb ⟨by rw [show (((i - 1 : Nat) : Int) + 1) = i by omega]; exact m, hz⟩
      rw [e] at hz
      have hp := pre_more hl (show i - 1 < wa.length by omega)
      rw [show i - 1 + 1 = i by omega] at hp
      rw [wasM c]
      unfold foR Span.Has0 dS at hz
      unfold dS
      rw [hp]
      dsimp only at hz ⊢
      omega
    · have c2 : fr = edge := by
        rcases known with h | h | h
        · exact absurd (.inl h) c
        · exact absurd (.inr h) c
        · exact h
      have hb := ba_mark hl (ts0 := ts) (e := i) (by omega) (.inr m)
      have hs := ba_seg hl (ts0 := ts) (t := i) (by omega) hb (i - fr) (by
        have : fr ≠ 0 := fun e => c (.inl e)
        omega) fun x h1 h2 => by
          by_cases e : x = fr
          · subst e; exact fun h => c (.inr h)
          · exact (between x (by omega) h2).1
      rw [show i - (i - fr) = fr by omega, hla] at hs
      rw [wasE c2]
      subst c2
      unfold outR at hspan
      rw [hs] at hspan
      dsimp only at hspan
      omega
  · have c : fr = 0 ∨ (fr : Int) ∈ ts := by
      rcases known with h | h | h
      · exact .inl h
      · exact .inr h
      · omega
    have h0 := fo_zero hla hlb (wa := wa) (wb := wb) (ts := ts) fr c
    have e := fo_seg hl h0 (e := i) (by omega) (by omega) fun x h1 h2 => by
      by_cases q : x = i
      · subst q; exact m
      · exact (between x h1 (by omega)).1
    rw [wasM c]
    unfold outR at hspan
    rw [e] at hspan
    dsimp only at hspan
    omega

theorem show_step (wda : ∀ i, i < n → (at' wa i).lo ≤ (at' wa i).hi) (wdb : ∀ i, i < n → (at' wb i).lo ≤ (at' wb i).hi) (ho : ∀ i, (at' (moreL wa wb) i).lo ≤ (at' (moreL wa wb) i).hi)
    {edge : Nat} {ahead : Int} (hgood : ∀ i, i < n → ¬ BadAt wa wb ts i) (hspan : (outR wa wb ts n edge).lo ≤ ahead ∧ ahead ≤ (outR wa wb ts n edge).hi) (he0 : edge = 0 ∨ (edge : Int) ∈ ts → ahead = 0) {i fr : Nat} {was : Int} {A B : List Int} (h : ShowInv wa wb ts edge ahead i fr was A B) (hi : i ≤ n)
    {is : Int} (his : (i : Int) ∈ ts ∧ is = 0 ∨ (¬ (i : Int) ∈ ts ∧ i = edge ∧ is = ahead)) :
    ShowInv wa wb ts edge ahead (i + 1) i is (A ++ (List.range (i - fr)).map (fA wa wb (moreL wa wb) fr i (is - was))) (B ++ (List.range (i - fr)).map (fB wa wb (moreL wa wb) fr i (is - was))) := by
  have hg := show_gap hla hlb hgood hspan h hi his
  obtain ⟨lt, la, lb, known, between, fit, w1, wasM, wasE, marks, hedge⟩ := h
  have hah := fun j (hj : fr + j ≤ i) => fill_ah hla hlb (wa := wa) (wb := wb) (q := i) (g := is - was) la lb (j := j) hj
  have hend := gN_end (m := moreL wa wb) ho (Nat.le_of_lt lt) (by simp [moreL]; omega) hg
  have hai : ahT (A ++ (List.range (i - fr)).map (fA wa wb (moreL wa wb) fr i (is - was))) (B ++ (List.range (i - fr)).map (fB wa wb (moreL wa wb) fr i (is - was))) i = is := by
    have := hah (i - fr) (by omega)
    rw [show fr + (i - fr) = i by omega, hend, w1] at this
    rw [this]; omega
  refine ⟨by omega, by simp; omega, by simp; omega, ?_, fun x h1 h2 => by omega, fill_fit hla hlb wda wdb ho hi hg la lb fit, hai, ?_, ?_, ?_, ?_⟩
  · rcases his with ⟨m, _⟩ | ⟨_, m, _⟩
    · exact .inr (.inl m)
    · exact .inr (.inr m)
  · rcases his with ⟨_, m⟩ | ⟨m, m2, m3⟩
    · exact fun _ => m
    · rintro (h | h)
      · omega
      · exact absurd h m
  · intro e
    rcases his with ⟨m, m2⟩ | ⟨m, m2, m3⟩
    · subst e; rw [m2, he0 (.inr m)]
    · exact m3
  · intro x hx hm
    by_cases c : x ≤ fr
    · rw [ahT_app (by omega) (by omega)]; exact marks x c hm
    · by_cases c2 : x = i
      · subst c2
        rw [hai]
        rcases his with ⟨_, m⟩ | ⟨m, _, _⟩
        · exact m
        · exact absurd hm m
      · exact absurd hm (between x (by omega) (by omega)).1
  · intro hx
    by_cases c : edge ≤ fr
    · rw [ahT_app (by omega) (by omega)]; exact hedge c
    · by_cases c2 : edge = i
      · subst c2
        rw [hai]
        rcases his with ⟨m, m2⟩ | ⟨m, m2, m3⟩
        · rw [m2, he0 (.inr m)]
        · exact m3
      · exact absurd rfl (between edge (by omega) (by omega)).2

end

/-- a truth that is left, in which one length is ahead at an edge by just so much -/
structure TruthOk (wa wb : List Span) (ts : List Int) (n edge : Nat) (ahead : Int) (t : TruthA) : Prop where
  la : t.a.length = n
  lb : t.b.length = n
  fit : ∀ i, i < n → FitT wa wb t.a t.b i
  marks : ∀ i : Nat, i ≤ n → (i : Int) ∈ ts → ahT t.a t.b i = 0
  edge : ahT t.a t.b edge = ahead
end Go.Abs
