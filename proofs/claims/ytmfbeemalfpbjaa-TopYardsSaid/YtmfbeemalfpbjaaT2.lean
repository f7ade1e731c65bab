/-
  How long pieces without bad picks are, and lengths of warp that are just enough: in plain Lean, no program in sight.
-/
import Derived.Test.YtmfbeemalfpbjaaT1
import Derived.Test.YtmfbeemalfpbjaaG5
import Derived.Test.YtmfbeemalfpbjaaS27
import Derived.Test.YtmfbeemalfpbjaaS44
set_option linter.all false
namespace Go.Abs
set_option maxRecDepth 10000

theorem cutsE_free {r : Int} {l : List Cut} (hv : CutsOk r [] l) : cutsE r [] l = 0 := by
  unfold cutsE
  rw [if_neg (by have := hv.rr; omega), if_neg (by have := hv.ll; simp; omega), if_neg (by simp), if_neg, if_neg]
  · rintro ⟨i, h, _⟩
    simp at h
  · rw [Bool.not_eq_true, List.any_eq_false]
    intro c hc
    have := hv.cc c hc
    simp only [decide_eq_true_eq, CutBad]
    omega
theorem start_near {r : Int} {l : List Cut} (hv : CutsOk r [] l) {c : Cut} (hc : c ∈ l) {f : Int} (hf : 0 ≤ f) : startF r [] c f ≤ f + r - 1 := by
  have hcc := hv.cc c hc
  have hr := hv.rr
  have h := (start_spec (bad := []) hr (by simp) hcc.2 hf).1
  obtain ⟨n1, n2, n3, _⟩ := next_rem (r := r) (b := c.b) (x := f) (by omega) (by omega)
  apply Classical.byContradiction
  intro q
  exact h.no (f + (c.b + r - f % r) % r) (by omega) (by omega) ⟨n1, fun b hb => by cases hb⟩
theorem comp_near {r : Int} {l : List Cut} (hv : CutsOk r [] l) {B : Int} (hB : ∀ c ∈ l, c.p ≤ B) : ∀ (o : List Nat) (f : Int), 0 ≤ f → (∀ i ∈ o, i < l.length) → f + o.length ≤ comp r [] l o f ∧ comp r [] l o f ≤ f + (r - 1 + B) * o.length
  | [], f, hf, _ => by simp [comp]
  | i :: o, f, hf, hi => by
    have hil := hi i (by simp)
    have h1 := start_near hv (cutAt_mem hil) hf
    have h2 := (start_spec (bad := []) hv.rr (by simp) (hv.cc _ (cutAt_mem hil)).2 hf).1.le
    have h3 := hv.cc _ (cutAt_mem hil)
    have h4 := hB _ (cutAt_mem hil)
    have e : comp r [] l (i :: o) f = comp r [] l o (endF r [] l f i) := rfl
    obtain ⟨g1, g2⟩ := comp_near hv hB o (endF r [] l f i) (by unfold endF; omega) fun j hj => hi j (by simp [hj])
    rw [e]
    unfold endF at g1 g2 ⊢
    rw [List.length_cons]
    refine ⟨by omega, Int.le_trans g2 ?_⟩
    rw [show ((o.length + 1 : Nat) : Int) = (o.length : Int) + 1 by omega, Int.mul_add, Int.mul_one]
    omega
/-- the shortest piece: at least a pick, at most a repeat and a length for each -/
theorem need_bound {r : Int} {l : List Cut} (hv : CutsOk r [] l) {B : Int} (hB : ∀ c ∈ l, c.p ≤ B) (hB0 : 0 ≤ B) (h0 : 0 < l.length) {x : Int} (h : Best r [] l (fun _ => true) 0 x) : 1 ≤ x ∧ x ≤ (r - 1 + B) * l.length := by
  obtain ⟨⟨o, ho, rfl⟩, _⟩ := h
  have hi : ∀ i ∈ o, i < l.length := fun i hi => ((ho.2 i).1 hi).1
  obtain ⟨g1, g2⟩ := comp_near hv hB o 0 (by omega) hi
  have h1 : 0 ∈ o := (ho.2 0).2 ⟨h0, rfl⟩
  have h2 : 0 < o.length := List.length_pos_of_mem h1
  have h3 := ord_len hv ho
  have hr := hv.rr
  refine ⟨by omega, Int.le_trans g2 ?_⟩
  have := Int.mul_le_mul_of_nonneg_left (show (o.length : Int) ≤ l.length by omega) (show 0 ≤ r - 1 + B by omega)
  omega
theorem pieces_one {r picks x : Int} {l : List Cut} (hv : CutsOk r [] l) (h0 : 0 < l.length) (h : Best r [] l (fun _ => true) 0 x) (hx : x ≤ picks) :
    (∀ i, i < l.length → Feas r [] l picks fun j => decide (j = i)) ∧ ∀ m, LeastAsg l.length (Feas r [] l picks) (fun _ => true) m → m = 1 := by
  have hall : Feas r [] l picks fun _ => true := ⟨x, h, hx⟩
  refine ⟨fun i hi => feas_mono hv (fun _ _ _ => rfl) hall, fun m hm => ?_⟩
  have h1 := hm.2 1 ⟨fun _ => 0, fun _ _ _ => Nat.zero_lt_one, fun j hj => by
    obtain rfl : j = 0 := by omega
    exact feas_mono hv (fun _ _ _ => rfl) hall⟩
  obtain ⟨g, hg, _⟩ := hm.1
  have := hg 0 h0 rfl
  omega

open Go.Abs.Beam (clothV)
/-- a micrometre of warp more gives at most two of cloth more -/
theorem cloth_step {s c a n : Int} (h1 : 0 ≤ s ∧ s ≤ 200) (h2 : 0 ≤ c ∧ c ≤ 300) (h3 : 1 ≤ n) : clothV s c a n ≤ clothV s c a (n - 1) + 2 := by
  unfold clothV
  have e1 : (n - 1) * (1000 + s) = n * (1000 + s) - (1000 + s) := by rw [Int.sub_mul]; omega
  rw [e1]
  generalize n * (1000 + s) = q
  have e2 : q / 1000 ≤ (q - (1000 + s)) / 1000 + 2 := by omega
  have e3 : q / 1000 * (1000 - c) ≤ (q - (1000 + s)) / 1000 * (1000 - c) + 2 * (1000 - c) := by
    have := Int.mul_le_mul_of_nonneg_right e2 (show 0 ≤ 1000 - c by omega)
    rw [Int.add_mul] at this
    exact this
  generalize (q - (1000 + s)) / 1000 * (1000 - c) = u at *
  generalize q / 1000 * (1000 - c) = v at *
  omega
end Go.Abs
