/-
  Chapter 7, without the reference: what SeamCutOut leans on. Plain.
-/
import Derived.Test.YtfokmdhmaabegaaS44
import Derived.Test.YtfokmdhmaabegaaS45
set_option linter.all false
namespace Go.Abs
set_option maxRecDepth 10000
set_option maxHeartbeats 1000000

theorem cutAt_get {l : List Cut} {i : Nat} (h : i < l.length) : cutAt l i = l[i] := by simp [cutAt, h]
theorem pick_all (l : List Cut) : pickL l (List.range l.length) = l := by
  apply List.ext_getElem
  · simp [pickL]
  · intro i h1 h2
    simp only [pickL, List.getElem_map, List.getElem_range]
    exact cutAt_get h2
theorem pick_tail (l : List Cut) : pickL l ((List.range (l.length - 1)).map (· + 1)) = l.tail := by
  apply List.ext_getElem
  · simp [pickL]
  · intro i h1 h2
    rw [List.length_tail] at h2
    simp only [pickL, List.getElem_map, List.getElem_range, List.getElem_tail]
    exact cutAt_get (by omega)
/-- one length fewer -/
theorem best_tail {r : Int} {bad : List Int} {l : List Cut} (hv : CutsOk r bad l) {x y : Int} (h1 : Best r bad l.tail (fun _ => true) 0 x) (h2 : Best r bad l (fun _ => true) 0 y) : x ≤ y := by
  have hn : ((List.range (l.length - 1)).map (· + 1)).Nodup := by
    unfold List.Nodup
    rw [List.pairwise_map]
    exact List.Pairwise.imp (fun h => by omega) (List.nodup_range (n := l.length - 1))
  have hi : ∀ i ∈ (List.range (l.length - 1)).map (· + 1), i < l.length := by
    intro i hi
    obtain ⟨j, hj, rfl⟩ := List.mem_map.1 hi
    have := List.mem_range.1 hj; omega
  obtain ⟨z, hz⟩ := best_exists hv _ (fun i => decide (i ∈ (List.range (l.length - 1)).map (· + 1))) 0 rfl
  have hb := pick_best hn hi hz
  rw [pick_tail] at hb
  rw [h1.uniq hb]
  exact best_sub hv (fun _ _ _ => rfl) hz h2

theorem pieces_facts {r picks free : Int} {l : List Cut} (hv : CutsOk r [] l) (hf : Best r [] l (fun _ => true) 0 free) : (∀ m : Nat, LeastAsg l.length (Feas r [] l picks) (fun _ => true) m → (∀ i, i < l.length → Feas r [] l picks fun j => decide (j = i)) → m ≤ l.length ∧ (m = 1 ↔ 0 < l.length ∧ free ≤ picks) ∧ (m = 0 ↔ l.length = 0)) ∧
    ((∃ i, i < l.length ∧ ¬ Feas r [] l picks fun j => decide (j = i)) → picks < free) := by
  have hmono := fun p q hh => feas_mono hv (m := picks) (p := p) (q := q) hh
  have hfe := feas_iff (m := picks) hf
  refine ⟨fun m hm h1 => ?_, fun ⟨i, hi, hno⟩ => ?_⟩
  · have h0 : m = 0 ↔ l.length = 0 := by
      constructor
      · rintro rfl
        obtain ⟨h, g1, _⟩ := hm.1
        apply Classical.byContradiction
        intro c
        have := g1 0 (by omega) rfl
        omega
      · intro e
        have := hm.2 0 (asg_none hmono (fun i hi => by omega)).1
        omega
    refine ⟨hm.2 _ (asg_singles hmono h1 _), ⟨fun e => ?_, fun ⟨g1, g2⟩ => ?_⟩, h0⟩
    · subst e
      refine ⟨by omega, hfe.1 ?_⟩
      obtain ⟨h, g1, g2⟩ := hm.1
      exact hmono _ _ (fun i hi _ => by have := g1 i hi rfl; simp; omega) (g2 0 (by omega))
    · have := hm.2 1 ⟨fun _ => 0, fun _ _ _ => Nat.zero_lt_one, fun j hj => hmono _ _ (fun _ _ _ => rfl) (hfe.2 g2)⟩
      omega
  · apply Classical.byContradiction
    intro c
    exact hno (hmono _ _ (fun _ _ _ => rfl) (hfe.2 (by omega)))

/-- lengths in an order by chance: those that were laid, and those that are left -/
structure MixOk (n : Nat) (o js : List Nat) : Prop where
  nd : (o ++ js).Nodup
  mem : ∀ i, i ∈ o ++ js ↔ i < n
theorem mix_start (n : Nat) : MixOk n [] (List.range n) := ⟨by simpa using List.nodup_range, fun i => by simp⟩
theorem mix_step {n : Nat} {o js : List Nat} (h : MixOk n o js) {k : Nat} (hk : k < js.length) : MixOk n (o ++ [js[k]]) (js.eraseIdx k) := by
  have hp : (o ++ [js[k]] ++ js.eraseIdx k).Perm (o ++ js) := by
    rw [List.append_assoc]
    apply List.Perm.append_left
    have e : js = js.take k ++ js[k] :: js.drop (k + 1) := by rw [List.getElem_cons_drop, List.take_append_drop]
    rw [List.eraseIdx_eq_take_drop_succ]
    have hp : (js.take k ++ js[k] :: js.drop (k + 1)).Perm (js[k] :: (js.take k ++ js.drop (k + 1))) := List.perm_middle
    rw [← e] at hp
    exact hp.symm
  exact ⟨hp.nodup_iff.2 h.nd, fun i => by rw [hp.mem_iff]; exact h.mem i⟩
theorem mix_end {n : Nat} {o : List Nat} (h : MixOk n o []) : IsOrd n (fun _ => true) o := by
  obtain ⟨h1, h2⟩ := h
  rw [List.append_nil] at h1 h2
  exact ⟨h1, fun i => by rw [h2]; simp⟩
theorem comp_snoc {r : Int} {bad : List Int} {l : List Cut} (o : List Nat) (i : Nat) (f : Int) : comp r bad l (o ++ [i]) f = endF r bad l (comp r bad l o f) i := by
  unfold comp; rw [List.foldl_append]; rfl
/-- the room behind what is left -/
theorem left_step {es : List AV} {m k : Nat} (hk : k < m) (hm : m ≤ es.length) : ((es.take k ++ (es.drop (k + 1)).take (m - (k + 1))) ++ es.drop (m - 1)).length = es.length ∧
    ((es.take k ++ (es.drop (k + 1)).take (m - (k + 1))) ++ es.drop (m - 1)).take (m - 1) = (es.take m).eraseIdx k := by
  have l1 : (es.take k ++ (es.drop (k + 1)).take (m - (k + 1))).length = m - 1 := by simp; omega
  refine ⟨by rw [List.length_append, l1, List.length_drop]; omega, ?_⟩
  rw [List.take_append_of_le_length (by omega), List.take_of_length_le (by omega), List.eraseIdx_eq_take_drop_succ, List.take_take, List.drop_take, Nat.min_eq_left (by omega)]
end Go.Abs
