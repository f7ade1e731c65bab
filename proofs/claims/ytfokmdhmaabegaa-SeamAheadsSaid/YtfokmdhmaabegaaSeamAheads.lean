/-
  SeamAheads returns true for every input, and its argument reads afterwards as it did before. No condition.
-/
import Derived.Test.YtfokmdhmaabegaaC1
import Derived.Test.YtfokmdhmaabegaaS8
set_option linter.all false
namespace Go.Proofs.Ytfokmdhmaabegaa
set_option maxRecDepth 100000
open Go.ChangeShapes Go.WideShapes Go.ChangeAt Go.RowKit Go.Abs

/-- two lengths with marks, as they are read -/
theorem readPair {H : Type} {enc : TypeId × Value → H} {W : World} {r : Reach} {b0 : Nat} {v : Value} {d : DataW H} {p : List MemPlace} (hv : Value.okWide Try.prog W r b0 25 v) (h : DataW.Trod enc Try.prog W 0 (fun _ => true) true 25 v d p) :
    ∃ x : PairA, RelI (fun b => b < W.heap.size) W v x.av := by
  obtain ⟨v0, v1, v2, y0, y1, y2, n, rfl, _, _, h0, h1, h2⟩ := Joins.open_agg3 Try.underlying25 (by kernel_rfl) cells25 hv h
  obtain ⟨u0, l0, e0, r0⟩ := slice_read encPart Try.underlying22 h0
  obtain ⟨u1, l1, e1, r1⟩ := slice_read encPart Try.underlying22 h1
  obtain ⟨u2, l2, e2, r2⟩ := slice_read encInt Try.underlying23 h2
  simp only [List.cons.injEq, and_true] at e0 e1 e2
  subst e0; subst e1; subst e2
  refine ⟨⟨l0, l1, l2⟩, .agg _ _ rfl fun i v c hi hc => ?_⟩
  match i with
  | 0 => simp at hi hc; subst hi; subst hc; exact r0
  | 1 => simp at hi hc; subst hi; subst hc; exact r1
  | 2 => simp at hi hc; subst hi; subst hc; exact r2
  | i + 3 => simp at hi

theorem seamAheads_lifted (os : Os) (started : os.Started) (H : Type) (enc : TypeId × Value → H) :
    ReturnsInHanded {} Try.checked os 3 .any (Rows.seamAheadsSpec.pre6 enc Try.prog Try.f3 Rows.seamAheadsRow.domain false) (Rows.seamAheadsSpec.post enc Try.prog Try.f3 false true false false) := by
  refine returnsInHanded_of_change (C := Try.checked) own started (by kernel_rfl) Try.func3
    (ChangeSpec.witness6 (enc := enc) (C := Try.checked) false ⟨#[], #[.agg #[.slice none 0 0, .slice none 0 0, .slice none 0 0]], []⟩ 8 (by kernel_rfl) (by kernel_rfl) (by kernel_rfl) (by kernel_rfl)) ?_
  intro W base args ds gs before hval0 hW _ _
  have hval : ∀ (j : Nat) t v, Try.f3.params[j]? = some t → args[j]? = some v → Value.okWide Try.prog W .any base t v := hval0
  have hW' := hW
  obtain ⟨p, q, hA0, hV, rfl, hfz, hnd⟩ := hW
  have hA : DataW.TrodAll enc Try.prog W 0 (fun _ => true) true Try.f3.params.toList args.toList ds p := hA0
  rw [Try.params3] at hA hval
  obtain ⟨v0, vs0, d0, ds0, p0, q0, hargs, rfl, rfl, h0, r0⟩ := trodAll_cons hA
  obtain ⟨rfl, rfl, rfl⟩ := trodAll_nil r0
  obtain rfl : args = #[v0] := by cases args; simp_all
  obtain ⟨rfl, rfl⟩ := trodVars_none hV
  obtain ⟨x, hx⟩ := readPair (hval 0 25 v0 rfl rfl) h0
  have hlt := hW'.lt
  simp only [List.append_nil] at hW' hlt
  have hc := law_calls (w := W) mixed F_ok (seamAheads_ok x) (vs := [v0]) ⟨[], [], ⟨rfl, hx⟩, rfl, rfl⟩
  refine hc.mono fun e W' ⟨he, hb⟩ => ?_
  subst he
  refine ⟨_, rfl, post_of_below hW' rfl hb (fun _ _ _ => trodAll_mk1 (shut_bool Try.underlying4 _)) (fun sp hsp => ?_) rfl (ok_one (by kernel_rfl) rfl (okWide_bool_mk Try.underlying4 _))⟩
  exact trodAll_mk1 (WideElems.Trod_stays laidOut (by kernel_rfl) (of_decide_eq_true (by kernel_rfl)) h0 (fun y hy => hb.same (hlt y hy)) hsp)

theorem seamAheads_over : Rows.seamAheadsRow.holds Try.pinned (OpenSpec.ofChange Rows.seamAheadsSpec) :=
  OpenClaim.holds_of_wide 3 Try.f3 rfl rfl rfl rfl rfl rfl rfl ⟨rfl, rfl, rfl, rfl, rfl⟩ rfl rfl rfl rfl rfl (by kernel_rfl) Try.func3 (by kernel_rfl)
    (of_decide_eq_true (by kernel_rfl)) (by unfold Func.isWrapper; first | (rw [if_pos (by decide +kernel)]; kernel_rfl) | (rw [if_neg (by decide +kernel)]; exact ⟨rfl, rfl⟩))
    (fun os started H enc _ => seamAheads_lifted os started H enc)

theorem seamAheads_holds : Rows.SeamAheadsSaid := seamAheads_over
end Go.Proofs.Ytfokmdhmaabegaa
