/-
 TopDense returns true for every input, and its arguments read afterwards as they did before. No condition.
-/
import Derived.Test.YtlcikiobkmajbaaCL
import Derived.Test.YtlcikiobkmajbaaPCT
set_option linter.all false
namespace Go.Proofs.Ytlcikiobkmajbaa
set_option maxRecDepth 100000
open Go.ChangeShapes Go.WideShapes Go.ChangeAt Go.RowKit Go.Abs
theorem topDense_lifted (os : Os) (started : os.Started) (H : Type) (enc : TypeId × Value → H) :
  ReturnsInHanded {} Try.checked os 6 .any (Rows.topDenseSpec.pre6 enc Try.prog Try.f6 Rows.topDenseRow.domain false) (Rows.topDenseSpec.post enc Try.prog Try.f6 false true false false):=by
 refine returnsInHanded_of_change (C:=Try.checked) own started (by kernel_rfl) Try.func6
  (ChangeSpec.witness6 (enc:=enc) (C:=Try.checked) false ⟨#[],#[.agg #[.int .u8 0,.int .u8 0,.int .u8 0,.int .u8 0],.agg #[.int .u8 0,.int .u8 0,.int .u8 0,.int .u8 0],.int .u16 0],[]⟩ 8 (by kernel_rfl) (by kernel_rfl) (by kernel_rfl) (by kernel_rfl)) ?_
 intro W base args ds gs before hval0 hW _ _;have hval : ∀ (j : Nat) t v,Try.f6.params[j]? = some t → args[j]? = some v → Value.okWide Try.prog W .any base t v:=hval0;have hW':=hW;obtain ⟨p,q,hA0,hV,rfl,hfz,hnd⟩:=hW;have hA : DataW.TrodAll enc Try.prog W 0 (fun _=>true) true Try.f6.params.toList args.toList ds p:=hA0
 rw [Try.params6] at hA hval;obtain ⟨v0,vs0,d0,ds0,p0,q0,hargs,rfl,rfl,h0,r0⟩:=trodAll_cons hA;obtain ⟨v1,vs1,d1,ds1,p1,q1,rfl,rfl,rfl,h1,r1⟩:=trodAll_cons r0;obtain ⟨v2,vs2,d2,ds2,p2,q2,rfl,rfl,rfl,h2,r2⟩:=trodAll_cons r1;obtain ⟨rfl,rfl,rfl⟩:=trodAll_nil r2;obtain rfl : args = #[v0,v1,v2]:=by cases args; simp_all
 obtain ⟨rfl,rfl⟩:=trodVars_none hV;obtain ⟨x0,hx0⟩:=readW4 (hval 0 23 v0 rfl rfl) h0;obtain ⟨x1,hx1⟩:=readW4 (hval 1 23 v1 rfl rfl) h1;obtain ⟨x2,rfl,_,_,w2⟩:=open_int Try.underlying84 (hval 2 84 v2 rfl rfl) h2;have hlt:=hW'.lt;simp only [List.append_nil] at hW' hlt;have hc:=law_calls (Γ:=fun _ _ _ _ _ _ => False) (w:=W) mixed F_ok (topDense_ok x0 x1 x2 (u16_wf w2)) (vs:=[v0,v1,.int .u16 x2]) ⟨[],[],⟨rfl,hx0⟩,⟨[],[],⟨rfl,hx1⟩,⟨[],[],⟨rfl,.int _ _⟩,rfl,rfl⟩,rfl⟩,rfl⟩
 refine hc.mono fun e W' ⟨he,hb⟩ => ?_
 subst he;refine ⟨_,rfl,post_of_below hW' rfl hb (fun _ _ _ => trodAll_mk1 (shut_bool Try.underlying4 _)) (fun sp hsp => ?_) rfl (ok_one (by kernel_rfl) rfl (okWide_bool_mk Try.underlying4 _))⟩
 exact trodAll_mk3 (WideElems.Trod_stays laidOut (by kernel_rfl) (of_decide_eq_true (by kernel_rfl)) h0 (fun y hy => hb.same (hlt y (by simp [hy]))) (fun y hy => hsp y (by simp [hy]))) (WideElems.Trod_stays laidOut (by kernel_rfl) (of_decide_eq_true (by kernel_rfl)) h1 (fun y hy => hb.same (hlt y (by simp [hy]))) (fun y hy => hsp y (by simp [hy]))) (WideElems.Trod_stays laidOut (by kernel_rfl) (of_decide_eq_true (by kernel_rfl)) h2 (fun y hy => hb.same (hlt y (by simp [hy]))) (fun y hy => hsp y (by simp [hy])))
theorem topDense_over : Rows.topDenseRow.holds Try.pinned (OpenSpec.ofChange Rows.topDenseSpec) :=
 OpenClaim.holds_of_wide 6 Try.f6 rfl rfl rfl rfl rfl rfl rfl ⟨rfl,rfl,rfl,rfl,rfl⟩ rfl rfl rfl rfl rfl (by kernel_rfl) Try.func6 (by kernel_rfl)
  (of_decide_eq_true (by kernel_rfl)) (by unfold Func.isWrapper; first | (rw [if_pos (by decide +kernel)]; kernel_rfl) | (rw [if_neg (by decide +kernel)]; exact ⟨rfl,rfl⟩))
  (fun os started H enc _ => topDense_lifted os started H enc)
theorem topDense_holds : Rows.TopDenseSaid:=topDense_over
end Go.Proofs.Ytlcikiobkmajbaa
