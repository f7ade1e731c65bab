/-
 PointLays: what it looks at is so, for all designs. No condition beyond those that each theorem names.
-/
import Derived.Test.YtkjlmfabhejbnaaDoorT4
import Derived.Test.YtkjlmfabhejbnaaDoorT3
import Derived.Test.YtkjlmfabhejbnaaDoorQ1
set_option linter.all false
namespace Go.Abs
set_option maxRecDepth 10000
set_option maxHeartbeats 8000000
theorem getsN (hk : Nat) (l : List Nat) (hl : l.length ≤ 1000000) : lim F 14 [.agg [iv (hk : Int), .list 1 (natsV l)], iv 0, .agg [iv (hk : Int), .list 1 (natsV l)], iv 0] = some (.bool true, []) := by
 have h := gets_same hk (l.map fun n : Nat => (n : Int)) (by simpa using hl)
 rw [List.map_map] at h;exact h
theorem first3_zero {g f m : DesA} (h : firstE [g, f, m] = 0) : checkD g = 0 ∧ firstE [f, m] = 0 := by
 unfold firstE at h;split at h
 ·rename_i h1; exact absurd h h1
 ·rename_i h1
  exact ⟨Classical.not_not.1 h1, h⟩
theorem same_self (d : DesA) (h : d.rows.length ≤ 1000000) : lim F 10 [d.av, d.av] = some (.bool true, []) := by
 have := Same_ok d d h
 rwa [show sameT d d = true by unfold sameT; simp] at this
theorem maR (n : DesN) : n.a.rows.map (fun n => iv n) = natsV n.rows := by
 unfold DesN.a; rw [List.map_map]; rfl
theorem first_le {a b : DesN} (ha : a.Ok) (hb : b.Ok) (h2 : a.rows.length = b.rows.length) : ∀ i, i ≤ b.rows.length → (firstT a b i).1 ≤ 60 ∧ (firstT a b i).2 ≤ 64
 | 0, _ => by unfold firstT; exact ⟨by decide, by decide⟩
 | i + 1, h => by
  have ih := first_le ha hb h2 i (by omega)
  have h60 := hb.r60;unfold firstT;split
  ·rename_i hc
   refine ⟨by show i ≤ 60; omega, ?_⟩
   have := (lowN_is hc.2).lt (xorAt_lt ha hb (show i < a.rows.length by omega) (by omega))
   show lowN _ ≤ 64
   omega
  ·exact ih
theorem lays_main (kn : lim F 6 [] = some (.bool true, [])) (g f m : DesA) : lim F 3 [g.av, f.av, m.av] = some (.bool true, []) := by
 have hLg := large_ok [g, f, m] (by simp)
 change lim F _ [.list 2 [g.av, f.av, m.av]] = _ at hLg;cases hlarge : largeT [g, f, m] with
 | true =>
  rw [hlarge] at hLg;unfold DesA.av at *;generalize g.rows.map (fun n => iv n) = gr at *
  generalize f.rows.map (fun n => iv n) = fr at *
  generalize m.rows.map (fun n => iv n) = mr at *
  refine lim_by (fn := a3) (k := 3) (res := [.tmp 6]) rfl rfl rfl (by simp -implicitDefEqProofs (maxSteps := 2000000) (disch := first | exact tt_rfl rfl | omega | (simp only [go_sem] <;> omega) | fail) only [go_sem]) ?_
  try delta mvA
  try delta opA
  try delta tA
  simp -implicitDefEqProofs (maxSteps := 2000000) (disch := first | exact tt_rfl rfl | omega | (simp only [go_sem] <;> omega) | fail) only [go_sem]
  repeat (first | apply Wp.seqA | apply Wp.skipS | apply Wp.blockS | ((first | apply Wp.regS | apply Wp.condV | apply Wp.reg | apply Wp.condW | apply fin_ret); simp -implicitDefEqProofs (maxSteps := 2000000) (disch := first | exact tt_rfl rfl | omega | (simp only [go_sem] <;> omega) | fail) only [go_sem, hLg, kn] <;> try with_reducible rfl) | apply Wp.block | apply Wp.exitS | apply Wp.retS | apply Wp.exit | apply Wp.ret | apply Wp.skip)
 | false =>
  rw [hlarge] at hLg;have hlens : g.rows.length ≤ 70 ∧ f.rows.length ≤ 70 ∧ m.rows.length ≤ 70 := by
   unfold largeT at hlarge;simp at hlarge;omega
  obtain ⟨lg, lf, lm⟩ := hlens;have o1 := own_ok g (by omega)
  have o2 := own_ok f (by omega)
  have o3 := own_ok m (by omega)
  have s1 := same_self g (by omega)
  have s2 := same_self f (by omega)
  have s3 := same_self m (by omega)
  have hF3 := first_ok [g, f, m] (by simp) (fun d hd => by simp at hd; rcases hd with rfl | rfl | rfl <;> omega)
  have hF2 := first_ok [f, m] (by simp) (fun d hd => by simp at hd; rcases hd with rfl | rfl <;> omega)
  change lim F _ [.list 2 [g.av, f.av, m.av]] = _ at hF3;change lim F _ [.list 2 [f.av, m.av]] = _ at hF2;have hLk := Like_ok f m;have hLb := Lay_bad g f m (by omega) (by omega) (by omega)
  have hDb := Differ_bad f m (by omega) (by omega)
  have ng : (g.rows.map fun n => iv n).length = g.rows.length := by simp
  have nf : (f.rows.map fun n => iv n).length = f.rows.length := by simp
  have nm : (m.rows.map fun n => iv n).length = m.rows.length := by simp
  have pg : (g.rows.map fun n => iv n).all AV.plain = true := int_plain _
  have pf : (f.rows.map fun n => iv n).all AV.plain = true := int_plain _
  have pm : (m.rows.map fun n => iv n).all AV.plain = true := int_plain _
  have tg : (g.rows.map fun n => iv n).take g.rows.length = g.rows.map fun n => iv n := List.take_of_length_le (by simp)
  have tf : (f.rows.map fun n => iv n).take f.rows.length = f.rows.map fun n => iv n := List.take_of_length_le (by simp)
  have tm : (m.rows.map fun n => iv n).take m.rows.length = m.rows.map fun n => iv n := List.take_of_length_le (by simp)
  by_cases h2 : firstE [f, m] = 0
  ·by_cases hl : likeT f m = true
   ·obtain ⟨cf, cm⟩ := first2_zero h2
    obtain ⟨F1, okF, rfl⟩ := checkD_zero cf;obtain ⟨M1, okM, rfl⟩ := checkD_zero cm;have hlk : F1.hk = M1.hk ∧ F1.rows.length = M1.rows.length := by
     unfold likeT DesN.a at hl;simp at hl;omega
    obtain ⟨k1, k2⟩ := hlk;have h60 := okM.r60;have h24 := okM.h24;have hm1 := okM.r1;have hmh := okM.h1;rw [hl] at hLk;rw [h2] at hF2;have hDf := Differ_ok F1 M1 okF okM k1 k2;rw [k2] at hDf;have tbF := Table_ok F1 okF;have tbM := Table_ok M1 okM;rw [tabN_F] at tbF tbM;rw [k1, k2] at tbF;have hav : ∀ d : DesN, d.a.av = desV d := DesN.a_av;change lim F _ [desV F1] = _ at tbF;change lim F _ [desV M1] = _ at tbM;rw [hav] at o2 o3 s2 s3;rw [hav, hav] at hLg hF3 hF2 hLk hLb;have lTF : (tabW (tabF (ptB F1) M1.rows.length M1.hk)).length = M1.rows.length := by simp
    have lTM : (tabW (tabF (ptB M1) M1.rows.length M1.hk)).length = M1.rows.length := by simp
    have hmany := manyT_le F1 M1 M1.rows.length;have hpick : ∀ i, i ≤ M1.rows.length → (firstT F1 M1 i).1 ≤ 60 ∧ (firstT F1 M1 i).2 ≤ 64 := fun i => first_le okF okM k2 i
    rw [maR] at o2 o3;have nf : (natsV F1.rows).length = M1.rows.length := by simp [k2]
    have nm : (natsV M1.rows).length = M1.rows.length := by simp
    have pf : (natsV F1.rows).all AV.plain = true := nat_plain F1.rows;have pm : (natsV M1.rows).all AV.plain = true := nat_plain M1.rows;have tf : (natsV F1.rows).take M1.rows.length = natsV F1.rows := List.take_of_length_le (by omega)
    have tm : (natsV M1.rows).take M1.rows.length = natsV M1.rows := List.take_of_length_le (by omega)
    change lim F _ _ = some (.agg [iv (F1.hk : Int), .own 1 (natsV F1.rows)], []) at o2;change lim F _ _ = some (.agg [iv (M1.hk : Int), .own 1 (natsV M1.rows)], []) at o3;show lim F _ [_, F1.a.av, M1.a.av] = _
    rw [hav, hav];clear hDb;by_cases h3 : firstE [g, F1.a, M1.a] = 0
    case' pos =>
     obtain ⟨G1, okG, rfl⟩ := checkD_zero (first3_zero h3).1;rw [h3] at hF3;have hLy := Lay_ok G1 F1 M1 okG okF okM k1 k2;have hRf := refLay_ok G1 F1 M1 okG okF okM k1 k2;rw [hav] at o1 s1 hLg hF3 ⊢;rw [maR] at o1;change lim F _ _ = some (.agg [iv (G1.hk : Int), .own 1 (natsV G1.rows)], []) at o1;have hGt := getsN M1.hk (layN G1 F1 M1).rows (by simp [layN, madeN]; omega)
     have ng : (natsV G1.rows).length = G1.rows.length := by simp
     have pg : (natsV G1.rows).all AV.plain = true := nat_plain G1.rows;have tg : (natsV G1.rows).take G1.rows.length = natsV G1.rows := List.take_of_length_le (by omega)
     have nL : (natsV (layN G1 F1 M1).rows).length = M1.rows.length := by simp [layN, madeN]
     have pL : (natsV (layN G1 F1 M1).rows).all AV.plain = true := nat_plain _;have tL : (natsV (layN G1 F1 M1).rows).take M1.rows.length = natsV (layN G1 F1 M1).rows := List.take_of_length_le (by omega)
     generalize natsV (layN G1 F1 M1).rows = LR at *;unfold desV at *;generalize natsV F1.rows = fr at *;generalize natsV M1.rows = mr at *;generalize natsV G1.rows = gr at *;refine lim_by (fn := a3) (k := 3) (res := [.tmp 6]) rfl rfl rfl (by simp -implicitDefEqProofs (maxSteps := 2000000) (disch := first | exact tt_rfl rfl | omega | (simp only [go_sem] <;> omega) | fail) only [go_sem]) ?_
     try delta mvA
     try delta opA
     try delta tA
     simp -implicitDefEqProofs (maxSteps := 2000000) (disch := first | exact tt_rfl rfl | omega | (simp only [go_sem] <;> omega) | fail) only [go_sem]
     repeat (first | apply Wp.seqA | apply Wp.skipS | apply Wp.blockS | ((first | apply Wp.regS | apply Wp.condV | apply Wp.reg | apply Wp.condW | apply fin_ret); simp -implicitDefEqProofs (maxSteps := 2000000) (disch := first | exact tt_rfl rfl | omega | (simp only [go_sem] <;> omega) | fail) only [go_sem, hLg, o1, o2, o3, s1, s2, s3, hF3, hF2, hLk, hLy, hDf, hRf, hGt, tbF, tbM, ng, nf, nm, nL, pg, pf, pm, pL, tg, tf, tm, tL, lTF, lTM, bne_self_eq_false, ite_self, decide_true, decide_false] <;> try with_reducible rfl) | apply Wp.block | apply Wp.exitS | apply Wp.retS | apply Wp.exit | apply Wp.ret | apply Wp.skip)
    case' neg =>
     have hle : layE g F1.a M1.a = firstE [g, F1.a, M1.a] := by unfold layE; rw [if_pos h3]
     rw [hle] at hLb;have hLb := hLb h3;have hG := gets_due (firstE [g, F1.a, M1.a]) h3 0 [];generalize firstE [g, F1.a, M1.a] = e3 at *;unfold DesA.av at *;unfold desV at *;generalize natsV F1.rows = fr at *;generalize natsV M1.rows = mr at *;generalize g.rows.map (fun n => iv n) = gr at *
     refine lim_by (fn := a3) (k := 3) (res := [.tmp 6]) rfl rfl rfl (by simp -implicitDefEqProofs (maxSteps := 2000000) (disch := first | exact tt_rfl rfl | omega | (simp only [go_sem] <;> omega) | fail) only [go_sem]) ?_
     try delta mvA
     try delta opA
     try delta tA
     simp -implicitDefEqProofs (maxSteps := 2000000) (disch := first | exact tt_rfl rfl | omega | (simp only [go_sem] <;> omega) | fail) only [go_sem]
     repeat (first | apply Wp.seqA | apply Wp.skipS | apply Wp.blockS | ((first | apply Wp.regS | apply Wp.condV | apply Wp.reg | apply Wp.condW | apply fin_ret); simp -implicitDefEqProofs (maxSteps := 2000000) (disch := first | exact tt_rfl rfl | omega | (simp only [go_sem] <;> omega) | fail) only [go_sem, hLg, o1, o2, o3, s1, s2, s3, hF3, hF2, hLk, hLb, h3, hDf, hG, tbF, tbM, lTF, lTM, ng, nf, nm, pg, pf, pm, tg, tf, tm, bne_self_eq_false, ite_self, decide_true, decide_false] <;> try with_reducible rfl) | apply Wp.block | apply Wp.exitS | apply Wp.retS | apply Wp.exit | apply Wp.ret | apply Wp.skip)
    all_goals
     apply Wp.loopF M1.rows.length (fun i => ⟨[(12, iv (manyT F1 M1 M1.rows.length : Nat)), (13, iv ((firstT F1 M1 M1.rows.length).1 : Nat)), (14, iv ((firstT F1 M1 M1.rows.length).2 : Nat)), (15, iv 0), (19, .tabS 1216 M1.rows.length), (20, .tabS 1280 M1.rows.length), (21, iv (manyT F1 M1 i : Nat)), (22, iv ((firstT F1 M1 i).1 : Nat)), (23, iv ((firstT F1 M1 i).2 : Nat)), (24, iv (i : Int))], [(1216, .tab 1 (tabW (tabF (ptB F1) M1.rows.length M1.hk))), (1280, .tab 1 (tabW (tabF (ptB M1) M1.rows.length M1.hk)))], [], 10000000⟩) (fun _ => True)
     ·simp -implicitDefEqProofs (maxSteps := 2000000) (disch := first | exact tt_rfl rfl | omega | (simp only [go_sem] <;> omega) | fail) only [go_sem, norm_eq, Ok.some]
      rw [show firstT F1 M1 0 = (0, 0) from rfl, show manyT F1 M1 0 = 0 from rfl]
      rfl
     ·trivial
     intro i hi _;have f1 := hpick i hi;have mi := manyT_le F1 M1 i;by_cases hin : i < M1.rows.length
     ·have u1 := tabW_at (F := ptB F1) (k := M1.hk) hin
      have u2 := tabW_cell (F := ptB F1) (k := M1.hk) hin;have u3 := bV_len (ptB F1 i) M1.hk;have v1 := tabW_at (F := ptB M1) (k := M1.hk) hin;have v2 := tabW_cell (F := ptB M1) (k := M1.hk) hin;have v3 := bV_len (ptB M1 i) M1.hk;have hz := pickT_zero F1 M1 i;have hxl : xorAt F1 M1 i < 2 ^ M1.hk := by
       have a1 := okF.lt _ (List.getElem_mem (show i < F1.rows.length by omega))
       have a2 := okM.lt _ (List.getElem_mem hin);unfold xorAt;rw [rows_get (show i < F1.rows.length by omega), rows_get hin]
       rw [k1] at a1;exact Nat.xor_lt_two_pow a1 a2
      have hend := pickT_end (i := i) h24 hxl;repeat (first | apply Wp.seqA | apply Wp.skipS | apply Wp.blockS | ((first | apply Wp.regS | apply Wp.condV | apply Wp.reg | apply Wp.condW | apply fin_ret); simp -implicitDefEqProofs (maxSteps := 2000000) (disch := first | exact tt_rfl rfl | omega | (simp only [go_sem] <;> omega) | fail) only [go_sem, hin, Int.ofNat_lt, lTF] <;> try with_reducible rfl) | apply Wp.block | apply Wp.exitS | apply Wp.retS | apply Wp.exit | apply Wp.ret | apply Wp.skip)
      apply Wp.loopF M1.hk (fun k => ⟨[(12, iv (manyT F1 M1 M1.rows.length : Nat)), (13, iv ((firstT F1 M1 M1.rows.length).1 : Nat)), (14, iv ((firstT F1 M1 M1.rows.length).2 : Nat)), (15, iv 0), (19, .tabS 1216 M1.rows.length), (20, .tabS 1280 M1.rows.length), (21, iv ((manyT F1 M1 i + bitsN (xorAt F1 M1 i) k : Nat) : Int)), (22, iv ((pickT F1 M1 i k).1 : Nat)), (23, iv ((pickT F1 M1 i k).2 : Nat)), (24, iv (i : Int)), (25, iv (k : Int))], [(1216, .tab 1 (tabW (tabF (ptB F1) M1.rows.length M1.hk))), (1280, .tab 1 (tabW (tabF (ptB M1) M1.rows.length M1.hk)))], [], 10000000⟩) (fun _ => True)
      ·simp -implicitDefEqProofs (maxSteps := 2000000) (disch := first | exact tt_rfl rfl | omega | (simp only [go_sem] <;> omega) | fail) only [go_sem, norm_eq, Ok.some]
       rw [hz, show bitsN (xorAt F1 M1 i) 0 = 0 by simp [bitsN]]
       rfl
      ·trivial
      intro k hk _;have bl := bitsN_le (xorAt F1 M1 i) k;by_cases hkk : k < M1.hk
      ·have u4 := bV_at (f := ptB F1 i) hkk
       have v4 := bV_at (f := ptB M1 i) hkk;have hx := xor_bit F1 M1 i k;change _ = (ptB F1 i k ^^ ptB M1 i k) at hx;by_cases he : ptB F1 i k = ptB M1 i k
       ·have hb : (xorAt F1 M1 i).testBit k = false := by rw [hx, he]; simp
        obtain ⟨q1, q2⟩ := pickT_same hb;rw [q1, q2];rw [he] at u4;generalize pickT F1 M1 i k = P at *;repeat (first | apply Wp.seqA | apply Wp.skipS | apply Wp.blockS | ((first | apply Wp.regS | apply Wp.condV | apply Wp.reg | apply Wp.condW | apply fin_ret); simp -implicitDefEqProofs (maxSteps := 2000000) (disch := first | exact tt_rfl rfl | omega | (simp only [go_sem] <;> omega) | fail) only [go_sem, hin, hkk, Int.ofNat_lt, lTF, lTM, u1, u2, u3, u4, v1, v2, v3, v4, Nat.mul_one, Nat.add_zero, bne_self_eq_false, beq_self_eq_true, decide_true] <;> try with_reducible rfl) | apply Wp.block | apply Wp.exitS | apply Wp.retS | apply Wp.exit | apply Wp.ret | apply Wp.skip)
        apply round_next
        ·simp -implicitDefEqProofs (maxSteps := 2000000) (disch := first | exact tt_rfl rfl | omega | (simp only [go_sem] <;> omega) | fail) only [go_sem, norm_eq, Ok.some]; with_reducible rfl
        exact ⟨hkk, by simp, trivial⟩
       ·have hb : (xorAt F1 M1 i).testBit k = true := by
         rw [hx];cases h1 : ptB F1 i k <;> cases h2 : ptB M1 i k <;> simp_all
        have hs := bits_step (xorAt F1 M1 i) k;rw [hb, if_pos rfl] at hs;have hne : (ptB F1 i k == ptB M1 i k) = false := by simpa using he
        by_cases h0 : manyT F1 M1 i + bitsN (xorAt F1 M1 i) k = 0
        ·rw [pickT_new hb h0, hs]
         generalize ptB F1 i k = x1 at *;generalize ptB M1 i k = x2 at *;repeat (first | apply Wp.seqA | apply Wp.skipS | apply Wp.blockS | ((first | apply Wp.regS | apply Wp.condV | apply Wp.reg | apply Wp.condW | apply fin_ret); simp -implicitDefEqProofs (maxSteps := 2000000) (disch := first | exact tt_rfl rfl | omega | (simp only [go_sem] <;> omega) | fail) only [go_sem, hin, hkk, Int.ofNat_lt, lTF, lTM, u1, u2, u3, u4, v1, v2, v3, v4, he, hne, h0, Nat.mul_one, Nat.add_zero, decide_false, Int.natCast_zero] <;> try with_reducible rfl) | apply Wp.block | apply Wp.exitS | apply Wp.retS | apply Wp.exit | apply Wp.ret | apply Wp.skip)
         apply round_next
         ·simp -implicitDefEqProofs (maxSteps := 2000000) (disch := first | exact tt_rfl rfl | omega | (simp only [go_sem] <;> omega) | fail) only [go_sem, norm_eq, Ok.some]; with_reducible rfl
         exact ⟨hkk, by rw [show manyT F1 M1 i + (bitsN (xorAt F1 M1 i) k + 1) = 1 by omega]; simp, trivial⟩
        ·rw [pickT_old hb h0, hs]
         generalize ptB F1 i k = x1 at *;generalize ptB M1 i k = x2 at *;repeat (first | apply Wp.seqA | apply Wp.skipS | apply Wp.blockS | ((first | apply Wp.regS | apply Wp.condV | apply Wp.reg | apply Wp.condW | apply fin_ret); simp -implicitDefEqProofs (maxSteps := 2000000) (disch := first | exact tt_rfl rfl | omega | (simp only [go_sem] <;> omega) | fail) only [go_sem, hin, hkk, Int.ofNat_lt, lTF, lTM, u1, u2, u3, u4, v1, v2, v3, v4, he, hne, h0, Int.natCast_eq_zero, Nat.mul_one, Nat.add_zero, decide_false] <;> try with_reducible rfl) | apply Wp.block | apply Wp.exitS | apply Wp.retS | apply Wp.exit | apply Wp.ret | apply Wp.skip)
         apply round_next
         ·simp -implicitDefEqProofs (maxSteps := 2000000) (disch := first | exact tt_rfl rfl | omega | (simp only [go_sem] <;> omega) | fail) only [go_sem, norm_eq, Ok.some]; with_reducible rfl
         exact ⟨hkk, by simp; omega, trivial⟩
      ·obtain rfl : k = M1.hk := by omega
       obtain ⟨q1, q2⟩ := hend;rw [q1, q2];repeat (first | apply Wp.seqA | apply Wp.skipS | apply Wp.blockS | ((first | apply Wp.regS | apply Wp.condV | apply Wp.reg | apply Wp.condW | apply fin_ret); simp -implicitDefEqProofs (maxSteps := 2000000) (disch := first | exact tt_rfl rfl | omega | (simp only [go_sem] <;> omega) | fail) only [go_sem, hin, Int.ofNat_lt, Int.lt_irrefl, lTF, lTM, u1, u2, u3, Nat.mul_one, Nat.add_zero] <;> try with_reducible rfl) | apply Wp.block | apply Wp.exitS | apply Wp.retS | apply Wp.exit | apply Wp.ret | apply Wp.skip)
       apply round_next
       ·simp -implicitDefEqProofs (maxSteps := 2000000) (disch := first | exact tt_rfl rfl | omega | (simp only [go_sem] <;> omega) | fail) only [go_sem, norm_eq, Ok.some]; with_reducible rfl
       exact ⟨hin, by simp, trivial⟩
     ·obtain rfl : i = M1.rows.length := by omega
      repeat (first | apply Wp.seqA | apply Wp.skipS | apply Wp.blockS | ((first | apply Wp.regS | apply Wp.condV | apply Wp.reg | apply Wp.condW | apply fin_ret); simp -implicitDefEqProofs (maxSteps := 2000000) (disch := first | exact tt_rfl rfl | omega | (simp only [go_sem] <;> omega) | fail) only [go_sem, Int.lt_irrefl, lTF, kn, beq_self_eq_true, decide_true] <;> try with_reducible rfl) | apply Wp.block | apply Wp.exitS | apply Wp.retS | apply Wp.exit | apply Wp.ret | apply Wp.skip)
   ·have hl' : likeT f m = false := by simpa using hl
    rw [hl'] at hLk;have hd : difE f m = 4 := by unfold difE; rw [if_neg (by simp [h2]), hl']; rfl
    rw [hd] at hDb;have hDb := hDb (by decide)
    rw [h2] at hF2;by_cases h3 : firstE [g, f, m] = 0
    ·have hle : layE g f m = 4 := by unfold layE; rw [if_neg (by simp [h3]), hl']; rfl
     rw [hle] at hLb;have hLb := hLb (by decide)
     have hG := gets_due 4 (by decide) 0 []
     rw [h3] at hF3;unfold DesA.av at *;generalize g.rows.map (fun n => iv n) = gr at *
     generalize f.rows.map (fun n => iv n) = fr at *
     generalize m.rows.map (fun n => iv n) = mr at *
     refine lim_by (fn := a3) (k := 3) (res := [.tmp 6]) rfl rfl rfl (by simp -implicitDefEqProofs (maxSteps := 2000000) (disch := first | exact tt_rfl rfl | omega | (simp only [go_sem] <;> omega) | fail) only [go_sem]) ?_
     try delta mvA
     try delta opA
     try delta tA
     simp -implicitDefEqProofs (maxSteps := 2000000) (disch := first | exact tt_rfl rfl | omega | (simp only [go_sem] <;> omega) | fail) only [go_sem]
     repeat (first | apply Wp.seqA | apply Wp.skipS | apply Wp.blockS | ((first | apply Wp.regS | apply Wp.condV | apply Wp.reg | apply Wp.condW | apply fin_ret); simp -implicitDefEqProofs (maxSteps := 2000000) (disch := first | exact tt_rfl rfl | omega | (simp only [go_sem] <;> omega) | fail) only [go_sem, hLg, o1, o2, o3, s1, s2, s3, hF3, hF2, hLk, hLb, hDb, hG, ng, nf, nm, pg, pf, pm, tg, tf, tm, kn, bne_self_eq_false, ite_self, decide_true, decide_false] <;> try with_reducible rfl) | apply Wp.block | apply Wp.exitS | apply Wp.retS | apply Wp.exit | apply Wp.ret | apply Wp.skip)
    ·have hle : layE g f m = firstE [g, f, m] := by unfold layE; rw [if_pos h3]
     rw [hle] at hLb;have hLb := hLb h3;have hG := gets_due (firstE [g, f, m]) h3 0 [];generalize firstE [g, f, m] = e3 at *;unfold DesA.av at *;generalize g.rows.map (fun n => iv n) = gr at *
     generalize f.rows.map (fun n => iv n) = fr at *
     generalize m.rows.map (fun n => iv n) = mr at *
     refine lim_by (fn := a3) (k := 3) (res := [.tmp 6]) rfl rfl rfl (by simp -implicitDefEqProofs (maxSteps := 2000000) (disch := first | exact tt_rfl rfl | omega | (simp only [go_sem] <;> omega) | fail) only [go_sem]) ?_
     try delta mvA
     try delta opA
     try delta tA
     simp -implicitDefEqProofs (maxSteps := 2000000) (disch := first | exact tt_rfl rfl | omega | (simp only [go_sem] <;> omega) | fail) only [go_sem]
     repeat (first | apply Wp.seqA | apply Wp.skipS | apply Wp.blockS | ((first | apply Wp.regS | apply Wp.condV | apply Wp.reg | apply Wp.condW | apply fin_ret); simp -implicitDefEqProofs (maxSteps := 2000000) (disch := first | exact tt_rfl rfl | omega | (simp only [go_sem] <;> omega) | fail) only [go_sem, hLg, o1, o2, o3, s1, s2, s3, hF3, hF2, h3, hLk, hLb, hDb, hG, ng, nf, nm, pg, pf, pm, tg, tf, tm, kn, bne_self_eq_false, ite_self, decide_true, decide_false] <;> try with_reducible rfl) | apply Wp.block | apply Wp.exitS | apply Wp.retS | apply Wp.exit | apply Wp.ret | apply Wp.skip)
  ·have h3 : firstE [g, f, m] ≠ 0 := fun e => h2 (first3_zero e).2
   have hd : difE f m = firstE [f, m] := by unfold difE; rw [if_pos h2]
   have hle : layE g f m = firstE [g, f, m] := by unfold layE; rw [if_pos h3]
   rw [hd] at hDb;have hDb := hDb h2;rw [hle] at hLb;have hLb := hLb h3;have hG := gets_due (firstE [g, f, m]) h3 0 [];generalize firstE [g, f, m] = e3 at *;generalize firstE [f, m] = e2 at *;unfold DesA.av at *;generalize g.rows.map (fun n => iv n) = gr at *
   generalize f.rows.map (fun n => iv n) = fr at *
   generalize m.rows.map (fun n => iv n) = mr at *
   refine lim_by (fn := a3) (k := 3) (res := [.tmp 6]) rfl rfl rfl (by simp -implicitDefEqProofs (maxSteps := 2000000) (disch := first | exact tt_rfl rfl | omega | (simp only [go_sem] <;> omega) | fail) only [go_sem]) ?_
   try delta mvA
   try delta opA
   try delta tA
   simp -implicitDefEqProofs (maxSteps := 2000000) (disch := first | exact tt_rfl rfl | omega | (simp only [go_sem] <;> omega) | fail) only [go_sem]
   repeat (first | apply Wp.seqA | apply Wp.skipS | apply Wp.blockS | ((first | apply Wp.regS | apply Wp.condV | apply Wp.reg | apply Wp.condW | apply fin_ret); simp -implicitDefEqProofs (maxSteps := 2000000) (disch := first | exact tt_rfl rfl | omega | (simp only [go_sem] <;> omega) | fail) only [go_sem, hLg, o1, o2, o3, s1, s2, s3, hF3, hF2, h3, h2, hLk, hLb, hDb, hG, ng, nf, nm, pg, pf, pm, tg, tf, tm, kn, bne_self_eq_false, ite_self, decide_true, decide_false] <;> try with_reducible rfl) | apply Wp.block | apply Wp.exitS | apply Wp.retS | apply Wp.exit | apply Wp.ret | apply Wp.skip)
end Go.Abs
