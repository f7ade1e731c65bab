/-
  PointLayers: any figure in bytes on any ground in bytes.
-/
import Derived.Test.YtkjlmfabhejbnaaV3
import Derived.Test.YtkjlmfabhejbnaaD1
import Derived.Test.YtkjlmfabhejbnaaKnown
set_option linter.all false
namespace Go.Abs
set_option maxRecDepth 10000
set_option maxHeartbeats 8000000

theorem ownD_ok (d : DesN) (hd : d.Ok) : lim F 16 [desV d] = some (.agg [iv (d.hk : Int), .own 1 (natsV d.rows)], []) := by
  have h60 := hd.r60
  have h := own_ok d.a (by simp [DesN.a]; omega)
  rw [DesN.a_av] at h
  change lim F _ [desV d] = _ at h
  rw [h]
  unfold DesN.a natsV
  dsimp only
  rw [List.map_map]; rfl
/-- a row of the mask -/
def maskRow (hk : Nat) (mask : List (Fin 65536)) (i : Nat) : Nat := if mask = [] then 0 else (((mask[i % mask.length]?.map fun r => r.1).getD 0) * 257) &&& (2 ^ hk - 1)
def maskN (f : DesN) (mask : List (Fin 65536)) : DesN := ⟨f.hk, (List.range f.rows.length).map (maskRow f.hk mask)⟩
theorem maskRow_lt (hk : Nat) (mask : List (Fin 65536)) (i : Nat) : maskRow hk mask i < 2 ^ hk := by
  have hp : 0 < 2 ^ hk := Nat.pow_pos (by omega)
  unfold maskRow
  split
  · exact hp
  · have h := Nat.and_le_right (n := ((mask[i % mask.length]?.map fun r => r.1).getD 0) * 257) (m := 2 ^ hk - 1)
    omega
theorem mask_ok {f : DesN} (hf : f.Ok) (mask : List (Fin 65536)) : (maskN f mask).Ok where
  h1 := hf.h1
  h24 := hf.h24
  r1 := by simp [maskN]; exact hf.r1
  r60 := by simp [maskN]; exact hf.r60
  lt := fun r hr => by
    obtain ⟨q, _, rfl⟩ := List.mem_map.1 hr
    exact maskRow_lt _ _ _
theorem av_nats' (d : DesN) : d.av = .agg [iv (d.hk : Int), .list 1 (natsV d.rows)] := rfl
theorem out_nats' (d : DesN) : d.out = .agg [iv (d.hk : Int), .own 1 (natsV d.rows)] := rfl
theorem pointLayers_ok (x y : PaperB) (mask : List (Fin 65536)) : lim F 9 [x.av, y.av, .list 1 (mask.map fun r => .int .u16 (r.1 : Int))] = some (.bool true, []) := by
  have kn := known_ok
  have d1 := design_ok x 24 (by omega) (by omega)
  have d2 := design_ok y 24 (by omega) (by omega)
  rw [show ((24 : Nat) : Int) = 24 from rfl] at d1 d2
  have hg := paper_ok x (m := 24) (by omega) (by omega)
  have hf := paper_ok y (m := 24) (by omega) (by omega)
  change lim F _ _ = some (AV.agg [_, .own 1 (natsV (paperN x 24).rows)], []) at d1
  change lim F _ _ = some (AV.agg [_, .own 1 (natsV (paperN y 24).rows)], []) at d2
  generalize paperN x 24 = g at *
  generalize paperN y 24 = f at *
  have h24 := hf.h24
  have h60 := hf.r60
  have hr1 := hf.r1
  have hh1 := hf.h1
  have g60 := hg.r60
  have hm := mask_ok hf mask
  have hmk : (maskN f mask).hk = f.hk := rfl
  have hmr : (maskN f mask).rows.length = f.rows.length := by simp [maskN]
  have hl := fun a b c (ha : a.Ok) (hb : b.Ok) (hc : c.Ok) h1 h2 => Lay_ok a b c ha hb hc h1 h2
  have L1 := Lay_ok g f (maskN f mask) hg hf hm hmk.symm hmr.symm
  have L2 := Lay_ok f f (maskN f mask) hf hf hm hmk.symm hmr.symm
  have s2 : layN f f (maskN f mask) = f := by
    unfold layN
    rw [hmk, hmr]
    conv => rhs; rw [← made_self hf]
    refine madeN_congr fun p h _ _ => ?_
    split <;> rfl
  have hlo : (layN g f (maskN f mask)).Ok := madeN_ok (by rw [hmk]; omega) (by rw [hmk]; omega) (by rw [hmr]; omega) (by rw [hmr]; omega)
  have hlk : (layN g f (maskN f mask)).hk = f.hk := rfl
  have hlr : (layN g f (maskN f mask)).rows.length = f.rows.length := by rw [← hmr]; exact made_len _ _ _
  have hla : ∀ p h, p < f.rows.length → h < f.hk → atN (layN g f (maskN f mask)) p h = if atN (maskN f mask) p h then atN f p h else atN g p h := fun p h hp hh => by
    unfold layN
    rw [hmk, hmr, atN_made (by omega) (by omega), Nat.mod_eq_of_lt hp, Nat.mod_eq_of_lt hh]
  have hbo := back_ok hm
  have hbk : (backN (maskN f mask)).hk = f.hk := rfl
  have hbr : (backN (maskN f mask)).rows.length = f.rows.length := by rw [← hmr]; exact made_len _ _ _
  have hba : ∀ p h, p < f.rows.length → h < f.hk → atN (backN (maskN f mask)) p h = !atN (maskN f mask) p h := fun p h hp hh => by
    unfold backN
    rw [hmk, hmr, atN_made (by omega) (by omega), Nat.mod_eq_of_lt hp, Nat.mod_eq_of_lt hh]
  have o1 := ownD_ok g hg
  have o2 := ownD_ok f hf
  have o3 := ownD_ok (maskN f mask) hm
  have B := Back_ok (maskN f mask) hm
  rw [out_nats'] at B
  rw [av_nats'] at B
  generalize layN g f (maskN f mask) = l at *
  generalize backN (maskN f mask) = bk at *
  have L3 := Lay_ok f l bk hf hlo hbo (by rw [hlk, hbk]) (by rw [hlr, hbr])
  have L4 := Lay_ok l f (maskN f mask) hlo hf hm hmk.symm hmr.symm
  have s3 : layN f l bk = l := by
    conv => rhs; rw [← made_self hlo]
    unfold layN
    rw [hlk, hlr, hbk, hbr]
    refine madeN_congr fun p h hp hh => ?_
    rw [hba p h hp hh, hla p h hp hh]
    cases atN (maskN f mask) p h <;> rfl
  have s4 : layN l f (maskN f mask) = l := by
    conv => rhs; rw [← made_self hlo]
    unfold layN
    rw [hlk, hlr, hmk, hmr]
    refine madeN_congr fun p h hp hh => ?_
    rw [hla p h hp hh]
    cases atN (maskN f mask) p h <;> rfl
  rw [s2] at L2
  rw [s3] at L3
  rw [s4] at L4
  have o4 := ownD_ok l hlo
  have R := right_ok l hlo
  have I1 := isN_same f (by omega)
  have I2 := isN_same l (by omega)
  have li1 := fun p h hp hh => lifted_ok g hg p h hp hh
  have li2 := fun p h hp hh => lifted_ok f hf p h hp hh
  have li3 := fun p h hp hh => lifted_ok (maskN f mask) hm p h hp hh
  have li4 := fun p h hp hh => lifted_ok l hlo p h hp hh
  rw [hlr, hlk] at R
  unfold desV at *
  rw [hmk] at L1 L2 L4 o3 B
  rw [hbk] at L3 B
  rw [hlk] at L3 L4 o4 R I2
  have ng : (natsV g.rows).length = g.rows.length := by simp
  have nf : (natsV f.rows).length = f.rows.length := by simp
  have nm : (natsV (maskN f mask).rows).length = f.rows.length := by simp [maskN]
  have nl : (natsV l.rows).length = f.rows.length := by simp [hlr]
  have nb : (natsV bk.rows).length = f.rows.length := by simp [hbr]
  have pg : (natsV g.rows).all AV.plain = true := nat_plain g.rows
  have pf : (natsV f.rows).all AV.plain = true := nat_plain f.rows
  have pm : (natsV (maskN f mask).rows).all AV.plain = true := nat_plain (maskN f mask).rows
  have pl : (natsV l.rows).all AV.plain = true := nat_plain l.rows
  have pb : (natsV bk.rows).all AV.plain = true := nat_plain bk.rows
  have hst : ∀ i, natsV ((List.range (i + 1)).map (maskRow f.hk mask)) = natsV ((List.range i).map (maskRow f.hk mask)) ++ [iv ((maskRow f.hk mask i : Nat) : Int)] := fun i => by
    unfold natsV; rw [List.range_succ, List.map_append, List.map_append]; rfl
  have hfin : natsV ((List.range f.rows.length).map (maskRow f.hk mask)) = natsV (maskN f mask).rows := rfl
  have hMl : ∀ i, (natsV ((List.range i).map (maskRow f.hk mask))).length = i := fun i => by simp
  have eml : (mask.map fun r : Fin 65536 => AV.int .u16 (r.1 : Int)).length = mask.length := by simp
  have hpw : 2 ^ f.hk ≤ 2 ^ 24 := Nat.pow_le_pow_right (by omega) (by omega)
  have hpw0 : 0 < 2 ^ f.hk := Nat.pow_pos (by omega)
  have s1 := w_shl1 f.hk (by omega)
  have u1 : IntKind.wrap .u64 (f.hk : Int) = f.hk := wrap_u64 (by omega) (by omega)
  have hrow : ∀ i, mask ≠ [] → ∃ v : Nat, v < 65536 ∧ (mask.map fun r : Fin 65536 => AV.int .u16 (r.1 : Int))[i % mask.length]? = some (.int .u16 (v : Int)) ∧ maskRow f.hk mask i = (v * 257) &&& (2 ^ f.hk - 1) := fun i hne => by
    have hpos : 0 < mask.length := List.length_pos_iff.2 hne
    have hmod := Nat.mod_lt i hpos
    refine ⟨mask[i % mask.length].1, mask[i % mask.length].2, by rw [List.getElem?_map, List.getElem?_eq_getElem hmod]; rfl, ?_⟩
    unfold maskRow
    rw [if_neg hne, List.getElem?_eq_getElem hmod]; rfl
  have hrow0 : mask = [] → ∀ i, maskRow f.hk mask i = 0 := fun h i => by unfold maskRow; rw [if_pos h]
  generalize natsV bk.rows = rb at *
  generalize natsV l.rows = rl at *
  generalize natsV g.rows = rg at *
  generalize natsV f.rows = rf at *
  generalize hrm : natsV (maskN f mask).rows = rm at *
  have tg : rg.take g.rows.length = rg := List.take_of_length_le (by omega)
  have tf : rf.take f.rows.length = rf := List.take_of_length_le (by omega)
  have tm : rm.take f.rows.length = rm := List.take_of_length_le (by omega)
  have tl : rl.take f.rows.length = rl := List.take_of_length_le (by omega)
  have tb : rb.take f.rows.length = rb := List.take_of_length_le (by omega)
  unfold PaperB.av at *
  generalize hme : mask.map (fun r : Fin 65536 => AV.int .u16 (r.1 : Int)) = me at *
  refine lim_by (fn := a9) (k := 3) (res := [.tmp 6]) rfl rfl rfl (by simp -implicitDefEqProofs (maxSteps := 2000000) (disch := first | exact tt_rfl rfl | omega | (simp only [go_sem] <;> omega) | fail) only [go_sem]) ?_
  simp -implicitDefEqProofs (maxSteps := 2000000) (disch := first | exact tt_rfl rfl | omega | (simp only [go_sem] <;> omega) | fail) only [go_sem]
  repeat (first | apply Wp.seqA | apply Wp.skipS | apply Wp.blockS | ((first | apply Wp.regS | apply Wp.condV | apply Wp.reg | apply Wp.condW | apply fin_ret); simp -implicitDefEqProofs (maxSteps := 2000000) (disch := first | exact tt_rfl rfl | omega | (simp only [go_sem] <;> omega) | fail) only [go_sem, d1, d2, ng, nf, pg, pf] <;> try with_reducible rfl) | apply Wp.block | apply Wp.exitS | apply Wp.retS | apply Wp.exit | apply Wp.ret | apply Wp.skip)
  apply Wp.loopF f.rows.length (fun i => ⟨[(2, .list 1 me), (7, .ptr 448 0 0), (8, .ptr 512 0 0), (9, .ptr 576 0 0), (10, iv (i : Int))], [(448, .box [iv (g.hk : Int), .slice 307169 0 g.rows.length]), (512, .box [iv (f.hk : Int), .slice 308193 0 f.rows.length]), (576, .box [iv (f.hk : Int), .slice 309217 0 i]), (307169, .arr 1 rg), (308193, .arr 1 rf), (309217, .arr 1 (natsV ((List.range i).map (maskRow f.hk mask))))], [], 10000000⟩) (fun _ => True)
  · simp -implicitDefEqProofs (maxSteps := 2000000) (disch := first | exact tt_rfl rfl | omega | (simp only [go_sem] <;> omega) | fail) only [go_sem, norm_eq, Ok.some]
    rfl
  · trivial
  intro i hi _
  by_cases h : i < f.rows.length
  · have hs := hst i
    have hMi := hMl i
    have hlt := maskRow_lt f.hk mask i
    by_cases hne : mask = []
    · have hz := hrow0 hne i
      rw [hz] at hs
      have h0 : mask.length = 0 := by rw [hne]; rfl
      rw [h0] at eml
      generalize natsV ((List.range i).map (maskRow f.hk mask)) = fs at *
      generalize natsV ((List.range (i + 1)).map (maskRow f.hk mask)) = fs' at *
      repeat (first | apply Wp.seqA | apply Wp.skipS | apply Wp.blockS | ((first | apply Wp.regS | apply Wp.condV | apply Wp.reg | apply Wp.condW | apply fin_ret); simp -implicitDefEqProofs (maxSteps := 2000000) (disch := first | exact tt_rfl rfl | omega | (simp only [go_sem] <;> omega) | fail) only [go_sem, h, Int.ofNat_lt, nf, eml, hMi, Int.natCast_zero, Int.lt_irrefl] <;> try with_reducible rfl) | apply Wp.block | apply Wp.exitS | apply Wp.retS | apply Wp.exit | apply Wp.ret | apply Wp.skip)
      apply round_next
      · simp -implicitDefEqProofs (maxSteps := 2000000) (disch := first | exact tt_rfl rfl | omega | (simp only [go_sem] <;> omega) | fail) only [go_sem, norm_eq, Ok.some]; with_reducible rfl
      refine ⟨h, ?_, trivial⟩
      rw [hs]
      simp
    · obtain ⟨v, hv, hgv, hrv⟩ := hrow i hne
      have hpos : 0 < mask.length := List.length_pos_iff.2 hne
      have em : Int.tmod (i : Int) (mask.length : Int) = ((i % mask.length : Nat) : Int) := by rw [Int.tmod_eq_emod_of_nonneg (Int.natCast_nonneg _)]; simp
      have e2 : (v : Int) * 257 = ((v * 257 : Nat) : Int) := by omega
      have e3 : ((2 ^ f.hk : Nat) : Int) - 1 = ((2 ^ f.hk - 1 : Nat) : Int) := by omega
      have w := w_and (v * 257) (2 ^ f.hk - 1) (by omega) (by omega)
      rw [← hrv] at w
      have w' := w
      have s1' := s1
      rw [bits64] at w' s1'
      generalize natsV ((List.range i).map (maskRow f.hk mask)) = fs at *
      generalize natsV ((List.range (i + 1)).map (maskRow f.hk mask)) = fs' at *
      generalize maskRow f.hk mask i = mr at *
      generalize i % mask.length = im at *
      generalize 2 ^ f.hk = pw at *
      generalize v * 257 = v2 at *
      repeat (first | apply Wp.seqA | apply Wp.skipS | apply Wp.blockS | ((first | apply Wp.regS | apply Wp.condV | apply Wp.reg | apply Wp.condW | apply fin_ret); simp -implicitDefEqProofs (maxSteps := 2000000) (disch := first | exact tt_rfl rfl | omega | (simp only [go_sem] <;> omega) | fail) only [go_sem, h, Int.ofNat_lt, nf, eml, hMi, em, hgv, e2, e3, w, s1, w', s1', u1, Int.toNat_natCast, show (mask.length : Int) ≠ 0 by omega, show (0 : Int) < mask.length by omega] <;> try with_reducible rfl) | apply Wp.block | apply Wp.exitS | apply Wp.retS | apply Wp.exit | apply Wp.ret | apply Wp.skip)
      apply round_next
      · simp -implicitDefEqProofs (maxSteps := 2000000) (disch := first | exact tt_rfl rfl | omega | (simp only [go_sem] <;> omega) | fail) only [go_sem, norm_eq, Ok.some]; with_reducible rfl
      refine ⟨h, ?_, trivial⟩
      rw [ofInt_nat, ofInt_nat] at w'
      rw [hs]
      simp
      exact w'
  · obtain rfl : i = f.rows.length := by omega
    rw [hfin]
    repeat (first | apply Wp.seqA | apply Wp.skipS | apply Wp.blockS | ((first | apply Wp.regS | apply Wp.condV | apply Wp.reg | apply Wp.condW | apply fin_ret); simp -implicitDefEqProofs (maxSteps := 2000000) (disch := first | exact tt_rfl rfl | omega | (simp only [go_sem] <;> omega) | fail) only [go_sem, Int.lt_irrefl, o1, o2, o3, L1, R, ng, nf, nm, nl, pg, pf, pm, pl, tg, tf, tm, tl] <;> try with_reducible rfl) | apply Wp.block | apply Wp.exitS | apply Wp.retS | apply Wp.exit | apply Wp.ret | apply Wp.skip)
    apply Wp.loopF f.rows.length (fun p => ⟨[(7, .ptr 448 0 0), (8, .ptr 512 0 0), (9, .ptr 576 0 0), (12, .ptr 768 0 0), (14, iv (p : Int))], [(448, .box [iv (g.hk : Int), .slice 307169 0 g.rows.length]), (512, .box [iv (f.hk : Int), .slice 308193 0 f.rows.length]), (576, .box [iv (f.hk : Int), .slice 309217 0 f.rows.length]), (768, .box [iv (f.hk : Int), .slice 312289 0 f.rows.length]), (307169, .arr 1 rg), (308193, .arr 1 rf), (309217, .arr 1 rm), (312289, .arr 1 rl)], [], 10000000⟩) (fun _ => True)
    · simp -implicitDefEqProofs (maxSteps := 2000000) (disch := first | exact tt_rfl rfl | omega | (simp only [go_sem] <;> omega) | fail) only [go_sem, norm_eq, Ok.some]
      rfl
    · trivial
    intro p hp _
    by_cases h2 : p < f.rows.length
    · repeat (first | apply Wp.seqA | apply Wp.skipS | apply Wp.blockS | ((first | apply Wp.regS | apply Wp.condV | apply Wp.reg | apply Wp.condW | apply fin_ret); simp -implicitDefEqProofs (maxSteps := 2000000) (disch := first | exact tt_rfl rfl | omega | (simp only [go_sem] <;> omega) | fail) only [go_sem, h2, Int.ofNat_lt, nf] <;> try with_reducible rfl) | apply Wp.block | apply Wp.exitS | apply Wp.retS | apply Wp.exit | apply Wp.ret | apply Wp.skip)
      apply Wp.loopF f.hk (fun k => ⟨[(7, .ptr 448 0 0), (8, .ptr 512 0 0), (9, .ptr 576 0 0), (12, .ptr 768 0 0), (14, iv (p : Int)), (15, iv (k : Int))], [(448, .box [iv (g.hk : Int), .slice 307169 0 g.rows.length]), (512, .box [iv (f.hk : Int), .slice 308193 0 f.rows.length]), (576, .box [iv (f.hk : Int), .slice 309217 0 f.rows.length]), (768, .box [iv (f.hk : Int), .slice 312289 0 f.rows.length]), (307169, .arr 1 rg), (308193, .arr 1 rf), (309217, .arr 1 rm), (312289, .arr 1 rl)], [], 10000000⟩) (fun _ => True)
      · simp -implicitDefEqProofs (maxSteps := 2000000) (disch := first | exact tt_rfl rfl | omega | (simp only [go_sem] <;> omega) | fail) only [go_sem, norm_eq, Ok.some]
        rfl
      · trivial
      intro k hk _
      by_cases h3 : k < f.hk
      · have x1 := li1 p k (by omega) (by omega)
        have x2 := li2 p k (by omega) (by omega)
        have x3 := li3 p k (by omega) (by omega)
        have x4 := li4 p k (by omega) (by omega)
        rw [hla p k h2 h3] at x4
        rw [hmk] at x3
        rw [hlk] at x4
        try rw [hrm] at x3
        cases hb : atN (maskN f mask) p k with
        | true =>
          rw [hb] at x3
          rw [hb, if_pos rfl] at x4
          generalize atN f p k = bf at *
          generalize atN g p k = bg at *
          repeat (first | apply Wp.seqA | apply Wp.skipS | apply Wp.blockS | ((first | apply Wp.regS | apply Wp.condV | apply Wp.reg | apply Wp.condW | apply fin_ret); simp -implicitDefEqProofs (maxSteps := 2000000) (disch := first | exact tt_rfl rfl | omega | (simp only [go_sem] <;> omega) | fail) only [go_sem, h2, h3, Int.ofNat_lt, x1, x2, x3, x4, tg, tf, tm, tl, bne_self_eq_false] <;> try with_reducible rfl) | apply Wp.block | apply Wp.exitS | apply Wp.retS | apply Wp.exit | apply Wp.ret | apply Wp.skip)
          apply round_next
          · simp -implicitDefEqProofs (maxSteps := 2000000) (disch := first | exact tt_rfl rfl | omega | (simp only [go_sem] <;> omega) | fail) only [go_sem, norm_eq, Ok.some]; with_reducible rfl
          exact ⟨h3, by simp, trivial⟩
        | false =>
          rw [hb] at x3
          rw [hb, if_neg (by simp)] at x4
          generalize atN f p k = bf at *
          generalize atN g p k = bg at *
          repeat (first | apply Wp.seqA | apply Wp.skipS | apply Wp.blockS | ((first | apply Wp.regS | apply Wp.condV | apply Wp.reg | apply Wp.condW | apply fin_ret); simp -implicitDefEqProofs (maxSteps := 2000000) (disch := first | exact tt_rfl rfl | omega | (simp only [go_sem] <;> omega) | fail) only [go_sem, h2, h3, Int.ofNat_lt, x1, x2, x3, x4, tg, tf, tm, tl, bne_self_eq_false] <;> try with_reducible rfl) | apply Wp.block | apply Wp.exitS | apply Wp.retS | apply Wp.exit | apply Wp.ret | apply Wp.skip)
          apply round_next
          · simp -implicitDefEqProofs (maxSteps := 2000000) (disch := first | exact tt_rfl rfl | omega | (simp only [go_sem] <;> omega) | fail) only [go_sem, norm_eq, Ok.some]; with_reducible rfl
          exact ⟨h3, by simp, trivial⟩
      · repeat (first | apply Wp.seqA | apply Wp.skipS | apply Wp.blockS | ((first | apply Wp.regS | apply Wp.condV | apply Wp.reg | apply Wp.condW | apply fin_ret); simp -implicitDefEqProofs (maxSteps := 2000000) (disch := first | exact tt_rfl rfl | omega | (simp only [go_sem] <;> omega) | fail) only [go_sem, h3, Int.ofNat_lt] <;> try with_reducible rfl) | apply Wp.block | apply Wp.exitS | apply Wp.retS | apply Wp.exit | apply Wp.ret | apply Wp.skip)
        apply round_next
        · simp -implicitDefEqProofs (maxSteps := 2000000) (disch := first | exact tt_rfl rfl | omega | (simp only [go_sem] <;> omega) | fail) only [go_sem, norm_eq, Ok.some]; with_reducible rfl
        exact ⟨h2, by simp, trivial⟩
    · obtain rfl : p = f.rows.length := by omega
      repeat (first | apply Wp.seqA | apply Wp.skipS | apply Wp.blockS | ((first | apply Wp.regS | apply Wp.condV | apply Wp.reg | apply Wp.condW | apply fin_ret); simp -implicitDefEqProofs (maxSteps := 2000000) (disch := first | exact tt_rfl rfl | omega | (simp only [go_sem] <;> omega) | fail) only [go_sem, Int.lt_irrefl, nf, o2, o3, o4, L2, L3, L4, B, I1, I2, ng, nm, nl, nb, pg, pf, pm, pl, pb, tg, tf, tm, tl, tb, kn] <;> try with_reducible rfl) | apply Wp.block | apply Wp.exitS | apply Wp.retS | apply Wp.exit | apply Wp.ret | apply Wp.skip)
end Go.Abs
