/-
  Chapter 1: longest floats and windows, as the document tells them. No condition beyond those that each theorem names.
-/
import Derived.Test.YtkjlmfabhejbnaaR2
set_option linter.all false
namespace Go.Abs
set_option maxRecDepth 10000
set_option maxHeartbeats 4000000

theorem Alike_same (l : List FloatT) (hl : l.length ≤ 10000000) : lim F 23 [.list 4 (l.map FloatT.av), .list 4 (l.map FloatT.av)] = some (.bool true, []) := by
  have hln : (l.map FloatT.av).length = l.length := by simp
  have hg : ∀ i (h : i < l.length), (l.map FloatT.av)[i]? = some (.agg [iv l[i].pick, iv l[i].hook, iv l[i].len, .bool l[i].up]) := fun i h => by
    rw [List.getElem?_map, List.getElem?_eq_getElem h]; rfl
  generalize l.map FloatT.av = es at *
  refine lim_by (fn := a23) (k := 2) (res := [.tmp 4]) rfl rfl rfl (by simp -implicitDefEqProofs (maxSteps := 2000000) (disch := first | exact tt_rfl rfl | omega | (simp only [go_sem] <;> omega) | fail) only [go_sem]) ?_
  simp -implicitDefEqProofs (maxSteps := 2000000) (disch := first | exact tt_rfl rfl | omega | (simp only [go_sem] <;> omega) | fail) only [go_sem]
  repeat (first | apply Wp.seqA | apply Wp.skipS | apply Wp.blockS | ((first | apply Wp.regS | apply Wp.condV | apply Wp.reg | apply Wp.condW | apply fin_ret); simp -implicitDefEqProofs (maxSteps := 2000000) (disch := first | exact tt_rfl rfl | omega | (simp only [go_sem] <;> omega) | fail) only [go_sem] <;> try with_reducible rfl) | apply Wp.block | apply Wp.exitS | apply Wp.retS | apply Wp.exit | apply Wp.ret | apply Wp.skip)
  apply Wp.loopF l.length (fun i => ⟨[(0, .list 4 es), (1, .list 4 es), (5, iv (i : Int))], [], [], 10000000⟩) (fun _ => True)
  · simp -implicitDefEqProofs (maxSteps := 2000000) (disch := first | exact tt_rfl rfl | omega | (simp only [go_sem] <;> omega) | fail) only [go_sem, norm_eq, Ok.some]
    rfl
  · trivial
  intro i hi _
  by_cases h : i < l.length
  · have hgi := hg i h
    repeat (first | apply Wp.seqA | apply Wp.skipS | apply Wp.blockS | ((first | apply Wp.regS | apply Wp.condV | apply Wp.reg | apply Wp.condW | apply fin_ret); simp -implicitDefEqProofs (maxSteps := 2000000) (disch := first | exact tt_rfl rfl | omega | (simp only [go_sem] <;> omega) | fail) only [go_sem, h, hln, Int.ofNat_lt, hgi, bne_self_eq_false] <;> try with_reducible rfl) | apply Wp.block | apply Wp.exitS | apply Wp.retS | apply Wp.exit | apply Wp.ret | apply Wp.skip)
    apply round_next
    · simp -implicitDefEqProofs (maxSteps := 2000000) (disch := first | exact tt_rfl rfl | omega | (simp only [go_sem] <;> omega) | fail) only [go_sem, norm_eq, Ok.some]; with_reducible rfl
    exact ⟨h, by simp, trivial⟩
  · repeat (first | apply Wp.seqA | apply Wp.skipS | apply Wp.blockS | ((first | apply Wp.regS | apply Wp.condV | apply Wp.reg | apply Wp.condW | apply fin_ret); simp -implicitDefEqProofs (maxSteps := 2000000) (disch := first | exact tt_rfl rfl | omega | (simp only [go_sem] <;> omega) | fail) only [go_sem, h, hln, Int.ofNat_lt] <;> try with_reducible rfl) | apply Wp.block | apply Wp.exitS | apply Wp.retS | apply Wp.exit | apply Wp.ret | apply Wp.skip)
theorem wins_filter {N H b : Nat} {l : List FloatT} (hl : ∀ f ∈ l, FIn N H f) : (l.filter fun f => decide ((b : Int) < f.len)).flatMap (winT H b) = l.flatMap (winT H b) := by
  induction l with
  | nil => rfl
  | cons f l ih =>
    have ih := ih fun g hg => hl g (by simp [hg])
    rw [List.filter_cons, List.flatMap_cons]
    by_cases h : (b : Int) < f.len
    · rw [decide_eq_true h, if_pos rfl, List.flatMap_cons, ih]
    · rw [decide_eq_false h, if_neg (by simp), ih]
      have hf := (hl f (by simp)).l
      have : winN H b f = 0 := by
        unfold winN
        apply Nat.div_eq_of_lt
        omega
      unfold winT winTo
      rw [this]; rfl
theorem refLongest_weft (d : DesN) (hd : d.Ok) (lf : Bool) : lim F 25 [d.av, .bool false, .bool lf] = some (iv (mxF lf (weftF d)), []) := by
  have hF := refFloats_weft d hd 0
  have hin := fun f hf => weft_in (f := f) hd hf
  have hln := weft_len hd
  have e : (weftF d).filter (fun f => decide ((0 : Int) < f.len)) = weftF d := List.filter_eq_self.2 fun f hf => decide_eq_true (by have := (hin f hf).l; omega)
  rw [e] at hF
  have hg : ∀ i (h : i < (weftF d).length), ((weftF d).map FloatT.av)[i]? = some (.agg [iv (weftF d)[i].pick, iv (weftF d)[i].hook, iv (weftF d)[i].len, .bool (weftF d)[i].up]) := fun i h => by
    rw [List.getElem?_map, List.getElem?_eq_getElem h]; rfl
  have hl2 : ((weftF d).map FloatT.av).length = (weftF d).length := by simp
  have hpl := fl_plain (weftF d)
  unfold DesN.av at *
  generalize d.rows.map (fun n : Nat => iv (n : Int)) = rs at *
  generalize weftF d = FL at *
  generalize FL.map FloatT.av = es at *
  refine lim_by (fn := a25) (k := 3) (res := [.tmp 6]) rfl rfl rfl (by simp -implicitDefEqProofs (maxSteps := 2000000) (disch := first | exact tt_rfl rfl | omega | (simp only [go_sem] <;> omega) | fail) only [go_sem]) ?_
  simp -implicitDefEqProofs (maxSteps := 2000000) (disch := first | exact tt_rfl rfl | omega | (simp only [go_sem] <;> omega) | fail) only [go_sem]
  repeat (first | apply Wp.seqA | apply Wp.skipS | apply Wp.blockS | ((first | apply Wp.regS | apply Wp.condV | apply Wp.reg | apply Wp.condW | apply fin_ret); simp -implicitDefEqProofs (maxSteps := 2000000) (disch := first | exact tt_rfl rfl | omega | (simp only [go_sem] <;> omega) | fail) only [go_sem, hF, hl2, hpl] <;> try with_reducible rfl) | apply Wp.block | apply Wp.exitS | apply Wp.retS | apply Wp.exit | apply Wp.ret | apply Wp.skip)
  apply Wp.loopF FL.length (fun i => ⟨[(2, .bool lf), (7, .slice 448 0 FL.length), (8, iv (mxF lf (FL.take i))), (9, iv (i : Int))], [(448, .arr 4 es)], [], 10000000⟩) (fun _ => True)
  · simp -implicitDefEqProofs (maxSteps := 2000000) (disch := first | exact tt_rfl rfl | omega | (simp only [go_sem] <;> omega) | fail) only [go_sem, norm_eq, Ok.some]
    rfl
  · trivial
  intro i hi _
  by_cases h : i < FL.length
  · have hgi := hg i h
    have hm := mxF_take (b := lf) h
    generalize mxF lf (FL.take i) = m at *
    generalize mxF lf (FL.take (i + 1)) = m' at *
    generalize FL[i] = f at *
    by_cases hb : f.up = lf
    · rw [mxStep, if_pos hb] at hm
      repeat (first | apply Wp.seqA | apply Wp.skipS | apply Wp.blockS | ((first | apply Wp.regS | apply Wp.condV | apply Wp.reg | apply Wp.condW | apply fin_ret); simp -implicitDefEqProofs (maxSteps := 2000000) (disch := first | exact tt_rfl rfl | omega | (simp only [go_sem] <;> omega) | fail) only [go_sem, h, hl2, Int.ofNat_lt, hgi, hb, beq_self_eq_true] <;> try with_reducible rfl) | apply Wp.block | apply Wp.exitS | apply Wp.retS | apply Wp.exit | apply Wp.ret | apply Wp.skip)
      apply round_next
      · simp -implicitDefEqProofs (maxSteps := 2000000) (disch := first | exact tt_rfl rfl | omega | (simp only [go_sem] <;> omega) | fail) only [go_sem, norm_eq, Ok.some]; with_reducible rfl
      exact ⟨h, by rw [hm]; simp, trivial⟩
    · rw [mxStep, if_neg hb] at hm
      have hb' : (f.up == lf) = false := beq_eq_false_iff_ne.2 hb
      repeat (first | apply Wp.seqA | apply Wp.skipS | apply Wp.blockS | ((first | apply Wp.regS | apply Wp.condV | apply Wp.reg | apply Wp.condW | apply fin_ret); simp -implicitDefEqProofs (maxSteps := 2000000) (disch := first | exact tt_rfl rfl | omega | (simp only [go_sem] <;> omega) | fail) only [go_sem, h, hl2, Int.ofNat_lt, hgi, hb'] <;> try with_reducible rfl) | apply Wp.block | apply Wp.exitS | apply Wp.retS | apply Wp.exit | apply Wp.ret | apply Wp.skip)
      apply round_next
      · simp -implicitDefEqProofs (maxSteps := 2000000) (disch := first | exact tt_rfl rfl | omega | (simp only [go_sem] <;> omega) | fail) only [go_sem, norm_eq, Ok.some]; with_reducible rfl
      exact ⟨h, by rw [hm]; simp, trivial⟩
  · obtain rfl : i = FL.length := by omega
    rw [List.take_length]
    repeat (first | apply Wp.seqA | apply Wp.skipS | apply Wp.blockS | ((first | apply Wp.regS | apply Wp.condV | apply Wp.reg | apply Wp.condW | apply fin_ret); simp -implicitDefEqProofs (maxSteps := 2000000) (disch := first | exact tt_rfl rfl | omega | (simp only [go_sem] <;> omega) | fail) only [go_sem, hl2, Int.lt_irrefl] <;> try with_reducible rfl) | apply Wp.block | apply Wp.exitS | apply Wp.retS | apply Wp.exit | apply Wp.ret | apply Wp.skip)

theorem refLongest_warp (d : DesN) (hd : d.Ok) (lf : Bool) : lim F 25 [d.av, .bool true, .bool lf] = some (iv (mxF lf (warpF d)), []) := by
  have hF := refFloats_warp d hd 0
  have hin := fun f hf => warp_in (f := f) hd hf
  have hln := warp_len hd
  have e : (warpF d).filter (fun f => decide ((0 : Int) < f.len)) = warpF d := List.filter_eq_self.2 fun f hf => decide_eq_true (by have := (hin f hf).l; omega)
  rw [e] at hF
  have hg : ∀ i (h : i < (warpF d).length), ((warpF d).map FloatT.av)[i]? = some (.agg [iv (warpF d)[i].pick, iv (warpF d)[i].hook, iv (warpF d)[i].len, .bool (warpF d)[i].up]) := fun i h => by
    rw [List.getElem?_map, List.getElem?_eq_getElem h]; rfl
  have hl2 : ((warpF d).map FloatT.av).length = (warpF d).length := by simp
  have hpl := fl_plain (warpF d)
  unfold DesN.av at *
  generalize d.rows.map (fun n : Nat => iv (n : Int)) = rs at *
  generalize warpF d = FL at *
  generalize FL.map FloatT.av = es at *
  refine lim_by (fn := a25) (k := 3) (res := [.tmp 6]) rfl rfl rfl (by simp -implicitDefEqProofs (maxSteps := 2000000) (disch := first | exact tt_rfl rfl | omega | (simp only [go_sem] <;> omega) | fail) only [go_sem]) ?_
  simp -implicitDefEqProofs (maxSteps := 2000000) (disch := first | exact tt_rfl rfl | omega | (simp only [go_sem] <;> omega) | fail) only [go_sem]
  repeat (first | apply Wp.seqA | apply Wp.skipS | apply Wp.blockS | ((first | apply Wp.regS | apply Wp.condV | apply Wp.reg | apply Wp.condW | apply fin_ret); simp -implicitDefEqProofs (maxSteps := 2000000) (disch := first | exact tt_rfl rfl | omega | (simp only [go_sem] <;> omega) | fail) only [go_sem, hF, hl2, hpl] <;> try with_reducible rfl) | apply Wp.block | apply Wp.exitS | apply Wp.retS | apply Wp.exit | apply Wp.ret | apply Wp.skip)
  apply Wp.loopF FL.length (fun i => ⟨[(2, .bool lf), (7, .slice 448 0 FL.length), (8, iv (mxF lf (FL.take i))), (9, iv (i : Int))], [(448, .arr 4 es)], [], 10000000⟩) (fun _ => True)
  · simp -implicitDefEqProofs (maxSteps := 2000000) (disch := first | exact tt_rfl rfl | omega | (simp only [go_sem] <;> omega) | fail) only [go_sem, norm_eq, Ok.some]
    rfl
  · trivial
  intro i hi _
  by_cases h : i < FL.length
  · have hgi := hg i h
    have hm := mxF_take (b := lf) h
    generalize mxF lf (FL.take i) = m at *
    generalize mxF lf (FL.take (i + 1)) = m' at *
    generalize FL[i] = f at *
    by_cases hb : f.up = lf
    · rw [mxStep, if_pos hb] at hm
      repeat (first | apply Wp.seqA | apply Wp.skipS | apply Wp.blockS | ((first | apply Wp.regS | apply Wp.condV | apply Wp.reg | apply Wp.condW | apply fin_ret); simp -implicitDefEqProofs (maxSteps := 2000000) (disch := first | exact tt_rfl rfl | omega | (simp only [go_sem] <;> omega) | fail) only [go_sem, h, hl2, Int.ofNat_lt, hgi, hb, beq_self_eq_true] <;> try with_reducible rfl) | apply Wp.block | apply Wp.exitS | apply Wp.retS | apply Wp.exit | apply Wp.ret | apply Wp.skip)
      apply round_next
      · simp -implicitDefEqProofs (maxSteps := 2000000) (disch := first | exact tt_rfl rfl | omega | (simp only [go_sem] <;> omega) | fail) only [go_sem, norm_eq, Ok.some]; with_reducible rfl
      exact ⟨h, by rw [hm]; simp, trivial⟩
    · rw [mxStep, if_neg hb] at hm
      have hb' : (f.up == lf) = false := beq_eq_false_iff_ne.2 hb
      repeat (first | apply Wp.seqA | apply Wp.skipS | apply Wp.blockS | ((first | apply Wp.regS | apply Wp.condV | apply Wp.reg | apply Wp.condW | apply fin_ret); simp -implicitDefEqProofs (maxSteps := 2000000) (disch := first | exact tt_rfl rfl | omega | (simp only [go_sem] <;> omega) | fail) only [go_sem, h, hl2, Int.ofNat_lt, hgi, hb'] <;> try with_reducible rfl) | apply Wp.block | apply Wp.exitS | apply Wp.retS | apply Wp.exit | apply Wp.ret | apply Wp.skip)
      apply round_next
      · simp -implicitDefEqProofs (maxSteps := 2000000) (disch := first | exact tt_rfl rfl | omega | (simp only [go_sem] <;> omega) | fail) only [go_sem, norm_eq, Ok.some]; with_reducible rfl
      exact ⟨h, by rw [hm]; simp, trivial⟩
  · obtain rfl : i = FL.length := by omega
    rw [List.take_length]
    repeat (first | apply Wp.seqA | apply Wp.skipS | apply Wp.blockS | ((first | apply Wp.regS | apply Wp.condV | apply Wp.reg | apply Wp.condW | apply fin_ret); simp -implicitDefEqProofs (maxSteps := 2000000) (disch := first | exact tt_rfl rfl | omega | (simp only [go_sem] <;> omega) | fail) only [go_sem, hl2, Int.lt_irrefl] <;> try with_reducible rfl) | apply Wp.block | apply Wp.exitS | apply Wp.retS | apply Wp.exit | apply Wp.ret | apply Wp.skip)

theorem refProof_ok (d : DesN) (hd : d.Ok) (b : Nat) (hb : 1 ≤ b ∧ b ≤ 24) : lim F 32 [d.av, iv (b : Int)] = some (.own 4 (winsV d.hk b (weftF d)), []) := by
  have h24 := hd.h24
  have h1 := hd.h1
  have hF := refFloats_weft d hd b
  have hin := fun f hf => weft_in (f := f) hd hf
  have hln : ((weftF d).filter fun f => decide ((b : Int) < f.len)).length ≤ 60000 := Nat.le_trans (List.length_filter_le _ _) (weft_len hd)
  have e := wins_filter (b := b) hin
  have hin2 : ∀ i (h : i < ((weftF d).filter fun f => decide ((b : Int) < f.len)).length), FIn d.rows.length d.hk ((weftF d).filter fun f => decide ((b : Int) < f.len))[i] := fun i h => hin _ (List.mem_filter.1 (List.getElem_mem h)).1
  unfold winsV
  rw [← e]
  change lim F _ _ = some (AV.own 4 (winsV d.hk b ((weftF d).filter fun f => decide ((b : Int) < f.len))), [])
  have hg : ∀ i (h : i < ((weftF d).filter fun f => decide ((b : Int) < f.len)).length), (((weftF d).filter fun f => decide ((b : Int) < f.len)).map FloatT.av)[i]? = some (.agg [iv ((weftF d).filter fun f => decide ((b : Int) < f.len))[i].pick, iv ((weftF d).filter fun f => decide ((b : Int) < f.len))[i].hook, iv ((weftF d).filter fun f => decide ((b : Int) < f.len))[i].len, .bool ((weftF d).filter fun f => decide ((b : Int) < f.len))[i].up]) := fun i h => by
    rw [List.getElem?_map, List.getElem?_eq_getElem h]; rfl
  have hl2 : (((weftF d).filter fun f => decide ((b : Int) < f.len)).map FloatT.av).length = ((weftF d).filter fun f => decide ((b : Int) < f.len)).length := by simp
  have hpl := fl_plain ((weftF d).filter fun f => decide ((b : Int) < f.len))
  clear e
  unfold DesN.av at *
  generalize d.rows.map (fun n : Nat => iv (n : Int)) = rs at *
  generalize (weftF d).filter (fun f => decide ((b : Int) < f.len)) = FL at *
  generalize hes : FL.map FloatT.av = gs at *
  generalize d.hk = H at *
  refine lim_by (fn := a32) (k := 2) (res := [.tmp 4]) rfl rfl rfl (by simp -implicitDefEqProofs (maxSteps := 2000000) (disch := first | exact tt_rfl rfl | omega | (simp only [go_sem] <;> omega) | fail) only [go_sem]) ?_
  simp -implicitDefEqProofs (maxSteps := 2000000) (disch := first | exact tt_rfl rfl | omega | (simp only [go_sem] <;> omega) | fail) only [go_sem]
  repeat (first | apply Wp.seqA | apply Wp.skipS | apply Wp.blockS | ((first | apply Wp.regS | apply Wp.condV | apply Wp.reg | apply Wp.condW | apply fin_ret); simp -implicitDefEqProofs (maxSteps := 2000000) (disch := first | exact tt_rfl rfl | omega | (simp only [go_sem] <;> omega) | fail) only [go_sem, hF, hl2, hpl] <;> try with_reducible rfl) | apply Wp.block | apply Wp.exitS | apply Wp.retS | apply Wp.exit | apply Wp.ret | apply Wp.skip)
  apply Wp.loopF FL.length (fun i => ⟨[(1, iv (b : Int)), (2, .ptr 128 0 0), (5, .slice 320 0 (winsV H b (FL.take i)).length), (6, .slice 384 0 FL.length), (7, iv (i : Int))], [(128, .box [iv (H : Int), .list 1 rs]), (320, .arr 4 (winsV H b (FL.take i))), (384, .arr 4 gs)], [], 10000000⟩) (fun _ => True)
  · simp -implicitDefEqProofs (maxSteps := 2000000) (disch := first | exact tt_rfl rfl | omega | (simp only [go_sem] <;> omega) | fail) only [go_sem, norm_eq, Ok.some]
    try rfl
  · trivial
  intro j hj _
  by_cases h : j < FL.length
  · have hgi := hg j h
    have hs := wins_take (hk := H) (b := b) h
    have hl : (winsV H b (FL.take j)).length ≤ 60000 * 24 := by
      have h1 := wins_len H b (FL.take j)
      rw [List.length_take] at h1
      have h2 : min j FL.length * H ≤ 60000 * 24 := Nat.mul_le_mul (by omega) (by omega)
      unfold winsV
      rw [List.length_map]; omega
    have hfn := hin2 j h
    generalize FL[j] = f at *
    generalize winsV H b (FL.take j) = es at *
    generalize winsV H b (FL.take (j + 1)) = es' at *
    obtain ⟨⟨p0, p1⟩, ⟨k0, k1⟩, l0, l1⟩ := hfn
    have hN := winN_le H b f
    obtain ⟨m, hm⟩ : ∃ m : Nat, min f.len (H : Int) = m := ⟨(min f.len (H : Int)).toNat, by omega⟩
    have hmN : winN H b f = m / (b + 1) := by
      unfold winN
      congr 1
      omega
    have hmH : m ≤ 24 := by omega
    have hes2 : winT H b f = winTo H b f (winN H b f) := rfl
    rw [hes2] at hs
    have hdiv := Nat.div_add_mod m (b + 1)
    have hmod := Nat.mod_lt m (show 0 < b + 1 by omega)
    rw [← hmN] at hdiv
    generalize winN H b f = n at *
    repeat (first | apply Wp.seqA | apply Wp.skipS | apply Wp.blockS | ((first | apply Wp.regS | apply Wp.condV | apply Wp.reg | apply Wp.condW | apply fin_ret); simp -implicitDefEqProofs (maxSteps := 2000000) (disch := first | exact tt_rfl rfl | omega | (simp only [go_sem] <;> omega) | fail) only [go_sem, h, hl2, Int.ofNat_lt, hgi, hm] <;> try with_reducible rfl) | apply Wp.block | apply Wp.exitS | apply Wp.retS | apply Wp.exit | apply Wp.ret | apply Wp.skip)
    apply Wp.loopF n (fun k => ⟨[(1, iv (b : Int)), (2, .ptr 128 0 0), (5, .slice 320 0 (es ++ (winTo H b f k).map FloatT.av).length), (6, .slice 384 0 FL.length), (7, iv (j : Int)), (8, iv ((m : Int) - ((k * (b + 1) : Nat) : Int))), (9, iv (((f.hook.toNat + k * (b + 1)) % H : Nat) : Int))], [(128, .box [iv (H : Int), .list 1 rs]), (320, .arr 4 (es ++ (winTo H b f k).map FloatT.av)), (384, .arr 4 gs)], [], 10000000⟩) (fun _ => True)
    · have z0 : (((f.hook.toNat + 0 * (b + 1)) % H : Nat) : Int) = f.hook := by rw [Nat.zero_mul, Nat.add_zero, Nat.mod_eq_of_lt (by omega)]; omega
      rw [z0]
      simp -implicitDefEqProofs (maxSteps := 2000000) (disch := first | exact tt_rfl rfl | omega | (simp only [go_sem] <;> omega) | fail) only [go_sem, norm_eq, Ok.some]
      simp [winTo]
    · trivial
    intro k hk _
    have hkb : k * (b + 1) ≤ 24 * 25 := Nat.mul_le_mul (by omega) (by omega)
    have hkn : k * (b + 1) ≤ n * (b + 1) := Nat.mul_le_mul hk (Nat.le_refl _)
    have hnb : (b + 1) * n = n * (b + 1) := Nat.mul_comm _ _
    have hl3 : (es ++ (winTo H b f k).map FloatT.av).length ≤ 60000 * 24 + 24 := by
      rw [List.length_append, List.length_map]; unfold winTo; rw [List.length_map, List.length_range]; omega
    by_cases hkk : k < n
    · have hk1 : (k + 1) * (b + 1) ≤ n * (b + 1) := Nat.mul_le_mul (by omega) (Nat.le_refl _)
      have hk2 : (k + 1) * (b + 1) = k * (b + 1) + (b + 1) := by rw [Nat.add_mul, Nat.one_mul]
      have hz1 := Nat.mod_lt (f.hook.toNat + k * (b + 1)) (show 0 < H by omega)
      have e2 : Int.tmod ((((f.hook.toNat + k * (b + 1)) % H : Nat) : Int) + (b : Int) + 1) (H : Int) = (((f.hook.toNat + (k + 1) * (b + 1)) % H : Nat) : Int) := by
        rw [show (((f.hook.toNat + k * (b + 1)) % H : Nat) : Int) + (b : Int) + 1 = (((f.hook.toNat + k * (b + 1)) % H + (b + 1) : Nat) : Int) by omega, Int.tmod_eq_emod_of_nonneg (Int.natCast_nonneg _), ← Int.natCast_emod, Nat.mod_add_mod, hk2, Nat.add_assoc]
      have hs2 : es ++ (winTo H b f (k + 1)).map FloatT.av = es ++ (winTo H b f k).map FloatT.av ++ [.agg [iv f.pick, iv (((f.hook.toNat + k * (b + 1)) % H : Nat) : Int), iv ((b : Int) + 1), .bool f.up]] := by
        rw [winTo_succ, List.map_append, ← List.append_assoc]; rfl
      generalize es ++ (winTo H b f k).map FloatT.av = fs at *
      generalize es ++ (winTo H b f (k + 1)).map FloatT.av = fs' at *
      generalize (f.hook.toNat + k * (b + 1)) % H = z at *
      generalize (f.hook.toNat + (k + 1) * (b + 1)) % H = z' at *
      generalize k * (b + 1) = kb at *
      generalize (k + 1) * (b + 1) = kb' at *
      repeat (first | apply Wp.seqA | apply Wp.skipS | apply Wp.blockS | ((first | apply Wp.regS | apply Wp.condV | apply Wp.reg | apply Wp.condW | apply fin_ret); simp -implicitDefEqProofs (maxSteps := 2000000) (disch := first | exact tt_rfl rfl | omega | (simp only [go_sem] <;> omega) | fail) only [go_sem, h, hl2, Int.ofNat_lt, hgi, e2, show (b : Int) < (m : Int) - (kb : Int) by omega, show (H : Int) ≠ 0 by omega] <;> try with_reducible rfl) | apply Wp.block | apply Wp.exitS | apply Wp.retS | apply Wp.exit | apply Wp.ret | apply Wp.skip)
      apply block_norm
      apply round_next
      · simp -implicitDefEqProofs (maxSteps := 2000000) (disch := first | exact tt_rfl rfl | omega | (simp only [go_sem] <;> omega) | fail) only [go_sem, norm_eq, Ok.some]; with_reducible rfl
      refine ⟨hkk, ?_, trivial⟩
      rw [hs2, show (m : Int) - (kb' : Int) = (m : Int) - (kb : Int) - (b : Int) - 1 by omega]
      simp
    · obtain rfl : k = n := by omega
      rw [← hs]
      repeat (first | apply Wp.seqA | apply Wp.skipS | apply Wp.blockS | ((first | apply Wp.regS | apply Wp.condV | apply Wp.reg | apply Wp.condW | apply fin_ret); simp -implicitDefEqProofs (maxSteps := 2000000) (disch := first | exact tt_rfl rfl | omega | (simp only [go_sem] <;> omega) | fail) only [go_sem, show ¬ (b : Int) < (m : Int) - ((k * (b + 1) : Nat) : Int) by omega] <;> try with_reducible rfl) | apply Wp.block | apply Wp.exitS | apply Wp.retS | apply Wp.exit | apply Wp.ret | apply Wp.skip)
      apply round_next
      · simp -implicitDefEqProofs (maxSteps := 2000000) (disch := first | exact tt_rfl rfl | omega | (simp only [go_sem] <;> omega) | fail) only [go_sem, norm_eq, Ok.some]; with_reducible rfl
      exact ⟨h, by simp, trivial⟩
  · obtain rfl : j = FL.length := by omega
    rw [List.take_length]
    repeat (first | apply Wp.seqA | apply Wp.skipS | apply Wp.blockS | ((first | apply Wp.regS | apply Wp.condV | apply Wp.reg | apply Wp.condW | apply fin_ret); simp -implicitDefEqProofs (maxSteps := 2000000) (disch := first | exact tt_rfl rfl | omega | (simp only [go_sem] <;> omega) | fail) only [go_sem, hl2, Int.lt_irrefl, List.take_length] <;> try with_reducible rfl) | apply Wp.block | apply Wp.exitS | apply Wp.retS | apply Wp.exit | apply Wp.ret | apply Wp.skip)
end Go.Abs
