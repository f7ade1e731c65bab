/-
  Chapter 7: the statement SeamCutOut returns true.
-/
import Derived.Test.YtfokmdhmaabegaaS46
import Derived.Test.YtfokmdhmaabegaaKnown
set_option linter.all false
namespace Go.Abs
set_option maxRecDepth 10000
set_option maxHeartbeats 40000000

theorem byteOfB_ok (l : List (Fin 256)) (i : Nat) (hi : i < 1000000) : ∃ b : Nat, b < 256 ∧ lim F 56 [.list 1 (l.map fun n => b8 n.1), iv i] = some (iv b, []) := by
  by_cases h : l = []
  · refine ⟨0, by omega, ?_⟩
    subst h
    refine lim_by (fn := a56) (k := 2) (res := [.tmp 4]) rfl rfl rfl (by simp -implicitDefEqProofs (maxSteps := 2000000) (disch := first | exact tt_rfl rfl | omega | (simp only [go_sem] <;> omega) | fail) only [go_sem]) ?_
    simp -implicitDefEqProofs (maxSteps := 2000000) (disch := first | exact tt_rfl rfl | omega | (simp only [go_sem] <;> omega) | fail) only [go_sem]
    repeat (first | apply Wp.seqA | apply Wp.skipS | apply Wp.blockS | ((first | apply Wp.regS | apply Wp.condV | apply Wp.reg | apply Wp.condW | apply fin_ret); simp -implicitDefEqProofs (maxSteps := 2000000) (disch := first | exact tt_rfl rfl | omega | (simp only [go_sem] <;> omega) | fail) only [go_sem, List.map_nil] <;> try with_reducible rfl) | apply Wp.block | apply Wp.exitS | apply Wp.retS | apply Wp.exit | apply Wp.ret | apply Wp.skip)
  · have hp : 0 < l.length := List.length_pos_iff.2 h
    have hm : i % l.length < l.length := Nat.mod_lt _ hp
    refine ⟨l[i % l.length].1, l[i % l.length].2, ?_⟩
    have x1 : l[i % l.length]? = some l[i % l.length] := List.getElem?_eq_getElem hm
    have t1 := tmodB i l.length
    have c1 := conv8B l[i % l.length].1 l[i % l.length].2
    have h0 : ¬ (l.length : Int) = 0 := by omega
    refine lim_by (fn := a56) (k := 2) (res := [.tmp 4]) rfl rfl rfl (by simp -implicitDefEqProofs (maxSteps := 2000000) (disch := first | exact tt_rfl rfl | omega | (simp only [go_sem] <;> omega) | fail) only [go_sem]) ?_
    simp -implicitDefEqProofs (maxSteps := 2000000) (disch := first | exact tt_rfl rfl | omega | (simp only [go_sem] <;> omega) | fail) only [go_sem]
    repeat (first | apply Wp.seqA | apply Wp.skipS | apply Wp.blockS | ((first | apply Wp.regS | apply Wp.condV | apply Wp.reg | apply Wp.condW | apply fin_ret); simp -implicitDefEqProofs (maxSteps := 2000000) (disch := first | exact tt_rfl rfl | omega | (simp only [go_sem] <;> omega) | fail) only [go_sem, h0, t1, List.getElem?_map, x1, Option.map_some, c1] <;> try with_reducible rfl) | apply Wp.block | apply Wp.exitS | apply Wp.retS | apply Wp.exit | apply Wp.ret | apply Wp.skip)

@[go_sem] theorem apR_part (s sz id len : Nat) (es xs : List AV) (ids : List Nat) (h : ¬ len = es.length) (h2 : len + xs.length ≤ es.length) : apR s sz id 0 len xs ids (.arr sz es) = some ⟨.slice id 0 (len + xs.length), [(id, some (.arr sz (es.take len ++ xs ++ es.drop (len + xs.length))))], id :: ids⟩ := by
  simp [apR, h, h2]

@[go_sem] theorem bne_tfC : (true != false) = true := rfl
@[go_sem] theorem bne_ttC : (true != true) = false := rfl
@[go_sem] theorem bne_ftC : (false != true) = true := rfl
@[go_sem] theorem bne_ffC : (false != false) = false := rfl
theorem block_norm {id : Nat} {Q : AEx → Fr → Prop} {fr : Fr} (h : Q .normal fr) : blockQ id Q .normal fr := h
/-- is a length fine at a pick, as far as some bad picks say? -/
def fineB (r : Int) (bad : List Int) (c : Cut) (a : Int) (j : Nat) : Bool := decide (a % r = c.b) && (List.range j).all fun t => !(decide (a ≤ stAt bad t) && decide (stAt bad t < a + c.p))
theorem fine_succ (r : Int) (bad : List Int) (c : Cut) (a : Int) (j : Nat) : fineB r bad c a (j + 1) = (fineB r bad c a j && !(decide (a ≤ stAt bad j) && decide (stAt bad j < a + c.p))) := by
  unfold fineB
  rw [List.range_succ, List.all_append, Bool.and_assoc]
  simp
theorem fine_all (r : Int) (bad : List Int) (c : Cut) (a : Int) : fineB r bad c a bad.length = true ↔ OkAt r bad c a := by
  unfold fineB OkAt FineAt
  simp only [Bool.and_eq_true, decide_eq_true_eq, List.all_eq_true, List.mem_range, Bool.not_eq_true', Bool.and_eq_false_iff, decide_eq_false_iff_not]
  constructor
  · rintro ⟨h1, h2⟩
    refine ⟨h1, fun b hb => ?_⟩
    obtain ⟨t, ht, rfl⟩ := List.getElem_of_mem hb
    have := h2 t ht
    have e : stAt bad t = bad[t] := by simp [stAt, ht]
    rw [e] at this
    omega
  · rintro ⟨h1, h2⟩
    refine ⟨h1, fun t ht => ?_⟩
    have := h2 (stAt bad t) (List.mem_of_getElem? (stAt_eq ht))
    omega

theorem seamCutOut_ok (x : BoltA) (mix : List (Fin 256)) (pk : Int) (hpk : 0 ≤ pk ∧ pk ≤ 65535) : lim F 12 [x.av, .list 1 (mix.map fun n => b8 n.1), .int .u16 pk] = some (.bool true, []) := by
  have hkn := known_ok
  have hB := bolt_ok x
  obtain ⟨hv, z1, z2, z3, lb, ll⟩ := bolt_valid x
  have hby := fun i h => byteOfB_ok mix i h
  obtain ⟨q, hC, st, need, rfl, hBest, hfit⟩ := Cut_ok x.r x.badL x.l z1
  obtain ⟨q, hC2, st2, free, rfl, hBest2, _⟩ := Cut_ok x.r [] x.l z2
  obtain ⟨q, hC3, st3, less3, rfl, hBest3, _⟩ := Cut_ok x.r x.badL x.l.tail z3
  have hfree := best_free hv hBest2 hBest
  have hless := best_tail hv hBest3 hBest
  have hnb := best_bound hv (Int.le_refl 0) hBest
  have hlen := hfit.len
  have hints := ints_ok x.badL (by omega)
  have hcuts := cuts_ok x.l (by omega)
  have hcutsT := cuts_ok x.l.tail (by rw [List.length_tail]; omega)
  have hv0 : CutsOk x.r [] x.l := ⟨hv.rr, by simp, hv.ll, by simp, hv.cc⟩
  obtain ⟨p, hp⟩ : ∃ p : Nat, pk = p := ⟨pk.toNat, by omega⟩
  have hm4 : p % 400 < 400 := Nat.mod_lt _ (by omega)
  have hm4' : Int.tmod (p : Int) 400 = ((p % 400 : Nat) : Int) := tmodB p 400
  obtain ⟨q4, hC4, hC5⟩ := Pieces_ok x.r (1 + ((p % 400 : Nat) : Int)) x.l z2 (by omega)
  obtain ⟨hpf1, hpf2⟩ := pieces_facts (picks := 1 + ((p % 400 : Nat) : Int)) hv0 hBest2
  have hr0 : ¬ (x.r : Int) = 0 := by have := hv.rr; omega
  have hrr := hv.rr
  simp only [List.map_nil] at hC2
  subst hp
  simp only [BoltA.av] at hB ⊢
  generalize hrx : x.r = r at *
  generalize x.badL = bad at *
  generalize x.l = l at *
  refine lim_by (fn := a12) (k := 3) (res := [.tmp 6]) rfl rfl rfl (by simp -implicitDefEqProofs (maxSteps := 2000000) (disch := first | exact tt_rfl rfl | omega | (simp only [go_sem] <;> omega) | fail) only [go_sem]) ?_
  simp -implicitDefEqProofs (maxSteps := 2000000) (disch := first | exact tt_rfl rfl | omega | (simp only [go_sem] <;> omega) | fail) only [go_sem]
  repeat (first | apply Wp.seqA | apply Wp.skipS | apply Wp.blockS | ((first | apply Wp.regS | apply Wp.condV | apply Wp.reg | apply Wp.condW | apply fin_ret); simp -implicitDefEqProofs (maxSteps := 2000000) (disch := first | exact tt_rfl rfl | omega | (simp only [go_sem] <;> omega) | fail) only [go_sem, hB, hC, hints, hcuts, hlen, show ¬ need < 0 by omega] <;> try with_reducible rfl) | apply Wp.block | apply Wp.exitS | apply Wp.retS | apply Wp.exit | apply Wp.ret | apply Wp.skip)
  have hcc := hv.cc
  apply Wp.loopN l.length (fun i fr => ∃ e : Int, fr = ⟨[(1, .list 1 (mix.map fun n => b8 n.1)), (2, .int .u16 p), (7, iv r), (8, .slice 512 0 bad.length), (9, .slice 576 0 l.length), (10, .slice 640 0 l.length), (11, iv need), (13, iv e), (14, iv i)], [(512, .arr 1 (bad.map fun n => iv n)), (576, .arr 2 (l.map Cut.av)), (640, .arr 1 (st.map fun n => iv n))], [], 1000000⟩ ∧
    (∀ j, j < i → stAt st j + (cutAt l j).p ≤ e) ∧ ((e = 0 ∧ i = 0) ∨ ∃ j, j < i ∧ e = stAt st j + (cutAt l j).p))
  · simp -implicitDefEqProofs (maxSteps := 2000000) (disch := first | exact tt_rfl rfl | omega | (simp only [go_sem] <;> omega) | fail) only [go_sem, norm_eq, Ok.some]
    exact ⟨0, by simp, fun j hj => by omega, .inl rfl⟩
  rintro i fr hi ⟨e, rfl, he1, he2⟩
  by_cases h : i < l.length
  · have hx := stAt_eq (l := st) (i := i) (by omega)
    have hc := cutAt_eq h
    have hcv := hcc _ (cutAt_mem h)
    obtain ⟨k1, k2, k3, k4⟩ := hfit.each i h
    have htm := tmod_of (a := stAt st i) (b := r) k1
    have heb : 0 ≤ e ∧ e ≤ need := by
      rcases he2 with ⟨h1, _⟩ | ⟨j, h1, h2⟩
      · omega
      · have := hfit.each j (by omega)
        have q1 := this.pos
        have q2 := this.fin
        have := hcc _ (cutAt_mem (show j < l.length by omega))
        omega
    have hap := fun k (hk : k < l.length) (hki : k ≠ i) => hfit.apart i k h hk (fun e => hki e.symm)
    have hpos := fun k (hk : k < l.length) => (hfit.each k hk).pos
    have hfn := fun k (hk : k < l.length) => (hfit.each k hk).fin
    clear hB hC hC2 hC3 hC4 hC5 hpf1 hpf2 hints hcuts hcutsT hby
    repeat (first | apply Wp.seqA | apply Wp.skipS | apply Wp.blockS | ((first | apply Wp.regS | apply Wp.condV | apply Wp.reg | apply Wp.condW | apply fin_ret); simp -implicitDefEqProofs (maxSteps := 2000000) (disch := first | exact tt_rfl rfl | omega | (simp only [go_sem] <;> omega) | fail) only [go_sem, h, Int.ofNat_lt, List.getElem?_map, hx, hc, Option.map_some, Cut.av.eq_1, htm, k2, hr0, show ¬ stAt st i < 0 by omega, show ¬ need < stAt st i + (cutAt l i).p by omega] <;> try with_reducible rfl) | apply Wp.block | apply Wp.exitS | apply Wp.retS | apply Wp.exit | apply Wp.ret | apply Wp.skip)
    apply Wp.loopF bad.length (fun k => ⟨[(1, .list 1 (mix.map fun n => b8 n.1)), (2, .int .u16 p), (7, iv r), (8, .slice 512 0 bad.length), (9, .slice 576 0 l.length), (10, .slice 640 0 l.length), (11, iv need), (13, iv e), (14, iv i), (15, iv (stAt st i)), (16, iv k)], [(512, .arr 1 (bad.map fun n => iv n)), (576, .arr 2 (l.map Cut.av)), (640, .arr 1 (st.map fun n => iv n))], [], 1000000⟩) (fun _ => True)
    · simp -implicitDefEqProofs (maxSteps := 2000000) (disch := first | exact tt_rfl rfl | omega | (simp only [go_sem] <;> omega) | fail) only [go_sem, norm_eq, Ok.some]
    · trivial
    intro k hk _
    by_cases hkb : k < bad.length
    · have hbk := stAt_eq hkb
      have hf := k3 (stAt bad k) (List.mem_of_getElem? hbk)
      have hv2 := hv.bb (stAt bad k) (List.mem_of_getElem? hbk)
      clear hap hpos hfn hcc hfit he1 he2
      by_cases c : stAt st i ≤ stAt bad k
      · repeat (first | apply Wp.seqA | apply Wp.skipS | apply Wp.blockS | ((first | apply Wp.regS | apply Wp.condV | apply Wp.reg | apply Wp.condW | apply fin_ret); simp -implicitDefEqProofs (maxSteps := 2000000) (disch := first | exact tt_rfl rfl | omega | (simp only [go_sem] <;> omega) | fail) only [go_sem, h, hkb, Int.ofNat_lt, List.getElem?_map, hx, hc, hbk, Option.map_some, Cut.av.eq_1, c, show ¬ stAt bad k < stAt st i + (cutAt l i).p by omega] <;> try with_reducible rfl) | apply Wp.block | apply Wp.exitS | apply Wp.retS | apply Wp.exit | apply Wp.ret | apply Wp.skip)
        apply round_next
        · simp -implicitDefEqProofs (maxSteps := 2000000) (disch := first | exact tt_rfl rfl | omega | (simp only [go_sem] <;> omega) | fail) only [go_sem, norm_eq, Ok.some]; with_reducible rfl
        exact ⟨hkb, by simp, trivial⟩
      · repeat (first | apply Wp.seqA | apply Wp.skipS | apply Wp.blockS | ((first | apply Wp.regS | apply Wp.condV | apply Wp.reg | apply Wp.condW | apply fin_ret); simp -implicitDefEqProofs (maxSteps := 2000000) (disch := first | exact tt_rfl rfl | omega | (simp only [go_sem] <;> omega) | fail) only [go_sem, h, hkb, Int.ofNat_lt, List.getElem?_map, hx, hc, hbk, Option.map_some, Cut.av.eq_1, c] <;> try with_reducible rfl) | apply Wp.block | apply Wp.exitS | apply Wp.retS | apply Wp.exit | apply Wp.ret | apply Wp.skip)
        apply round_next
        · simp -implicitDefEqProofs (maxSteps := 2000000) (disch := first | exact tt_rfl rfl | omega | (simp only [go_sem] <;> omega) | fail) only [go_sem, norm_eq, Ok.some]; with_reducible rfl
        exact ⟨hkb, by simp, trivial⟩
    obtain rfl : k = bad.length := by omega
    repeat (first | apply Wp.seqA | apply Wp.skipS | apply Wp.blockS | ((first | apply Wp.regS | apply Wp.condV | apply Wp.reg | apply Wp.condW | apply fin_ret); simp -implicitDefEqProofs (maxSteps := 2000000) (disch := first | exact tt_rfl rfl | omega | (simp only [go_sem] <;> omega) | fail) only [go_sem, Int.lt_irrefl] <;> try with_reducible rfl) | apply Wp.block | apply Wp.exitS | apply Wp.retS | apply Wp.exit | apply Wp.ret | apply Wp.skip)
    apply Wp.loopF i (fun k => ⟨[(1, .list 1 (mix.map fun n => b8 n.1)), (2, .int .u16 p), (7, iv r), (8, .slice 512 0 bad.length), (9, .slice 576 0 l.length), (10, .slice 640 0 l.length), (11, iv need), (13, iv e), (14, iv i), (15, iv (stAt st i)), (17, iv k)], [(512, .arr 1 (bad.map fun n => iv n)), (576, .arr 2 (l.map Cut.av)), (640, .arr 1 (st.map fun n => iv n))], [], 1000000⟩) (fun _ => True)
    · simp -implicitDefEqProofs (maxSteps := 2000000) (disch := first | exact tt_rfl rfl | omega | (simp only [go_sem] <;> omega) | fail) only [go_sem, norm_eq, Ok.some]
    · trivial
    intro k hk _
    by_cases hki : k < i
    · have hxk := stAt_eq (l := st) (i := k) (by omega)
      have hck := cutAt_eq (show k < l.length by omega)
      have hpk := hpos k (by omega)
      have hfk := hfn k (by omega)
      have hcvk := hcc _ (cutAt_mem (show k < l.length by omega))
      clear hfit he1 he2
      rcases hap k (by omega) (by omega) with q | q
      · have q2 : ¬ stAt st k < stAt st i + (cutAt l i).p := by omega
        by_cases q1 : stAt st i < stAt st k + (cutAt l k).p
        all_goals
          clear hap hpos hfn hcc
          repeat (first | apply Wp.seqA | apply Wp.skipS | apply Wp.blockS | ((first | apply Wp.regS | apply Wp.condV | apply Wp.reg | apply Wp.condW | apply fin_ret); simp -implicitDefEqProofs (maxSteps := 2000000) (disch := first | exact tt_rfl rfl | omega | (simp only [go_sem] <;> omega) | fail) only [go_sem, h, hki, Int.ofNat_lt, List.getElem?_map, hx, hc, hxk, hck, Option.map_some, Cut.av.eq_1, q1, q2, show k < l.length by omega] <;> try with_reducible rfl) | apply Wp.block | apply Wp.exitS | apply Wp.retS | apply Wp.exit | apply Wp.ret | apply Wp.skip)
          apply round_next
          · simp -implicitDefEqProofs (maxSteps := 2000000) (disch := first | exact tt_rfl rfl | omega | (simp only [go_sem] <;> omega) | fail) only [go_sem, norm_eq, Ok.some]; with_reducible rfl
          exact ⟨hki, by simp, trivial⟩
      · have q1 : ¬ stAt st i < stAt st k + (cutAt l k).p := by omega
        clear hap hpos hfn hcc
        repeat (first | apply Wp.seqA | apply Wp.skipS | apply Wp.blockS | ((first | apply Wp.regS | apply Wp.condV | apply Wp.reg | apply Wp.condW | apply fin_ret); simp -implicitDefEqProofs (maxSteps := 2000000) (disch := first | exact tt_rfl rfl | omega | (simp only [go_sem] <;> omega) | fail) only [go_sem, h, hki, Int.ofNat_lt, List.getElem?_map, hx, hc, hxk, hck, Option.map_some, Cut.av.eq_1, q1, show k < l.length by omega] <;> try with_reducible rfl) | apply Wp.block | apply Wp.exitS | apply Wp.retS | apply Wp.exit | apply Wp.ret | apply Wp.skip)
        apply round_next
        · simp -implicitDefEqProofs (maxSteps := 2000000) (disch := first | exact tt_rfl rfl | omega | (simp only [go_sem] <;> omega) | fail) only [go_sem, norm_eq, Ok.some]; with_reducible rfl
        exact ⟨hki, by simp, trivial⟩
    · obtain rfl : k = i := by omega
      clear hap hpos hfn
      repeat (first | apply Wp.seqA | apply Wp.skipS | apply Wp.blockS | ((first | apply Wp.regS | apply Wp.condV | apply Wp.reg | apply Wp.condW | apply fin_ret); simp -implicitDefEqProofs (maxSteps := 2000000) (disch := first | exact tt_rfl rfl | omega | (simp only [go_sem] <;> omega) | fail) only [go_sem, h, Int.lt_irrefl, Int.ofNat_lt, List.getElem?_map, hc, Option.map_some, Cut.av.eq_1] <;> try with_reducible rfl) | apply Wp.block | apply Wp.exitS | apply Wp.retS | apply Wp.exit | apply Wp.ret | apply Wp.skip)
      apply round_next
      · simp -implicitDefEqProofs (maxSteps := 2000000) (disch := first | exact tt_rfl rfl | omega | (simp only [go_sem] <;> omega) | fail) only [go_sem, norm_eq, Ok.some]; with_reducible rfl
      refine ⟨h, max e (stAt st k + (cutAt l k).p), by simp, fun j hj => ?_, ?_⟩
      · by_cases c : j = k
        · subst c; omega
        · have := he1 j (by omega); omega
      · by_cases c : e ≤ stAt st k + (cutAt l k).p
        · exact .inr ⟨k, by omega, by omega⟩
        · rcases he2 with ⟨h1, h2⟩ | ⟨j, h1, h2⟩
          · omega
          · exact .inr ⟨j, by omega, by omega⟩
  · obtain rfl : i = l.length := by omega
    have hen : e = need := by
      rcases he2 with ⟨h1, h2⟩ | ⟨j, h1, h2⟩
      · rw [h1, hfit.none h2]
      · obtain ⟨i, q1, q2⟩ := hfit.top (by omega)
        have := he1 i q1
        have := (hfit.each j h1).fin
        omega
    rw [hen]
    clear hfit hcc he1 he2
    repeat (first | apply Wp.seqA | apply Wp.skipS | apply Wp.blockS | ((first | apply Wp.regS | apply Wp.condV | apply Wp.reg | apply Wp.condW | apply fin_ret); simp -implicitDefEqProofs (maxSteps := 2000000) (disch := first | exact tt_rfl rfl | omega | (simp only [go_sem] <;> omega) | fail) only [go_sem, Int.lt_irrefl, hcuts] <;> try with_reducible rfl) | apply Wp.block | apply Wp.exitS | apply Wp.retS | apply Wp.exit | apply Wp.ret | apply Wp.skip)
    apply Wp.loopM (fun m fr => ∃ (es : List AV) (o js : List Nat) (at0 : Int), fr = ⟨[(1, .list 1 (mix.map fun n => b8 n.1)), (2, .int .u16 p), (7, iv r), (8, .slice 512 0 bad.length), (9, .slice 576 0 l.length), (11, iv need), (18, .slice 1152 0 m), (19, iv at0), (20, iv (l.length - m : Nat))], [(512, .arr 1 (bad.map fun n => iv n)), (576, .arr 2 (l.map Cut.av)), (1152, .arr 2 es)], [], 1000000⟩ ∧ es.length = l.length ∧ m ≤ l.length ∧ js.length = m ∧ es.take m = (pickL l js).map Cut.av ∧ MixOk l.length o js ∧ at0 = comp r bad l o 0)
    · simp -implicitDefEqProofs (maxSteps := 2000000) (disch := first | exact tt_rfl rfl | omega | (simp only [go_sem] <;> omega) | fail) only [go_sem, norm_eq, Ok.some]
      exact ⟨l.length, l.map Cut.av, [], List.range l.length, 0, by simp, by simp, Nat.le_refl _, by simp, by rw [pick_all, List.take_of_length_le (by simp)], mix_start _, rfl⟩
    rintro m fr ⟨es, o, js, at0, rfl, les, hm, ljs, htake, hmix, hat⟩
    have hob : ∀ t ∈ o, t < l.length := fun t ht => (hmix.mem t).1 (List.mem_append_left _ ht)
    have hcb := comp_bound (p := fun _ => true) hv (Int.le_refl 0) hob
    have hol : o.length ≤ l.length := by
      have : o.length ≤ (List.range l.length).length := ((List.nodup_append.1 hmix.nd).1).length_le_of_subset fun t ht => List.mem_range.2 (hob t ht)
      simpa using this
    rw [← hat] at hcb
    by_cases hm0 : m = 0
    · subst hm0
      obtain rfl : js = [] := List.length_eq_zero_iff.1 ljs
      have hle := hBest.2 o (mix_end hmix)
      rw [← hat] at hle
      have g1 : ¬ at0 < need := by omega
      have g2 : ¬ need < free := by omega
      have g3 : ¬ need < less3 := by omega
      have g4 : IntKind.wrap .i64 (p : Int) = (p : Int) := wrap_id (by omega) (by omega)
      have g5 : (l.map Cut.av).drop 1 = l.tail.map Cut.av := by rw [← List.map_drop, List.drop_one]
      have g6 : l.tail.length = l.length - 1 := List.length_tail
      have hfb := best_bound hv0 (Int.le_refl 0) hBest2
      generalize hmost : (1 : Int) + ((p % 400 : Nat) : Int) = most at *
      have hmb : 1 ≤ most ∧ most ≤ 400 := by omega
      rcases hC5 with ⟨mm, rfl, hmm⟩ | ⟨rfl, hex⟩
      · obtain ⟨w1, w2, w3⟩ := hpf1 mm hmm fun i hi => asg_single_of (fun p q hh => feas_mono hv0 hh) hmm.1 hi rfl
        clear hpf1 hpf2 hmm hby hBest hBest2 hBest3 hv hv0 hmix hob
        have w0 : (mm : Int) ≤ l.length := by omega
        by_cases c0 : l.length = 0
        · obtain rfl : mm = 0 := w3.2 c0
          have g7 : ¬ (0 : Int) < l.length := by omega
          have g8 : (l.length : Int) = 0 := by omega
          repeat (first | apply Wp.seqA | apply Wp.skipS | apply Wp.blockS | ((first | apply Wp.regS | apply Wp.condV | apply Wp.reg | apply Wp.condW | apply fin_ret); simp -implicitDefEqProofs (maxSteps := 2000000) (disch := first | exact tt_rfl rfl | omega | (simp only [go_sem] <;> omega) | fail) only [go_sem, g1, hcuts, hC2, g2, g7, g8, g4, hm4', hmost, hC4, w0, hkn, Int.le_refl] <;> try with_reducible rfl) | apply Wp.block | apply Wp.exitS | apply Wp.retS | apply Wp.exit | apply Wp.ret | apply Wp.skip)
        · have g7 : (0 : Int) < l.length := by omega
          have g8 : ¬ (l.length : Int) = 0 := by omega
          have v3 : ¬ mm = 0 := fun h => c0 (w3.1 h)
          have v3' : ¬ (mm : Int) = 0 := by omega
          have g9 : (1 : Int) ≤ l.length := by omega
          have g10 : ((l.length : Int) - 1).toNat = l.length - 1 := by omega
          have g11 : (l.tail.map Cut.av).take (l.length - 1) = l.tail.map Cut.av := List.take_of_length_le (by simp)
          by_cases cf : free ≤ most
          · obtain rfl : mm = 1 := w2.2 ⟨by omega, cf⟩
            repeat (first | apply Wp.seqA | apply Wp.skipS | apply Wp.blockS | ((first | apply Wp.regS | apply Wp.condV | apply Wp.reg | apply Wp.condW | apply fin_ret); simp -implicitDefEqProofs (maxSteps := 2000000) (disch := first | exact tt_rfl rfl | omega | (simp only [go_sem] <;> omega) | fail) only [go_sem, g1, hcuts, hC2, g2, g7, g8, g4, hm4', hmost, hC4, w0, hkn, hints, g5, hcutsT, hC3, g3, cf, g6, g9, g10, g11] <;> try with_reducible rfl) | apply Wp.block | apply Wp.exitS | apply Wp.retS | apply Wp.exit | apply Wp.ret | apply Wp.skip)
          · have v1 : ¬ mm = 1 := fun h => cf (w2.1 h).2
            have v1' : ¬ (mm : Int) = 1 := by omega
            repeat (first | apply Wp.seqA | apply Wp.skipS | apply Wp.blockS | ((first | apply Wp.regS | apply Wp.condV | apply Wp.reg | apply Wp.condW | apply fin_ret); simp -implicitDefEqProofs (maxSteps := 2000000) (disch := first | exact tt_rfl rfl | omega | (simp only [go_sem] <;> omega) | fail) only [go_sem, g1, hcuts, hC2, g2, g7, g8, g4, hm4', hmost, hC4, w0, hkn, hints, g5, hcutsT, hC3, g3, cf, v1', v3', g6, g9, g10, g11] <;> try with_reducible rfl) | apply Wp.block | apply Wp.exitS | apply Wp.retS | apply Wp.exit | apply Wp.ret | apply Wp.skip)
      · have hgt := hpf2 hex
        obtain ⟨i0, hi0, _⟩ := hex
        clear hpf1 hpf2 hby hBest hBest2 hBest3 hv hv0 hmix hob
        have g7 : (0 : Int) < l.length := by omega
        have g8 : ¬ (l.length : Int) = 0 := by omega
        have g9 : (1 : Int) ≤ l.length := by omega
        have g10 : ((l.length : Int) - 1).toNat = l.length - 1 := by omega
        have g11 : (l.tail.map Cut.av).take (l.length - 1) = l.tail.map Cut.av := List.take_of_length_le (by simp)
        repeat (first | apply Wp.seqA | apply Wp.skipS | apply Wp.blockS | ((first | apply Wp.regS | apply Wp.condV | apply Wp.reg | apply Wp.condW | apply fin_ret); simp -implicitDefEqProofs (maxSteps := 2000000) (disch := first | exact tt_rfl rfl | omega | (simp only [go_sem] <;> omega) | fail) only [go_sem, g1, hcuts, hC2, g2, g7, g8, g4, hm4', hmost, hC4, hkn, hints, g5, hcutsT, hC3, g3, hgt, g6, g9, g10, g11] <;> try with_reducible rfl) | apply Wp.block | apply Wp.exitS | apply Wp.retS | apply Wp.exit | apply Wp.ret | apply Wp.skip)
    · obtain ⟨b, hb, hbyte⟩ := hby (l.length - m) (by omega)
      have hkm : b % m < m := Nat.mod_lt _ (by omega)
      have t1 := tmodB b m
      generalize b % m = k at *
      obtain ⟨u, hu⟩ : ∃ u, js[k]'(by omega) = u := ⟨_, rfl⟩
      have hul : u < l.length := (hmix.mem u).1 (List.mem_append_right _ (by rw [← hu]; exact List.getElem_mem _))
      have hcu := hv.cc _ (cutAt_mem hul)
      have x1 : es[k]? = some (.agg [iv (cutAt l u).b, iv (cutAt l u).p]) := by
        have h1 : (es.take m)[k]? = es[k]? := by rw [List.getElem?_take, if_pos hkm]
        rw [← h1, htake]
        simp [pickL, List.getElem?_eq_getElem (show k < js.length by omega), hu, Cut.av]
      obtain ⟨s1, s2⟩ := left_step (es := es) hkm (by omega)
      have hst := start_spec hv.rr hv.bb hcu.2 (f := at0) (by omega)
      have hnx := mix_step hmix (k := k) (by omega)
      rw [hu] at hnx
      generalize hes2 : (es.take k ++ (es.drop (k + 1)).take (m - (k + 1))) ++ es.drop (m - 1) = es2 at *
      have y1 : (0 : Int) < m := by omega
      have y2 : (k : Int) < m := by omega
      clear hmix
      have n0 : ((k : Int) - 0).toNat = k := by omega
      have n1 : ((k : Int) + 1).toNat = k + 1 := by omega
      have n2 : ((m : Int) - ((k : Int) + 1)).toNat = m - (k + 1) := by omega
      have n3 : ((es.drop (k + 1)).take (m - (k + 1))).length = m - (k + 1) := by simp; omega
      have n4 : k + (m - (k + 1)) = m - 1 := by omega
      have hend : endF r bad l at0 u = startF r bad (cutAt l u) at0 + (cutAt l u).p := rfl
      obtain ⟨hst, hs1⟩ := hst
      generalize startF r bad (cutAt l u) at0 = s0 at *
      generalize cutAt l u = c0 at *
      repeat (first | apply Wp.seqA | apply Wp.skipS | apply Wp.blockS | ((first | apply Wp.regS | apply Wp.condV | apply Wp.reg | apply Wp.condW | apply fin_ret); simp -implicitDefEqProofs (maxSteps := 2000000) (disch := first | exact tt_rfl rfl | omega | (simp only [go_sem] <;> omega) | fail) only [go_sem, y1, y2, hbyte, t1, show ¬ (m : Int) = 0 by omega, x1, n0, n1, n2, n3, n4, hes2] <;> try with_reducible rfl) | apply Wp.block | apply Wp.exitS | apply Wp.retS | apply Wp.exit | apply Wp.ret | apply Wp.skip)
      apply Wp.loopM (fun kk fr => ∃ (at1 : Int) (fine : Bool), fr = ⟨[(1, .list 1 (mix.map fun n => b8 n.1)), (2, .int .u16 p), (7, iv r), (8, .slice 512 0 bad.length), (9, .slice 576 0 l.length), (11, iv need), (18, .slice 1152 0 (m - 1)), (19, iv at1), (20, iv (l.length - m : Nat)), (22, .ptr 1408 0 0), (23, .bool fine)], [(512, .arr 1 (bad.map fun n => iv n)), (576, .arr 2 (l.map Cut.av)), (1152, .arr 2 es2), (1408, .box [iv c0.b, iv c0.p])], [], 1000000⟩ ∧ at0 ≤ at1 ∧ at1 ≤ s0 ∧ ((fine = false ∧ kk = (s0 - at1).toNat + 1) ∨ (fine = true ∧ at1 = s0 ∧ kk = 0)))
      · simp -implicitDefEqProofs (maxSteps := 2000000) (disch := first | exact tt_rfl rfl | omega | (simp only [go_sem] <;> omega) | fail) only [go_sem, norm_eq, Ok.some]
        exact ⟨_, at0, false, by simp, Int.le_refl _, hst.le, .inl ⟨rfl, rfl⟩⟩
      rintro kk fr ⟨at1, fine, rfl, q1, q2, q3⟩
      have hsle := hst.le
      rcases q3 with ⟨rfl, hkk⟩ | ⟨rfl, rfl, hkk⟩
      · have tm := tmod_of (a := at1) (b := r) (by omega)
        clear hBest hBest2 hBest3 hpf1 hpf2 hC5 hby
        repeat (first | apply Wp.seqA | apply Wp.skipS | apply Wp.blockS | ((first | apply Wp.regS | apply Wp.condV | apply Wp.reg | apply Wp.condW | apply fin_ret); simp -implicitDefEqProofs (maxSteps := 2000000) (disch := first | exact tt_rfl rfl | omega | (simp only [go_sem] <;> omega) | fail) only [go_sem, tm, hr0] <;> try with_reducible rfl) | apply Wp.block | apply Wp.exitS | apply Wp.retS | apply Wp.exit | apply Wp.ret | apply Wp.skip)
        apply Wp.loopF bad.length (fun j => ⟨[(1, .list 1 (mix.map fun n => b8 n.1)), (2, .int .u16 p), (7, iv r), (8, .slice 512 0 bad.length), (9, .slice 576 0 l.length), (11, iv need), (18, .slice 1152 0 (m - 1)), (19, iv at1), (20, iv (l.length - m : Nat)), (22, .ptr 1408 0 0), (23, .bool (fineB r bad c0 at1 j)), (24, iv j)], [(512, .arr 1 (bad.map fun n => iv n)), (576, .arr 2 (l.map Cut.av)), (1152, .arr 2 es2), (1408, .box [iv c0.b, iv c0.p])], [], 1000000⟩) (fun _ => True)
        · simp -implicitDefEqProofs (maxSteps := 2000000) (disch := first | exact tt_rfl rfl | omega | (simp only [go_sem] <;> omega) | fail) only [go_sem, norm_eq, Ok.some]
          simp [fineB]
        · trivial
        intro j hj _
        by_cases hjb : j < bad.length
        · have hbk := stAt_eq hjb
          have hbb := hv.bb (stAt bad j) (List.mem_of_getElem? hbk)
          have hf := fine_succ r bad c0 at1 j
          cases hfj : fineB r bad c0 at1 j with
          | true =>
            rw [hfj] at hf
            by_cases c1 : stAt bad j < at1
            · rw [decide_eq_false (by omega : ¬ at1 ≤ stAt bad j)] at hf
              repeat (first | apply Wp.seqA | apply Wp.skipS | apply Wp.blockS | ((first | apply Wp.regS | apply Wp.condV | apply Wp.reg | apply Wp.condW | apply fin_ret); simp -implicitDefEqProofs (maxSteps := 2000000) (disch := first | exact tt_rfl rfl | omega | (simp only [go_sem] <;> omega) | fail) only [go_sem, hjb, Int.ofNat_lt, List.getElem?_map, hbk, Option.map_some, c1] <;> try with_reducible rfl) | apply Wp.block | apply Wp.exitS | apply Wp.retS | apply Wp.exit | apply Wp.ret | apply Wp.skip)
              apply round_next
              · simp -implicitDefEqProofs (maxSteps := 2000000) (disch := first | exact tt_rfl rfl | omega | (simp only [go_sem] <;> omega) | fail) only [go_sem, norm_eq, Ok.some]; with_reducible rfl
              exact ⟨hjb, by simp [hf], trivial⟩
            · rw [decide_eq_true (by omega : at1 ≤ stAt bad j)] at hf
              by_cases c2 : at1 + c0.p ≤ stAt bad j
              · rw [decide_eq_false (by omega : ¬ stAt bad j < at1 + c0.p)] at hf
                repeat (first | apply Wp.seqA | apply Wp.skipS | apply Wp.blockS | ((first | apply Wp.regS | apply Wp.condV | apply Wp.reg | apply Wp.condW | apply fin_ret); simp -implicitDefEqProofs (maxSteps := 2000000) (disch := first | exact tt_rfl rfl | omega | (simp only [go_sem] <;> omega) | fail) only [go_sem, hjb, Int.ofNat_lt, List.getElem?_map, hbk, Option.map_some, c1, c2] <;> try with_reducible rfl) | apply Wp.block | apply Wp.exitS | apply Wp.retS | apply Wp.exit | apply Wp.ret | apply Wp.skip)
                apply round_next
                · simp -implicitDefEqProofs (maxSteps := 2000000) (disch := first | exact tt_rfl rfl | omega | (simp only [go_sem] <;> omega) | fail) only [go_sem, norm_eq, Ok.some]; with_reducible rfl
                exact ⟨hjb, by simp [hf], trivial⟩
              · rw [decide_eq_true (by omega : stAt bad j < at1 + c0.p)] at hf
                repeat (first | apply Wp.seqA | apply Wp.skipS | apply Wp.blockS | ((first | apply Wp.regS | apply Wp.condV | apply Wp.reg | apply Wp.condW | apply fin_ret); simp -implicitDefEqProofs (maxSteps := 2000000) (disch := first | exact tt_rfl rfl | omega | (simp only [go_sem] <;> omega) | fail) only [go_sem, hjb, Int.ofNat_lt, List.getElem?_map, hbk, Option.map_some, c1, c2] <;> try with_reducible rfl) | apply Wp.block | apply Wp.exitS | apply Wp.retS | apply Wp.exit | apply Wp.ret | apply Wp.skip)
                apply round_next
                · simp -implicitDefEqProofs (maxSteps := 2000000) (disch := first | exact tt_rfl rfl | omega | (simp only [go_sem] <;> omega) | fail) only [go_sem, norm_eq, Ok.some]; with_reducible rfl
                exact ⟨hjb, by simp [hf], trivial⟩
          | false =>
            rw [hfj, Bool.false_and] at hf
            repeat (first | apply Wp.seqA | apply Wp.skipS | apply Wp.blockS | ((first | apply Wp.regS | apply Wp.condV | apply Wp.reg | apply Wp.condW | apply fin_ret); simp -implicitDefEqProofs (maxSteps := 2000000) (disch := first | exact tt_rfl rfl | omega | (simp only [go_sem] <;> omega) | fail) only [go_sem, hjb, Int.ofNat_lt] <;> try with_reducible rfl) | apply Wp.block | apply Wp.exitS | apply Wp.retS | apply Wp.exit | apply Wp.ret | apply Wp.skip)
            apply round_next
            · simp -implicitDefEqProofs (maxSteps := 2000000) (disch := first | exact tt_rfl rfl | omega | (simp only [go_sem] <;> omega) | fail) only [go_sem, norm_eq, Ok.some]; with_reducible rfl
            exact ⟨hjb, by simp [hf], trivial⟩
        · obtain rfl : j = bad.length := by omega
          have hfa := fine_all r bad c0 at1
          cases hfb : fineB r bad c0 at1 bad.length with
          | true =>
            have hok := hfa.1 hfb
            have he : at1 = s0 := by
              apply Classical.byContradiction
              intro c
              exact hst.no at1 q1 (by omega) hok
            repeat (first | apply Wp.seqA | apply Wp.skipS | apply Wp.blockS | ((first | apply Wp.regS | apply Wp.condV | apply Wp.reg | apply Wp.condW | apply fin_ret); simp -implicitDefEqProofs (maxSteps := 2000000) (disch := first | exact tt_rfl rfl | omega | (simp only [go_sem] <;> omega) | fail) only [go_sem, Int.lt_irrefl] <;> try with_reducible rfl) | apply Wp.block | apply Wp.exitS | apply Wp.retS | apply Wp.exit | apply Wp.ret | apply Wp.skip)
            apply block_norm
            apply round_next
            · simp -implicitDefEqProofs (maxSteps := 2000000) (disch := first | exact tt_rfl rfl | omega | (simp only [go_sem] <;> omega) | fail) only [go_sem, norm_eq, Ok.some]; with_reducible rfl
            exact ⟨0, by omega, at1, true, rfl, q1, q2, .inr ⟨rfl, he, rfl⟩⟩
          | false =>
            have he : at1 ≠ s0 := by
              intro e
              rw [← e] at hst
              rw [hfa.2 hst.ok] at hfb; cases hfb
            repeat (first | apply Wp.seqA | apply Wp.skipS | apply Wp.blockS | ((first | apply Wp.regS | apply Wp.condV | apply Wp.reg | apply Wp.condW | apply fin_ret); simp -implicitDefEqProofs (maxSteps := 2000000) (disch := first | exact tt_rfl rfl | omega | (simp only [go_sem] <;> omega) | fail) only [go_sem, Int.lt_irrefl] <;> try with_reducible rfl) | apply Wp.block | apply Wp.exitS | apply Wp.retS | apply Wp.exit | apply Wp.ret | apply Wp.skip)
            apply block_norm
            apply round_next
            · simp -implicitDefEqProofs (maxSteps := 2000000) (disch := first | exact tt_rfl rfl | omega | (simp only [go_sem] <;> omega) | fail) only [go_sem, norm_eq, Ok.some]; with_reducible rfl
            exact ⟨(s0 - (at1 + 1)).toNat + 1, by omega, at1 + 1, false, rfl, by omega, by omega, .inl ⟨rfl, rfl⟩⟩
      · repeat (first | apply Wp.seqA | apply Wp.skipS | apply Wp.blockS | ((first | apply Wp.regS | apply Wp.condV | apply Wp.reg | apply Wp.condW | apply fin_ret); simp -implicitDefEqProofs (maxSteps := 2000000) (disch := first | exact tt_rfl rfl | omega | (simp only [go_sem] <;> omega) | fail) only [go_sem, hr0] <;> try with_reducible rfl) | apply Wp.block | apply Wp.exitS | apply Wp.retS | apply Wp.exit | apply Wp.ret | apply Wp.skip)
        apply round_next
        · simp -implicitDefEqProofs (maxSteps := 2000000) (disch := first | exact tt_rfl rfl | omega | (simp only [go_sem] <;> omega) | fail) only [go_sem, norm_eq, Ok.some]; with_reducible rfl
        refine ⟨m - 1, by omega, es2, o ++ [u], js.eraseIdx k, at1 + c0.p, ?_, by omega, by omega, by rw [List.length_eraseIdx]; split <;> omega, ?_, hnx, by rw [comp_snoc, ← hat, hend]⟩
        · simp; omega
        · rw [s2, htake]
          simp only [pickL, List.eraseIdx_eq_take_drop_succ, List.map_take, List.map_drop, List.map_append]
end Go.Abs
