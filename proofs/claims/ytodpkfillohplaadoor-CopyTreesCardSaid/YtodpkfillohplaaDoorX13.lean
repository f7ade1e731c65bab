/-
 Chapter 12: the fewest copies that are needed. No condition beyond those that each theorem names.
-/
import Derived.Test.YtodpkfillohplaaDoorX12
set_option linter.all false
namespace Go.Abs
set_option maxRecDepth 10000
set_option maxHeartbeats 4000000

theorem EqualI_ok (a b : List AV) (xa xb : List Int) (ea : a = xa.map fun n => iv n) (eb : b = xb.map fun n => iv n) (hl : xa.length ≤ 1000000) : lim F 67 [.list 1 a, .list 1 b] = some (.bool (decide (xa = xb)), []) := by
 subst ea eb
 by_cases h1 : xa.length = xb.length
 ·refine lim_by (fn := a67) (k := 2) (res := [.tmp 4]) rfl rfl rfl (by simp -implicitDefEqProofs (maxSteps := 2000000) (disch := first | exact tt_rfl rfl | omega | (simp only [go_sem] <;> omega) | fail) only [go_sem]) ?_
  simp -implicitDefEqProofs (maxSteps := 2000000) (disch := first | exact tt_rfl rfl | omega | (simp only [go_sem] <;> omega) | fail) only [go_sem]
  repeat (first | apply Wp.seqA | apply Wp.skipS | apply Wp.blockS | ((first | apply Wp.regS | apply Wp.condV | apply Wp.reg | apply Wp.condW | apply fin_ret); simp -implicitDefEqProofs (maxSteps := 2000000) (disch := first | exact tt_rfl rfl | omega | (simp only [go_sem] <;> omega) | fail) only [go_sem, h1] <;> try with_reducible rfl) | apply Wp.block | apply Wp.exitS | apply Wp.retS | apply Wp.exit | apply Wp.ret | apply Wp.skip)
  apply Wp.loopF xa.length (fun i => ⟨[(0, .list 1 (xa.map fun n => iv n)), (1, .list 1 (xb.map fun n => iv n)), (12, iv xa.length), (13, iv i)], [], [], 10000000⟩) (fun i => ∀ j (hj : j < xa.length) (hj' : j < xb.length), j < i → xa[j] = xb[j])
  ·simp -implicitDefEqProofs (maxSteps := 2000000) (disch := first | exact tt_rfl rfl | omega | (simp only [go_sem] <;> omega) | fail) only [go_sem, norm_eq, Ok.some]
   rw [h1]
   try rfl
  ·intro j hj _ h; omega
  intro i hi hn
  by_cases h : i < xa.length
  ·have h' : i < xb.length := by omega
   by_cases hb : xa[i] = xb[i]
   ·repeat (first | apply Wp.seqA | apply Wp.skipS | apply Wp.blockS | ((first | apply Wp.regS | apply Wp.condV | apply Wp.reg | apply Wp.condW | apply fin_ret); simp -implicitDefEqProofs (maxSteps := 2000000) (disch := first | exact tt_rfl rfl | omega | (simp only [go_sem] <;> omega) | fail) only [go_sem, h, List.getElem?_map, List.getElem?_eq_getElem h, List.getElem?_eq_getElem h', Option.map_some, Int.ofNat_lt, hb] <;> try with_reducible rfl) | apply Wp.block | apply Wp.exitS | apply Wp.retS | apply Wp.exit | apply Wp.ret | apply Wp.skip)
    apply round_next
    ·simp -implicitDefEqProofs (maxSteps := 2000000) (disch := first | exact tt_rfl rfl | omega | (simp only [go_sem] <;> omega) | fail) only [go_sem, norm_eq, Ok.some]; with_reducible rfl
    refine ⟨h, by simp, fun j hj hj' hji => ?_⟩
    by_cases e : j = i
    ·subst e; exact hb
    ·exact hn j hj hj' (by omega)
   ·repeat (first | apply Wp.seqA | apply Wp.skipS | apply Wp.blockS | ((first | apply Wp.regS | apply Wp.condV | apply Wp.reg | apply Wp.condW | apply fin_ret); simp -implicitDefEqProofs (maxSteps := 2000000) (disch := first | exact tt_rfl rfl | omega | (simp only [go_sem] <;> omega) | fail) only [go_sem, h, List.getElem?_map, List.getElem?_eq_getElem h, List.getElem?_eq_getElem h', Option.map_some, Int.ofNat_lt, hb] <;> try with_reducible rfl) | apply Wp.block | apply Wp.exitS | apply Wp.retS | apply Wp.exit | apply Wp.ret | apply Wp.skip)
    rw [decide_eq_false fun e : xa = xb => hb (by simp only [e])]
  ·repeat (first | apply Wp.seqA | apply Wp.skipS | apply Wp.blockS | ((first | apply Wp.regS | apply Wp.condV | apply Wp.reg | apply Wp.condW | apply fin_ret); simp -implicitDefEqProofs (maxSteps := 2000000) (disch := first | exact tt_rfl rfl | omega | (simp only [go_sem] <;> omega) | fail) only [go_sem, h, Int.ofNat_lt] <;> try with_reducible rfl) | apply Wp.block | apply Wp.exitS | apply Wp.retS | apply Wp.exit | apply Wp.ret | apply Wp.skip)
   rw [decide_eq_true (List.ext_getElem h1 fun j hj hj' => hn j hj hj' (by omega))]
 ·refine lim_by (fn := a67) (k := 2) (res := [.tmp 4]) rfl rfl rfl (by simp -implicitDefEqProofs (maxSteps := 2000000) (disch := first | exact tt_rfl rfl | omega | (simp only [go_sem] <;> omega) | fail) only [go_sem]) ?_
  simp -implicitDefEqProofs (maxSteps := 2000000) (disch := first | exact tt_rfl rfl | omega | (simp only [go_sem] <;> omega) | fail) only [go_sem]
  repeat (first | apply Wp.seqA | apply Wp.skipS | apply Wp.blockS | ((first | apply Wp.regS | apply Wp.condV | apply Wp.reg | apply Wp.condW | apply fin_ret); simp -implicitDefEqProofs (maxSteps := 2000000) (disch := first | exact tt_rfl rfl | omega | (simp only [go_sem] <;> omega) | fail) only [go_sem, show ¬ (xa.length : Int) = xb.length by omega] <;> try with_reducible rfl) | apply Wp.block | apply Wp.exitS | apply Wp.retS | apply Wp.exit | apply Wp.ret | apply Wp.skip)
  rw [decide_eq_false fun e : xa = xb => h1 (by rw [e])]

theorem EqualN_ok (a b : List Nat) (hl : a.length ≤ 1000000) : lim F 67 [.list 1 (natsV a), .list 1 (natsV b)] = some (.bool (decide (a = b)), []) := by
 have h := EqualI_ok (natsV a) (natsV b) (a.map fun n : Nat => (n : Int)) (b.map fun n : Nat => (n : Int)) (by rw [List.map_map]; rfl) (by rw [List.map_map]; rfl) (by simpa using hl)
 have e : decide (a.map (fun n : Nat => (n : Int)) = b.map fun n : Nat => (n : Int)) = decide (a = b) := by
  rw [decide_eq_decide]
  refine ⟨fun h => ?_, fun h => by rw [h]⟩
  have h2 := congrArg (fun l => l.map Int.toNat) h
  simp only [List.map_map] at h2
  have e : (Int.toNat ∘ fun n : Nat => (n : Int)) = id := by funext n; simp
  rw [e, List.map_id, List.map_id] at h2
  exact h2
 rw [e] at h
 exact h
theorem Needed_bad (l : List DesA) (hl : l.length ≤ 1000) (hr : ∀ d ∈ l, d.rows.length ≤ 1000000) (w : Int) (he : wayE w l ≠ 0) : lim F 27 [iv w, .list 2 (l.map DesA.av)] = some (.tuple [.own 1 [], iv (wayE w l)], []) := by
 have hO := open_bad l hl hr w he
 generalize l.map DesA.av = es at *
 generalize wayE w l = e at *
 refine lim_by (fn := a27) (k := 2) (res := [.cell 4 1 false, .cell 5 1 false]) rfl rfl rfl (by simp -implicitDefEqProofs (maxSteps := 2000000) (disch := first | exact tt_rfl rfl | omega | (simp only [go_sem] <;> omega) | fail) only [go_sem]) ?_
 simp -implicitDefEqProofs (maxSteps := 2000000) (disch := first | exact tt_rfl rfl | omega | (simp only [go_sem] <;> omega) | fail) only [go_sem]
 repeat (first | apply Wp.seqA | apply Wp.skipS | apply Wp.blockS | ((first | apply Wp.regS | apply Wp.condV | apply Wp.reg | apply Wp.condW | apply fin_ret); simp -implicitDefEqProofs (maxSteps := 2000000) (disch := first | exact tt_rfl rfl | omega | (simp only [go_sem] <;> omega) | fail) only [go_sem, hO, he] <;> try with_reducible rfl) | apply Wp.block | apply Wp.exitS | apply Wp.retS | apply Wp.exit | apply Wp.ret | apply Wp.skip)
/-- the sets of some copies -/
def someN (s : List (List Nat)) (x : List Nat) : List (List Nat) := x.map fun k => s.getD k []
@[simp] theorem someN_len (s : List (List Nat)) (x : List Nat) : (someN s x).length = x.length := by simp [someN]
def isN (s : List (List Nat)) (n : Nat) (x : List Nat) : Bool := decide (joinN (someN s x) n = joinN s n)
theorem partsL_lt (most : Nat) : ∀ (m a : Nat), ∀ x ∈ partsL most m a, ∀ k ∈ x, a ≤ k ∧ k < most
 | 0, a, x, h => by simp [partsL] at h; subst h; simp
 | m + 1, a, x, h => by
  simp only [partsL, List.mem_flatMap, List.mem_map, List.mem_range] at h
  obtain ⟨i, hi, y, hy, rfl⟩ := h
  intro k hk
  rcases List.mem_cons.1 hk with rfl | hk
  ·omega
  ·have := partsL_lt most m _ y hy k hk
   omega
/-- so many of the sets of some copies -/
def someV (s : List (List Nat)) (x : List Nat) (q : Nat) : List AV := ((someN s x).map listV).take q
theorem someV_succ {s : List (List Nat)} {x : List Nat} {q : Nat} (h : q < x.length) : someV s x (q + 1) = someV s x q ++ [.list 1 (natsV (s.getD (x.getD q 0) []))] := by
 unfold someV someN
 rw [List.map_map, List.take_succ_eq_append_getElem (by simpa using h), List.getElem_map]
 rw [List.getD_eq_getElem?_getD (l := x), List.getElem?_eq_getElem h]
 rfl
theorem someV_len {s : List (List Nat)} {x : List Nat} {q : Nat} (h : q ≤ x.length) : (someV s x q).length = q := by simp [someV]; omega
theorem someV_all {s : List (List Nat)} {x : List Nat} {q : Nat} (h : q = x.length) : someV s x q = (someN s x).map listV := List.take_of_length_le (by simp; omega)
theorem Needed_ok {l : List DesN} {hk n : Nat} (h : SetsOk l hk n) (t : Bool) (M : Nat) (hM : M < l.length) (i0 : Nat) (hi0 : i0 < (partsL l.length (M + 1) 0).length) (hyes : isN (setsN t hk l) n (partsL l.length (M + 1) 0)[i0] = true) (hno : ∀ i (hi : i < (partsL l.length (M + 1) 0).length), i < i0 → isN (setsN t hk l) n (partsL l.length (M + 1) 0)[i] = false) (hnom : ∀ k, k < M → ∀ x ∈ partsL l.length (k + 1) 0, isN (setsN t hk l) n x = false) :
  lim F 27 [iv (wayOf t), .list 2 (l.map setV)] = some (.tuple [.list 1 (natsV (partsL l.length (M + 1) 0)[i0]), iv 0], []) := by
 obtain ⟨⟨k1, k2⟩, k3, k4⟩ := h.k1
 have hl10 := h.l10
 have hl1 := h.l1
 have hO := open_ok h t
 have hrow := setsN_row (t := t) h
 have hr24 : ∀ r ∈ setsN t hk l, r.length = n ∧ ∀ x ∈ r, x < 2 ^ 24 := fun r hr => ⟨(hrow r hr).1, fun x hx => up24 ((hrow r hr).2 x hx) k2⟩
 have hJ := join_ok (setsN t hk l) n (by simp; exact h.l1) (by simp; omega) (by omega) hr24
 have hsl : (setsN t hk l).length = l.length := by simp
 generalize setsN t hk l = s at *
 have hjn : ∀ x : List Nat, isN s n x = decide (joinN (someN s x) n = joinN s n) := fun _ => rfl
 have hsg : ∀ k, k < l.length → (s.getD k []).length = n ∧ ∀ x ∈ s.getD k [], x < 2 ^ 24 := fun k hk' => by
  rw [List.getD_eq_getElem?_getD, List.getElem?_eq_getElem (by omega)]
  exact hr24 _ (List.getElem_mem _)
 have hg : ∀ k, k < l.length → (s.map listV)[k]? = some (.list 1 (natsV (s.getD k []))) := fun k hk' => sets_get (by omega)
 have n1 : (s.map listV).length = l.length := by simp [hsl]
 have hP := fun m hm => parts_all l.length (by omega) m hm
 have hpa : ∀ m : Nat, lim F 66 [iv 0, iv (l.length : Int), iv ((m : Int) + 1)] = some (.func 85 [.iptr (.agg [iv ((m : Int) + 1)]) 0, .iptr (.agg [iv 0]) 0, .iptr (.agg [iv (l.length : Int)]) 0], []) := fun m => by
  have := parts_ok 0 l.length (m + 1)
  rw [show ((m + 1 : Nat) : Int) = (m : Int) + 1 by omega, show ((0 : Nat) : Int) = 0 from rfl] at this
  exact this
 have n3 : (l.map setV).length = l.length := by simp
 generalize hj : joinN s n = j at *
 have hjlen : j.length = n := by rw [← hj]; simp
 have n2 : (natsV j).length = n := by simp [hjlen]
 have t2 : (natsV j).take n = natsV j := List.take_of_length_le (by omega)
 have P2 := nats_plain j
 have tS : (s.map listV).take l.length = s.map listV := List.take_of_length_le (by omega)
 have hE : ∀ x : List Nat, lim F 67 [.list 1 (natsV (joinN (someN s x) n)), .list 1 (natsV j)] = some (.bool (isN s n x), []) := fun x => by rw [hjn]; exact EqualN_ok _ _ (by simp; omega)
 have hJx : ∀ m, m < l.length → ∀ x ∈ partsL l.length (m + 1) 0, lim F 63 [.list 1 ((someN s x).map listV)] = some (.own 1 (natsV (joinN (someN s x) n)), []) := fun m hm x hx => by
  have e1 := partsL_len l.length (m + 1) 0 x hx
  have e2 := partsL_lt l.length (m + 1) 0 x hx
  refine join_ok _ n (by simp; omega) (by simp; omega) (by omega) fun r hr => ?_
  obtain ⟨k, hk', rfl⟩ := List.mem_map.1 hr
  exact hsg k (e2 k hk').2
 unfold openV at hO
 generalize l.map setV = es at *
 generalize hsm : s.map listV = sr at *
 generalize hjv : natsV j = jr at *
 refine lim_by (fn := a27) (k := 2) (res := [.cell 4 1 false, .cell 5 1 false]) rfl rfl rfl (by simp -implicitDefEqProofs (maxSteps := 2000000) (disch := first | exact tt_rfl rfl | omega | (simp only [go_sem] <;> omega) | fail) only [go_sem]) ?_
 simp -implicitDefEqProofs (maxSteps := 2000000) (disch := first | exact tt_rfl rfl | omega | (simp only [go_sem] <;> omega) | fail) only [go_sem]
 repeat (first | apply Wp.seqA | apply Wp.skipS | apply Wp.blockS | ((first | apply Wp.regS | apply Wp.condV | apply Wp.reg | apply Wp.condW | apply fin_ret); simp -implicitDefEqProofs (maxSteps := 2000000) (disch := first | exact tt_rfl rfl | omega | (simp only [go_sem] <;> omega) | fail) only [go_sem, hO, hJ, n1, n2, t2, P2, tS, ite_self] <;> try with_reducible rfl) | apply Wp.block | apply Wp.exitS | apply Wp.retS | apply Wp.exit | apply Wp.ret | apply Wp.skip)
 apply Wp.loopF M (fun i => ⟨[(1, .list 2 es), (4, .ptr 256 0 0), (5, .ptr 320 0 0), (6, .ptr 384 0 0), (8, .ptr 512 0 0), (9, iv ((i : Int) + 1))], [(256, .box [.slice 304096 0 0]), (320, .box [iv 0]), (384, .box [iv (hk : Int), .bool t, .slice 306146 0 l.length]), (512, .box [.slice 308192 0 n]), (304096, .arr 1 []), (306146, .arr 1 sr), (308192, .arr 1 jr)], [], 10000000⟩) (fun _ => True)
 ·simp -implicitDefEqProofs (maxSteps := 2000000) (disch := first | exact tt_rfl rfl | omega | (simp only [go_sem] <;> omega) | fail) only [go_sem, norm_eq, Ok.some]
  rfl
 ·trivial
 intro i hi _
 obtain ⟨hG, hK, hX⟩ := hP (i + 1) (by omega)
 have hG := hG 0 (by omega) []
 have hK := hK 0 (by omega)
 have hX := hX 0 (by omega)
 rw [List.nil_append] at hG
 rw [show ((0 : Nat) : Int) = 0 from rfl, show ((i + 1 : Nat) : Int) = (i : Int) + 1 by omega] at hG hK hX
 have hpi := hpa i
 by_cases h' : i < M
 ·repeat (first | apply Wp.seqA | apply Wp.skipS | apply Wp.blockS | ((first | apply Wp.regS | apply Wp.condV | apply Wp.reg | apply Wp.condW | apply fin_ret); simp -implicitDefEqProofs (maxSteps := 2000000) (disch := first | exact tt_rfl rfl | omega | (simp only [go_sem] <;> omega) | fail) only [go_sem, hpi, n3] <;> try with_reducible rfl) | apply Wp.block | apply Wp.exitS | apply Wp.retS | apply Wp.exit | apply Wp.ret | apply Wp.skip)
  refine Wp.rangeF (fun _ fr => fr = ⟨[(1, .list 2 es), (4, .ptr 256 0 0), (5, .ptr 320 0 0), (6, .ptr 384 0 0), (8, .ptr 512 0 0), (9, iv ((i : Int) + 1))], [(256, .box [.slice 304096 0 0]), (320, .box [iv 0]), (384, .box [iv (hk : Int), .bool t, .slice 306146 0 l.length]), (512, .box [.slice 308192 0 n]), (304096, .arr 1 []), (306146, .arr 1 sr), (308192, .arr 1 jr)], [], 10000000⟩) rfl rfl hG hK ?_ ?_ ?_
  ·simp -implicitDefEqProofs (maxSteps := 2000000) (disch := first | exact tt_rfl rfl | omega | (simp only [go_sem] <;> omega) | fail) only [go_sem, norm_eq, Ok.some]
  ·rintro k v fr hv rfl
   obtain ⟨hk', rfl⟩ := pV_get hv
   refine ⟨_, rfl, ?_⟩
   unfold partV
   have hv0 := hnom i h' _ (List.getElem_mem hk')
   have hm1 := List.getElem_mem hk'
   have hxl := partsL_len l.length (i + 1) 0 _ hm1
   have hxt := partsL_lt l.length (i + 1) 0 _ hm1
   have hJ1 := hJx i (by omega) _ hm1
   have hE1 := hE (partsL l.length (i + 1) 0)[k]
   rw [hv0] at hE1
   clear hm1 hv0
   generalize (partsL l.length (i + 1) 0)[k] = x at *
   have nx : (natsV x).length = i + 1 := by simp [hxl]
   have hgx : ∀ q, q < i + 1 → (natsV x)[q]? = some (iv ((x.getD q 0 : Nat) : Int)) := fun q hq => by
    rw [natsV, List.getElem?_map, List.getElem?_eq_getElem (by omega), List.getD_eq_getElem?_getD, List.getElem?_eq_getElem (by omega)]; rfl
   have hgs : ∀ q, q < i + 1 → sr[x.getD q 0]? = some (.list 1 (natsV (s.getD (x.getD q 0) []))) := fun q hq => hg _ (hxt _ (by
    rw [List.getD_eq_getElem?_getD, List.getElem?_eq_getElem (by omega)]
    exact List.getElem_mem _)).2
   have hxb : ∀ q, q < i + 1 → x.getD q 0 < l.length := fun q hq => (hxt _ (by
    rw [List.getD_eq_getElem?_getD, List.getElem?_eq_getElem (by omega)]
    exact List.getElem_mem _)).2
   repeat (first | apply Wp.seqA | apply Wp.skipS | apply Wp.blockS | ((first | apply Wp.regS | apply Wp.condV | apply Wp.reg | apply Wp.condW | apply fin_ret); simp -implicitDefEqProofs (maxSteps := 2000000) (disch := first | exact tt_rfl rfl | omega | (simp only [go_sem] <;> omega) | fail) only [go_sem, nx] <;> try with_reducible rfl) | apply Wp.block | apply Wp.exitS | apply Wp.retS | apply Wp.exit | apply Wp.ret | apply Wp.skip)
   apply Wp.loopF (i + 1) (fun q => ⟨[(1, .list 2 es), (4, .ptr 256 0 0), (5, .ptr 320 0 0), (6, .ptr 384 0 0), (8, .ptr 512 0 0), (9, iv ((i : Int) + 1)), (10, .list 1 (natsV x)), (11, .slice 704 0 q), (33, .list 1 (natsV x)), (34, iv ((i + 1 : Nat) : Int)), (35, iv (q : Int))], [(256, .box [.slice 304096 0 0]), (320, .box [iv 0]), (384, .box [iv (hk : Int), .bool t, .slice 306146 0 l.length]), (512, .box [.slice 308192 0 n]), (704, .arr 1 (someV s x q)), (304096, .arr 1 []), (306146, .arr 1 sr), (308192, .arr 1 jr)], [], 10000000⟩) (fun _ => True)
   ·simp -implicitDefEqProofs (maxSteps := 2000000) (disch := first | exact tt_rfl rfl | omega | (simp only [go_sem] <;> omega) | fail) only [go_sem, norm_eq, Ok.some]
    rfl
   ·trivial
   intro q hq _
   by_cases hq' : q < i + 1
   ·have a1 := hgx q hq'
    have a2 := hgs q hq'
    have a3 := someV_succ (s := s) (x := x) (q := q) (by omega)
    have a4 := someV_len (s := s) (x := x) (q := q) (by omega)
    have a5 := hxb q hq'
    rw [a3]
    generalize someV s x q = sv at *
    generalize natsV (s.getD (x.getD q 0) []) = rq at *
    generalize x.getD q 0 = xq at *
    repeat (first | apply Wp.seqA | apply Wp.skipS | apply Wp.blockS | ((first | apply Wp.regS | apply Wp.condV | apply Wp.reg | apply Wp.condW | apply fin_ret); simp -implicitDefEqProofs (maxSteps := 2000000) (disch := first | exact tt_rfl rfl | omega | (simp only [go_sem] <;> omega) | fail) only [go_sem, hq', a1, a2, a4, n1, Int.ofNat_lt, a5] <;> try with_reducible rfl) | apply Wp.block | apply Wp.exitS | apply Wp.retS | apply Wp.exit | apply Wp.ret | apply Wp.skip)
    apply round_next
    ·simp -implicitDefEqProofs (maxSteps := 2000000) (disch := first | exact tt_rfl rfl | omega | (simp only [go_sem] <;> omega) | fail) only [go_sem, norm_eq, Ok.some]; with_reducible rfl
    exact ⟨hq', by simp, trivial⟩
   ·obtain rfl : q = i + 1 := by omega
    have a4 := someV_len (s := s) (x := x) (q := i + 1) (by omega)
    have a6 := someV_all (s := s) (x := x) (q := i + 1) (by omega)
    have a7 : (someN s x).length = i + 1 := by simp [hxl]
    have a8 : ((someN s x).map listV).take (i + 1) = (someN s x).map listV := List.take_of_length_le (by simp [hxl])
    have b1 : (natsV (joinN (someN s x) n)).length = n := by simp
    have b2 : (natsV (joinN (someN s x) n)).take n = natsV (joinN (someN s x) n) := List.take_of_length_le (by simp)
    have b3 := nats_plain (joinN (someN s x) n)
    have b4 : ((someN s x).map listV).length = i + 1 := by simp [hxl]
    rw [a6]
    generalize natsV (joinN (someN s x) n) = jx at *
    generalize (someN s x).map listV = sx at *
    clear hO hJ hG hK hX hpi hP hpa hJx hE hg hsg hr24 hrow hgx hgs hxb hxt hnom hno hyes hjn a4 a6 a7
    repeat (first | apply Wp.seqA | apply Wp.skipS | apply Wp.blockS | ((first | apply Wp.regS | apply Wp.condV | apply Wp.reg | apply Wp.condW | apply fin_ret); simp -implicitDefEqProofs (maxSteps := 2000000) (disch := first | exact tt_rfl rfl | omega | (simp only [go_sem] <;> omega) | fail) only [go_sem, Int.lt_irrefl, b4, a8, hJ1, hE1, b1, b2, b3, n2, t2, P2] <;> try with_reducible rfl) | apply Wp.block | apply Wp.exitS | apply Wp.retS | apply Wp.exit | apply Wp.ret | apply Wp.skip)
    apply block_norm
    apply round_next
    ·simp -implicitDefEqProofs (maxSteps := 2000000) (disch := first | exact tt_rfl rfl | omega | (simp only [go_sem] <;> omega) | fail) only [go_sem, norm_eq, Ok.some]; with_reducible rfl
    trivial
  ·rintro fr rfl
   apply block_norm
   repeat (first | apply Wp.seqA | apply Wp.skipS | apply Wp.blockS | ((first | apply Wp.regS | apply Wp.condV | apply Wp.reg | apply Wp.condW | apply fin_ret); simp -implicitDefEqProofs (maxSteps := 2000000) (disch := first | exact tt_rfl rfl | omega | (simp only [go_sem] <;> omega) | fail) only [go_sem] <;> try with_reducible rfl) | apply Wp.block | apply Wp.exitS | apply Wp.retS | apply Wp.exit | apply Wp.ret | apply Wp.skip)
   apply round_next
   ·simp -implicitDefEqProofs (maxSteps := 2000000) (disch := first | exact tt_rfl rfl | omega | (simp only [go_sem] <;> omega) | fail) only [go_sem, norm_eq, Ok.some]; with_reducible rfl
   exact ⟨h', by simp, trivial⟩
 ·obtain rfl : i = M := by omega
  repeat (first | apply Wp.seqA | apply Wp.skipS | apply Wp.blockS | ((first | apply Wp.regS | apply Wp.condV | apply Wp.reg | apply Wp.condW | apply fin_ret); simp -implicitDefEqProofs (maxSteps := 2000000) (disch := first | exact tt_rfl rfl | omega | (simp only [go_sem] <;> omega) | fail) only [go_sem, hpi, n3] <;> try with_reducible rfl) | apply Wp.block | apply Wp.exitS | apply Wp.retS | apply Wp.exit | apply Wp.ret | apply Wp.skip)
  refine Wp.rangeX (fun _ fr => fr = ⟨[(1, .list 2 es), (4, .ptr 256 0 0), (5, .ptr 320 0 0), (6, .ptr 384 0 0), (8, .ptr 512 0 0), (9, iv ((i : Int) + 1))], [(256, .box [.slice 304096 0 0]), (320, .box [iv 0]), (384, .box [iv (hk : Int), .bool t, .slice 306146 0 l.length]), (512, .box [.slice 308192 0 n]), (304096, .arr 1 []), (306146, .arr 1 sr), (308192, .arr 1 jr)], [], 10000000⟩) i0 _ rfl rfl hG (by rw [pV, List.getElem?_map, List.getElem?_eq_getElem hi0]; rfl) (hX i0 hi0) ?_ ?_ ?_
  ·simp -implicitDefEqProofs (maxSteps := 2000000) (disch := first | exact tt_rfl rfl | omega | (simp only [go_sem] <;> omega) | fail) only [go_sem, norm_eq, Ok.some]
  ·rintro k v fr hki hv rfl
   obtain ⟨hk', rfl⟩ := pV_get hv
   refine ⟨_, rfl, ?_⟩
   unfold partV
   have hv0 := hno k hk' hki
   have hm1 := List.getElem_mem hk'
   have hxl := partsL_len l.length (i + 1) 0 _ hm1
   have hxt := partsL_lt l.length (i + 1) 0 _ hm1
   have hJ1 := hJx i (by omega) _ hm1
   have hE1 := hE (partsL l.length (i + 1) 0)[k]
   rw [hv0] at hE1
   clear hm1 hv0 hnom hno hyes
   generalize (partsL l.length (i + 1) 0)[k] = x at *
   have nx : (natsV x).length = i + 1 := by simp [hxl]
   have hgx : ∀ q, q < i + 1 → (natsV x)[q]? = some (iv ((x.getD q 0 : Nat) : Int)) := fun q hq => by
    rw [natsV, List.getElem?_map, List.getElem?_eq_getElem (by omega), List.getD_eq_getElem?_getD, List.getElem?_eq_getElem (by omega)]; rfl
   have hgs : ∀ q, q < i + 1 → sr[x.getD q 0]? = some (.list 1 (natsV (s.getD (x.getD q 0) []))) := fun q hq => hg _ (hxt _ (by
    rw [List.getD_eq_getElem?_getD, List.getElem?_eq_getElem (by omega)]
    exact List.getElem_mem _)).2
   have hxb : ∀ q, q < i + 1 → x.getD q 0 < l.length := fun q hq => (hxt _ (by
    rw [List.getD_eq_getElem?_getD, List.getElem?_eq_getElem (by omega)]
    exact List.getElem_mem _)).2
   repeat (first | apply Wp.seqA | apply Wp.skipS | apply Wp.blockS | ((first | apply Wp.regS | apply Wp.condV | apply Wp.reg | apply Wp.condW | apply fin_ret); simp -implicitDefEqProofs (maxSteps := 2000000) (disch := first | exact tt_rfl rfl | omega | (simp only [go_sem] <;> omega) | fail) only [go_sem, nx] <;> try with_reducible rfl) | apply Wp.block | apply Wp.exitS | apply Wp.retS | apply Wp.exit | apply Wp.ret | apply Wp.skip)
   apply Wp.loopF (i + 1) (fun q => ⟨[(1, .list 2 es), (4, .ptr 256 0 0), (5, .ptr 320 0 0), (6, .ptr 384 0 0), (8, .ptr 512 0 0), (9, iv ((i : Int) + 1)), (10, .list 1 (natsV x)), (11, .slice 704 0 q), (33, .list 1 (natsV x)), (34, iv ((i + 1 : Nat) : Int)), (35, iv (q : Int))], [(256, .box [.slice 304096 0 0]), (320, .box [iv 0]), (384, .box [iv (hk : Int), .bool t, .slice 306146 0 l.length]), (512, .box [.slice 308192 0 n]), (704, .arr 1 (someV s x q)), (304096, .arr 1 []), (306146, .arr 1 sr), (308192, .arr 1 jr)], [], 10000000⟩) (fun _ => True)
   ·simp -implicitDefEqProofs (maxSteps := 2000000) (disch := first | exact tt_rfl rfl | omega | (simp only [go_sem] <;> omega) | fail) only [go_sem, norm_eq, Ok.some]
    rfl
   ·trivial
   intro q hq _
   by_cases hq' : q < i + 1
   ·have a1 := hgx q hq'
    have a2 := hgs q hq'
    have a3 := someV_succ (s := s) (x := x) (q := q) (by omega)
    have a4 := someV_len (s := s) (x := x) (q := q) (by omega)
    have a5 := hxb q hq'
    rw [a3]
    generalize someV s x q = sv at *
    generalize natsV (s.getD (x.getD q 0) []) = rq at *
    generalize x.getD q 0 = xq at *
    repeat (first | apply Wp.seqA | apply Wp.skipS | apply Wp.blockS | ((first | apply Wp.regS | apply Wp.condV | apply Wp.reg | apply Wp.condW | apply fin_ret); simp -implicitDefEqProofs (maxSteps := 2000000) (disch := first | exact tt_rfl rfl | omega | (simp only [go_sem] <;> omega) | fail) only [go_sem, hq', a1, a2, a4, n1, Int.ofNat_lt, a5] <;> try with_reducible rfl) | apply Wp.block | apply Wp.exitS | apply Wp.retS | apply Wp.exit | apply Wp.ret | apply Wp.skip)
    apply round_next
    ·simp -implicitDefEqProofs (maxSteps := 2000000) (disch := first | exact tt_rfl rfl | omega | (simp only [go_sem] <;> omega) | fail) only [go_sem, norm_eq, Ok.some]; with_reducible rfl
    exact ⟨hq', by simp, trivial⟩
   ·obtain rfl : q = i + 1 := by omega
    have a4 := someV_len (s := s) (x := x) (q := i + 1) (by omega)
    have a6 := someV_all (s := s) (x := x) (q := i + 1) (by omega)
    have a7 : (someN s x).length = i + 1 := by simp [hxl]
    have a8 : ((someN s x).map listV).take (i + 1) = (someN s x).map listV := List.take_of_length_le (by simp [hxl])
    have b1 : (natsV (joinN (someN s x) n)).length = n := by simp
    have b2 : (natsV (joinN (someN s x) n)).take n = natsV (joinN (someN s x) n) := List.take_of_length_le (by simp)
    have b3 := nats_plain (joinN (someN s x) n)
    have b4 : ((someN s x).map listV).length = i + 1 := by simp [hxl]
    rw [a6]
    generalize natsV (joinN (someN s x) n) = jx at *
    generalize (someN s x).map listV = sx at *
    clear hO hJ hG hK hX hpi hP hpa hJx hE hg hsg hr24 hrow hgx hgs hxb hxt hjn a4 a6 a7
    repeat (first | apply Wp.seqA | apply Wp.skipS | apply Wp.blockS | ((first | apply Wp.regS | apply Wp.condV | apply Wp.reg | apply Wp.condW | apply fin_ret); simp -implicitDefEqProofs (maxSteps := 2000000) (disch := first | exact tt_rfl rfl | omega | (simp only [go_sem] <;> omega) | fail) only [go_sem, Int.lt_irrefl, b4, a8, hJ1, hE1, b1, b2, b3, n2, t2, P2] <;> try with_reducible rfl) | apply Wp.block | apply Wp.exitS | apply Wp.retS | apply Wp.exit | apply Wp.ret | apply Wp.skip)
    apply block_norm
    apply round_next
    ·simp -implicitDefEqProofs (maxSteps := 2000000) (disch := first | exact tt_rfl rfl | omega | (simp only [go_sem] <;> omega) | fail) only [go_sem, norm_eq, Ok.some]; with_reducible rfl
    trivial
  ·rintro fr rfl
   refine ⟨_, rfl, ?_⟩
   unfold partV
   have hv0 := hyes
   have hm1 := List.getElem_mem hi0
   have hxl := partsL_len l.length (i + 1) 0 _ hm1
   have hxt := partsL_lt l.length (i + 1) 0 _ hm1
   have hJ1 := hJx i (by omega) _ hm1
   have hE1 := hE (partsL l.length (i + 1) 0)[i0]
   rw [hv0] at hE1
   clear hm1 hv0 hno hnom hyes
   generalize (partsL l.length (i + 1) 0)[i0] = x at *
   have nx : (natsV x).length = i + 1 := by simp [hxl]
   have hgx : ∀ q, q < i + 1 → (natsV x)[q]? = some (iv ((x.getD q 0 : Nat) : Int)) := fun q hq => by
    rw [natsV, List.getElem?_map, List.getElem?_eq_getElem (by omega), List.getD_eq_getElem?_getD, List.getElem?_eq_getElem (by omega)]; rfl
   have hgs : ∀ q, q < i + 1 → sr[x.getD q 0]? = some (.list 1 (natsV (s.getD (x.getD q 0) []))) := fun q hq => hg _ (hxt _ (by
    rw [List.getD_eq_getElem?_getD, List.getElem?_eq_getElem (by omega)]
    exact List.getElem_mem _)).2
   have hxb : ∀ q, q < i + 1 → x.getD q 0 < l.length := fun q hq => (hxt _ (by
    rw [List.getD_eq_getElem?_getD, List.getElem?_eq_getElem (by omega)]
    exact List.getElem_mem _)).2
   repeat (first | apply Wp.seqA | apply Wp.skipS | apply Wp.blockS | ((first | apply Wp.regS | apply Wp.condV | apply Wp.reg | apply Wp.condW | apply fin_ret); simp -implicitDefEqProofs (maxSteps := 2000000) (disch := first | exact tt_rfl rfl | omega | (simp only [go_sem] <;> omega) | fail) only [go_sem, nx] <;> try with_reducible rfl) | apply Wp.block | apply Wp.exitS | apply Wp.retS | apply Wp.exit | apply Wp.ret | apply Wp.skip)
   apply Wp.loopF (i + 1) (fun q => ⟨[(1, .list 2 es), (4, .ptr 256 0 0), (5, .ptr 320 0 0), (6, .ptr 384 0 0), (8, .ptr 512 0 0), (9, iv ((i : Int) + 1)), (10, .list 1 (natsV x)), (11, .slice 704 0 q), (33, .list 1 (natsV x)), (34, iv ((i + 1 : Nat) : Int)), (35, iv (q : Int))], [(256, .box [.slice 304096 0 0]), (320, .box [iv 0]), (384, .box [iv (hk : Int), .bool t, .slice 306146 0 l.length]), (512, .box [.slice 308192 0 n]), (704, .arr 1 (someV s x q)), (304096, .arr 1 []), (306146, .arr 1 sr), (308192, .arr 1 jr)], [], 10000000⟩) (fun _ => True)
   ·simp -implicitDefEqProofs (maxSteps := 2000000) (disch := first | exact tt_rfl rfl | omega | (simp only [go_sem] <;> omega) | fail) only [go_sem, norm_eq, Ok.some]
    rfl
   ·trivial
   intro q hq _
   by_cases hq' : q < i + 1
   ·have a1 := hgx q hq'
    have a2 := hgs q hq'
    have a3 := someV_succ (s := s) (x := x) (q := q) (by omega)
    have a4 := someV_len (s := s) (x := x) (q := q) (by omega)
    have a5 := hxb q hq'
    rw [a3]
    generalize someV s x q = sv at *
    generalize natsV (s.getD (x.getD q 0) []) = rq at *
    generalize x.getD q 0 = xq at *
    repeat (first | apply Wp.seqA | apply Wp.skipS | apply Wp.blockS | ((first | apply Wp.regS | apply Wp.condV | apply Wp.reg | apply Wp.condW | apply fin_ret); simp -implicitDefEqProofs (maxSteps := 2000000) (disch := first | exact tt_rfl rfl | omega | (simp only [go_sem] <;> omega) | fail) only [go_sem, hq', a1, a2, a4, n1, Int.ofNat_lt, a5] <;> try with_reducible rfl) | apply Wp.block | apply Wp.exitS | apply Wp.retS | apply Wp.exit | apply Wp.ret | apply Wp.skip)
    apply round_next
    ·simp -implicitDefEqProofs (maxSteps := 2000000) (disch := first | exact tt_rfl rfl | omega | (simp only [go_sem] <;> omega) | fail) only [go_sem, norm_eq, Ok.some]; with_reducible rfl
    exact ⟨hq', by simp, trivial⟩
   ·obtain rfl : q = i + 1 := by omega
    have a4 := someV_len (s := s) (x := x) (q := i + 1) (by omega)
    have a6 := someV_all (s := s) (x := x) (q := i + 1) (by omega)
    have a7 : (someN s x).length = i + 1 := by simp [hxl]
    have a8 : ((someN s x).map listV).take (i + 1) = (someN s x).map listV := List.take_of_length_le (by simp [hxl])
    have b1 : (natsV (joinN (someN s x) n)).length = n := by simp
    have b2 : (natsV (joinN (someN s x) n)).take n = natsV (joinN (someN s x) n) := List.take_of_length_le (by simp)
    have b3 := nats_plain (joinN (someN s x) n)
    have b4 : ((someN s x).map listV).length = i + 1 := by simp [hxl]
    rw [a6]
    generalize natsV (joinN (someN s x) n) = jx at *
    generalize (someN s x).map listV = sx at *
    clear hO hJ hG hK hX hpi hP hpa hJx hE hg hsg hr24 hrow hgx hgs hxb hxt hjn a4 a6 a7
    repeat (first | apply Wp.seqA | apply Wp.skipS | apply Wp.blockS | ((first | apply Wp.regS | apply Wp.condV | apply Wp.reg | apply Wp.condW | apply fin_ret); simp -implicitDefEqProofs (maxSteps := 2000000) (disch := first | exact tt_rfl rfl | omega | (simp only [go_sem] <;> omega) | fail) only [go_sem, Int.lt_irrefl, b4, a8, hJ1, hE1, b1, b2, b3, n2, t2, P2] <;> try with_reducible rfl) | apply Wp.block | apply Wp.exitS | apply Wp.retS | apply Wp.exit | apply Wp.ret | apply Wp.skip)
end Go.Abs
