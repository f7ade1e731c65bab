/-
 Several texts: LTurned, LTurnedT.
-/
import Derived.Test.YtodpkfillohplaaDoorY16
import Derived.Test.YtodpkfillohplaaDoorLLike
import Derived.Test.YtodpkfillohplaaDoorKnown
set_option linter.all false
namespace Go.Abs
set_option maxRecDepth 10000
set_option maxHeartbeats 8000000
theorem turnL_two (t : Bool) (hk : Nat) (r : List Nat) : turnL true hk (turnL t hk r) = turnL (!t) hk r := by
 unfold turnL;rw [List.map_map];refine List.map_congr_left fun y _ => ?_
 cases t
 ·rfl
 ·exact turnR_twice true hk y
theorem turnL_not (t : Bool) (hk : Nat) (r : List Nat) : turnL (!t) hk (turnL true hk r) = turnL t hk r := by
 unfold turnL;rw [List.map_map];refine List.map_congr_left fun y _ => ?_
 cases t
 ·exact turnR_twice true hk y
 ·rfl
theorem setsN_turn {l : List DesN} {hk : Nat} (h : ∀ d ∈ l, d.hk = hk) (t : Bool) : setsN (!t) hk (l.map turnA) = setsN t hk l := by
 unfold setsN;rw [List.map_map];refine List.map_congr_left fun d hd => ?_
 show turnL (!t) hk (turnL true d.hk d.rows) = _
 rw [h d hd];exact turnL_not t hk d.rows
theorem turnA_ok {d : DesN} (h : d.Ok) : (turnA d).Ok := ⟨h.h1, h.h24, by show 1 ≤ (turnL _ _ _).length; rw [turnL_len]; exact h.r1, by show (turnL _ _ _).length ≤ 60; rw [turnL_len]; exact h.r60, turnL_lt h.lt⟩
theorem LikeO.turn {x : PressB} {d : DesN} (h : LikeO x d) : LikeO x (turnA d) := ⟨turnA_ok h.ok, h.hk, by show (turnL _ _ _).length = _; rw [turnL_len]; exact h.rows⟩
theorem SetsOk.turn {l : List DesN} {hk n : Nat} (h : SetsOk l hk n) : SetsOk (l.map turnA) hk n where
 l1 := by simpa using h.l1
 l10 := by simpa using h.l10
 ok := fun d hd => by
  obtain ⟨e, he, rfl⟩ := List.mem_map.1 hd;exact turnA_ok (h.ok e he)
 hk := fun d hd => by
  obtain ⟨e, he, rfl⟩ := List.mem_map.1 hd;exact h.hk e he
 rows := fun d hd => by
  obtain ⟨e, he, rfl⟩ := List.mem_map.1 hd;show (turnL _ _ _).length = n
  rw [turnL_len]; exact h.rows e he
theorem diff_self (d : DesN) : diffN d d = 0 := by
 have : ∀ i, diffTo d d i = 0 := fun i => by
  induction i with
  | zero => rfl
  | succ i ih => unfold diffTo; rw [ih, Nat.xor_self]; simp [bitsN]
 exact this _
theorem differ_same {x : PressB} {a : DesN} (ha : LikeO x a) : lim F 52 [.agg [iv ((origN x).hk : Int), .list 1 (natsV a.rows)], .agg [iv ((origN x).hk : Int), .list 1 (natsV a.rows)]] = some (iv 0, []) := by
 have h := differ_like ha ha;rw [diff_self] at h;exact h
theorem turned_list {l : List DesN} {hk n : Nat} (h : SetsOk l hk n) : lim F 55 [.list 2 (l.map setV)] = some (.ownT 2 ((l.map turnA).map tvN), []) := by
 have := turned_ok l h.ok (by have := h.l10; omega)
 rw [List.map_map];exact this
theorem turned_one {x : PressB} {d : DesN} (h : LikeO x d) : lim F 55 [.list 2 [.agg [iv ((origN x).hk : Int), .list 1 (natsV d.rows)]]] = some (.ownT 2 [.agg [iv ((origN x).hk : Int), .own 1 (natsV (turnA d).rows)]], []) := by
 have := turned_ok [d] (fun y hy => by rw [List.mem_singleton.1 hy]; exact h.ok) (by simp)
 simp only [List.map_cons, List.map_nil] at this;rw [like_agg h] at this;have e : tvN (turnA d) = .agg [iv ((origN x).hk : Int), .own 1 (natsV (turnA d).rows)] := by
  unfold tvN;rw [h.turn.hk]
 rw [e] at this;exact this
theorem turn_cells (x : PressB) (N : Nat) : ∀ i (h : i < (madeTo x N).l.length), (((madeTo x N).l.map turnA).map tvN)[i]? = some (.agg [iv ((origN x).hk : Int), .own 1 (natsV (turnA (madeTo x N).l[i]).rows)]) ∧ ((((madeTo x N).l.map turnA).map tvN).flatMap AV.cells)[i * 2 + 1]? = some (.own 1 (natsV (turnA (madeTo x N).l[i]).rows)) ∧ (natsV (turnA (madeTo x N).l[i]).rows).length = (origN x).rows.length := fun i h => by
 have hd := (madeTo_like x N _ (List.getElem_mem h)).turn;have h1 : (((madeTo x N).l.map turnA).map tvN)[i]? = some (.agg [iv ((origN x).hk : Int), .own 1 (natsV (turnA (madeTo x N).l[i]).rows)]) := by
  rw [List.getElem?_map, List.getElem?_map, List.getElem?_eq_getElem h];show some (tvN _) = _
  unfold tvN;rw [hd.hk]
 refine ⟨h1, cell_two (fun e he => ?_) h1, by simp [hd.rows]⟩
 obtain ⟨d, _, rfl⟩ := List.mem_map.1 he;rfl
theorem count_same {l : List DesN} {hk n : Nat} (h : SetsOk l hk n) (t : Bool) (v : Nat) (hv : v ≤ 1000) (hs : setsN (!t) hk (l.map turnA) = setsN t hk l) : ∃ cn ce : Int, lim F 32 [iv (wayOf t), .list 2 (l.map setV), iv (v : Int)] = some (.tuple [iv cn, iv ce], []) ∧ lim F 32 [iv (wayOf (!t)), .list 2 ((l.map turnA).map setV), iv (v : Int)] = some (.tuple [iv cn, iv ce], []) := by
 have hl : (l.map turnA).length = l.length := by simp
 have hb := moreTo_le (setsN t hk l) (joinN (setsN t hk l) n) n (v : Int) l.length;by_cases hm : moreTo (setsN t hk l) (joinN (setsN t hk l) n) n (v : Int) l.length < 0
 ·exact ⟨_, _, (Count_no h t v).2 ⟨by omega, by omega⟩ hm, (Count_no h.turn (!t) v).2 ⟨by omega, by omega⟩ (by rw [hs, hl]; exact hm)⟩
 ·obtain ⟨m, hm'⟩ : ∃ m : Nat, moreTo (setsN t hk l) (joinN (setsN t hk l) n) n (v : Int) l.length = (m : Int) := ⟨_, (Int.toNat_of_nonneg (by omega)).symm⟩
  have c1 := Count_ok h t v m (by omega) (by omega) hm' (by omega)
  have c2 := Count_ok h.turn (!t) v m (by omega) (by omega) (by rw [hs, hl]; exact hm') (by omega)
  rw [hs] at c2;by_cases e : sumW (gapsL hk n (joinN (setsN t hk l) n)) (m + 1) = capK
  ·rw [if_pos e] at c1 c2
   exact ⟨_, _, c1, c2⟩
  ·rw [if_neg e] at c1 c2
   exact ⟨_, _, c1, c2⟩
theorem tree_same {l : List DesN} {hk n : Nat} (h : SetsOk l hk n) (t : Bool) (hs : setsN (!t) hk (l.map turnA) = setsN t hk l) : ∃ (T : List Int) (c : Nat), T.length ≤ 10 ∧ c ≤ 100000 ∧ lim F 26 [iv (wayOf t), .list 2 (l.map setV)] = some (.tuple [.own 1 (intsV T), iv (c : Int), iv 0], []) ∧ lim F 26 [iv (wayOf (!t)), .list 2 ((l.map turnA).map setV)] = some (.tuple [.own 1 (intsV T), iv (c : Int), iv 0], []) := by
 have hl : (l.map turnA).length = l.length := by simp
 have c1 := Tree_ok h t;have c2 := Tree_ok h.turn (!t);rw [hs, hl] at c2;have hle := treeS_le (setsN t hk l) (joinN (setsN t hk l) n) n l.length;have h4 : 24 * n * l.length ≤ 24 * 60 * 10 := Nat.mul_le_mul (Nat.mul_le_mul (Nat.le_refl _) h.k1.2.2) h.l10;exact ⟨_, _, by rw [treeL_len]; exact h.l10, by omega, c1, c2⟩
theorem need_same {l : List DesN} {hk n : Nat} (h : SetsOk l hk n) (t : Bool) (hs : setsN (!t) hk (l.map turnA) = setsN t hk l) : ∃ nd : List Nat, nd.length ≤ 10 ∧ lim F 27 [iv (wayOf t), .list 2 (l.map setV)] = some (.tuple [.list 1 (natsV nd), iv 0], []) ∧ lim F 27 [iv (wayOf (!t)), .list 2 ((l.map turnA).map setV)] = some (.tuple [.list 1 (natsV nd), iv 0], []) := by
 have hl : (l.map turnA).length = l.length := by simp
 have hl1 := h.l1;have hall : isN (setsN t hk l) n (List.range l.length) = true := by
  have := isN_all (setsN t hk l) n;simpa using this
 obtain ⟨M, hM, i0, hi0, h1, h2, h3⟩ := needed_ex (setsN t hk l) n l.length hl1 hall;have c1 := Needed_ok h t M hM i0 hi0 h1 h2 h3;have he := needed_eq (setsN t hk l) n l.length hl1 hall M i0 hi0 h1 h2 h3;have hb := bestR_len (setsN t hk l) n l.length (2 ^ l.length - 1);rw [he] at hb;have c2 := Needed_ok h.turn (!t) M (by rw [hl]; exact hM) i0 (by rw [hl]; exact hi0) (by simpa only [hs, hl] using h1) (by simpa only [hs, hl] using h2) (by simpa only [hs, hl] using h3)
 simp only [hl] at c2;exact ⟨_, Nat.le_trans hb h.l10, c1, c2⟩
theorem orig_same {l : List DesN} {hk n : Nat} (h : SetsOk l hk n) (t : Bool) (v : Nat) (hv : v ≤ 1000) (hs : setsN (!t) hk (l.map turnA) = setsN t hk l) :
  (lim F 31 [iv (wayOf t), .list 2 (l.map setV), iv (v : Int)] = some (.tuple [.agg [iv 0, .own 1 []], .agg [iv 0, .own 1 []], iv 9], []) ∧ lim F 31 [iv (wayOf (!t)), .list 2 ((l.map turnA).map setV), iv (v : Int)] = some (.tuple [.agg [iv 0, .own 1 []], .agg [iv 0, .own 1 []], iv 9], [])) ∨
  (∃ S C : List Nat, S.length = n ∧ C.length = n ∧ (∀ r ∈ S, r < 2 ^ hk) ∧ (∀ r ∈ C, r < 2 ^ hk) ∧ lim F 31 [iv (wayOf t), .list 2 (l.map setV), iv (v : Int)] = some (.tuple [.agg [iv (hk : Int), .own 1 (natsV S)], .agg [iv (hk : Int), .own 1 (natsV C)], iv 0], []) ∧
   lim F 31 [iv (wayOf (!t)), .list 2 ((l.map turnA).map setV), iv (v : Int)] = some (.tuple [.agg [iv (hk : Int), .own 1 (natsV (turnL true hk C))], .agg [iv (hk : Int), .own 1 (natsV (turnL true hk S))], iv 0], [])) := by
 have hl : (l.map turnA).length = l.length := by simp
 by_cases hm : moreTo (setsN t hk l) (joinN (setsN t hk l) n) n (v : Int) l.length < 0
 ·exact Or.inl ⟨(Original_no h t v).2 ⟨by omega, by omega⟩ hm, (Original_no h.turn (!t) v).2 ⟨by omega, by omega⟩ (by rw [hs, hl]; exact hm)⟩
 ·obtain ⟨m, hm'⟩ : ∃ m : Nat, moreTo (setsN t hk l) (joinN (setsN t hk l) n) n (v : Int) l.length = (m : Int) := ⟨_, (Int.toNat_of_nonneg (by omega)).symm⟩
  have c1 := Original_ok h t v m (by omega) (by omega) hm'
  have c2 := Original_ok h.turn (!t) v m (by omega) (by omega) (by rw [hs, hl]; exact hm')
  rw [hs] at c2;have hj1 : (joinN (setsN t hk l) n).length = n := joinN_len _ _;have hj2 : ∀ r ∈ joinN (setsN t hk l) n, r < 2 ^ hk := fun r hr => by
   obtain ⟨q, hq, rfl⟩ := List.mem_map.1 hr;exact joinAt_lt (n := n) (setsN_row h) (List.mem_range.1 hq)
  generalize joinN (setsN t hk l) n = J at *;have e1 : sureN (!t) hk n m J = turnL true hk (canN t hk n m J) := by
   unfold sureN canN;rw [turnL_two];cases t <;> rfl
  have e2 : canN (!t) hk n m J = turnL true hk (sureN t hk n m J) := by
   unfold sureN canN;rw [turnL_two];cases t <;> rfl
  rw [e1, e2] at c2;exact Or.inr ⟨sureN t hk n m J, canN t hk n m J, by unfold sureN; rw [turnL_len, (pickJ_len hj1).1], by unfold canN; rw [turnL_len, (pickJ_len hj1).2], turnL_lt (pickJ_lt hj2).1, turnL_lt (pickJ_lt hj2).2, c1, c2⟩
theorem turned_main (kn : lim F 14 [] = some (.bool true, [])) (x : PressB) (most : ByteB) (at_ : ByteB × ByteB) : lim F 12 [x.av, .int .u8 (most.1 : Int), .agg [.int .u8 (at_.1.1 : Int), .int .u8 (at_.2.1 : Int)]] = some (.bool true, []) := by
 obtain ⟨N, hN⟩ : ∃ N, N = manyC x := ⟨_, rfl⟩;have hN1 : 1 ≤ N ∧ N ≤ 8 := by rw [hN]; unfold manyC; omega
 have hW := way_ok x;have hM := made_ok x;rw [← hN] at hM;have hS := madeTo_sets x hN1.1 (show N ≤ 10 by omega)
 have hS' := hS.turn;have hO := ownS_ok hS;have hU := turned_list hS;have hF := First_ok hS (wayB x);have hF' := First_ok hS' (!wayB x);have hlen := (madeTo_len x N).1;have hlen' : ((madeTo x N).l.map turnA).length = N := by simp [hlen]
 have hsets := setsN_turn (hk := (origN x).hk) (fun d hd => hS.hk d hd) (wayB x)
 have lf := first_like x hS;have hJ : ∃ J, J = joinN (setsN (wayB x) (origN x).hk (madeTo x N).l) (origN x).rows.length := ⟨_, rfl⟩;have hbf : firstN (!wayB x) (origN x).hk (origN x).rows.length ((madeTo x N).l.map turnA) = turnA (firstN (wayB x) (origN x).hk (origN x).rows.length (madeTo x N).l) := by
  unfold firstN;rw [hsets];show (⟨_, turnL (!wayB x) _ _⟩ : DesN) = ⟨_, turnL true _ (turnL (wayB x) _ _)⟩
  rw [turnL_two]
 rw [hbf] at hF';have lf' := lf.turn;have l0 : 0 < (madeTo x N).l.length := by omega
 have ld0 := madeTo_like x N _ (List.getElem_mem l0);have hz1 := sized_like lf ld0;have hz2 := sized_like lf' ld0;have hu1 := turned_one lf;have hd1 := differ_same lf';have hat0 : ((madeTo x N).l.map setV)[0]? = some (.agg [iv ((origN x).hk : Int), .list 1 (natsV (madeTo x N).l[0].rows)]) := by
  rw [setV_at l0, like_agg ld0]
 have hn6 := orig_rows x;have hback : (2 : Int) - ((x.way.1 % 2 : Nat) : Int) = wayOf (!wayB x) := by
  unfold wayB;rcases Nat.mod_two_eq_zero_or_one x.way.1 with e | e <;> rw [e] <;> rfl
 have hwu : IntKind.wrap .u8 (wayOf (!wayB x)) = wayOf (!wayB x) := by cases wayB x <;> rfl
 have hwi : IntKind.wrap .i64 (wayOf (!wayB x)) = wayOf (!wayB x) := by cases wayB x <;> rfl
 have hw2 : Int.tmod (x.way.1 : Int) 2 = ((x.way.1 % 2 : Nat) : Int) := rfl;have hfe := tvN_fe (madeTo x N).l;have hfe' := tvN_fe ((madeTo x N).l.map turnA);have hLl : ((madeTo x N).l.map setV).length = N := by simp [hlen]
 have hTl : ((madeTo x N).l.map tvN).length = N := by simp [hlen]
 have hTl' : (((madeTo x N).l.map turnA).map tvN).length = N := by simp [hlen]
 have hFl : (natsV (firstN (wayB x) (origN x).hk (origN x).rows.length (madeTo x N).l).rows).length = (origN x).rows.length := by simp [firstN]
 have hFl' : (natsV (turnA (firstN (wayB x) (origN x).hk (origN x).rows.length (madeTo x N).l)).rows).length = (origN x).rows.length := by simp [lf'.rows]
 have hFp := nats_plain (firstN (wayB x) (origN x).hk (origN x).rows.length (madeTo x N).l).rows;have hFp' := nats_plain (turnA (firstN (wayB x) (origN x).hk (origN x).rows.length (madeTo x N).l)).rows;generalize hFR : natsV (firstN (wayB x) (origN x).hk (origN x).rows.length (madeTo x N).l).rows = FR at *;generalize natsV (turnA (firstN (wayB x) (origN x).hk (origN x).rows.length (madeTo x N).l)).rows = FS at *;have tFR : FR.take (origN x).rows.length = FR := List.take_of_length_le (by omega)
 have tFS : FS.take (origN x).rows.length = FS := List.take_of_length_le (by omega)
 have tAA : ((madeTo x N).l.map setV).take N = (madeTo x N).l.map setV := List.take_of_length_le (by omega)
 have hc1 : ([AV.agg [iv ((origN x).hk : Int), .own 1 FS]].flatMap AV.cells)[1]? = some (.own 1 FS) := rfl;obtain ⟨v, hv⟩ : ∃ v, v = most.1 % 20 := ⟨_, rfl⟩;have hv20 : v < 20 := by rw [hv]; exact Nat.mod_lt _ (by omega)
 have hmv : Int.tmod (most.1 : Int) 20 = (v : Int) := by rw [hv]; rfl
 have hmb : most.1 < 256 := most.2;have hj1 : (joinO x N).length = (origN x).rows.length := joinN_len _ _;have hj2 : ∀ r ∈ joinO x N, r < 2 ^ (origN x).hk := fun r hr => by
  obtain ⟨q, hq, rfl⟩ := List.mem_map.1 hr;exact joinAt_lt (n := (origN x).rows.length) (setsN_row hS) (List.mem_range.1 hq)
 have hC := count_same hS (wayB x) v (by omega) hsets
 obtain ⟨cn, ce, hC1, hC2⟩ := hC;have hTT := tree_same hS (wayB x) hsets;obtain ⟨T, c, hTle, hcle, hT1, hT2⟩ := hTT;obtain ⟨nd, hndle, hD1, hD2⟩ := need_same hS (wayB x) hsets;have hor := orig_same hS (wayB x) v (by omega) hsets
 have la : ∀ (L : List Nat), L.length = (origN x).rows.length → (∀ r ∈ L, r < 2 ^ (origN x).hk) → LikeO x ⟨(origN x).hk, L⟩ := fun L h1 h2 => ⟨⟨(orig_ok x).h1, (orig_ok x).h24, by show 1 ≤ L.length; omega, by show L.length ≤ 60; omega, h2⟩, rfl, h1⟩
 have hTl2 : (intsV T).length = T.length := by simp [intsV]
 have hTt : (intsV T).take T.length = intsV T := List.take_of_length_le (by omega)
 have hTp : (intsV T).all AV.plain = true := int_plain _;have hNl : (natsV nd).length = nd.length := by simp
 have hNt : (natsV nd).take nd.length = natsV nd := List.take_of_length_le (by simp)
 have hNp := nats_plain nd;have hTat : ∀ i, i < T.length → (intsV T)[i]? = some (iv (T.getD i 0)) := fun i h => by
  unfold intsV;rw [List.getElem?_map, List.getElem?_eq_getElem h, List.getD_eq_getElem?_getD, List.getElem?_eq_getElem h]; rfl
 have hNat : ∀ i, i < nd.length → (natsV nd)[i]? = some (iv ((nd.getD i 0 : Nat) : Int)) := fun i h => nats_at h
 obtain ⟨one, h1⟩ : ∃ a, a = at_.1.1 % N := ⟨_, rfl⟩;obtain ⟨two, h2⟩ : ∃ a, a = at_.2.1 % N := ⟨_, rfl⟩;have h1N : one < (madeTo x N).l.length := by rw [hlen, h1]; exact Nat.mod_lt _ (by omega)
 have h2N : two < (madeTo x N).l.length := by rw [hlen, h2]; exact Nat.mod_lt _ (by omega)
 have b1 : Int.tmod (at_.1.1 : Int) (N : Int) = (one : Int) := by rw [h1]; rfl
 have b2 : Int.tmod (at_.2.1 : Int) (N : Int) = (two : Int) := by rw [h2]; rfl
 have ab1 := at_.1.2;have ab2 := at_.2.2;have o1 := madeTo_like x N _ (List.getElem_mem h1N);have o2 := madeTo_like x N _ (List.getElem_mem h2N);obtain ⟨f1, f2, r1⟩ := tv_cells x N one h1N;obtain ⟨f3, f4, r2⟩ := tv_cells x N two h2N;obtain ⟨f5, f6, r3⟩ := turn_cells x N one h1N;obtain ⟨f7, f8, r4⟩ := turn_cells x N two h2N;have m1 := made_pair o1.ok o2.ok o1.hk o2.hk o1.rows o2.rows (wayB x);have m2 := made_pair o1.turn.ok o2.turn.ok o1.turn.hk o2.turn.hk o1.turn.rows o2.turn.rows (!wayB x);have et : ∀ d : DesN, d.hk = (origN x).hk → turnL (!wayB x) (origN x).hk (turnA d).rows = turnL (wayB x) (origN x).hk d.rows := fun d hd => by
  unfold turnA;rw [hd];exact turnL_not _ _ _
 rw [et _ o1.hk, et _ o2.hk] at m2;have hlv := lostV_le (turnL (wayB x) (origN x).hk (madeTo x N).l[one].rows) (turnL (wayB x) (origN x).hk (madeTo x N).l[two].rows) (origN x).rows.length;generalize lostV (turnL (wayB x) (origN x).hk (madeTo x N).l[one].rows) (turnL (wayB x) (origN x).hk (madeTo x N).l[two].rows) (origN x).rows.length = LVN at *;generalize subB (turnL (wayB x) (origN x).hk (madeTo x N).l[one].rows) (turnL (wayB x) (origN x).hk (madeTo x N).l[two].rows) (origN x).rows.length = SBN at *;generalize natsV (turnA (madeTo x N).l[one]).rows = X1 at *;generalize natsV (turnA (madeTo x N).l[two]).rows = X2 at *;generalize natsV (madeTo x N).l[one].rows = X3 at *;generalize natsV (madeTo x N).l[two].rows = X4 at *;have v1 : X1.take (origN x).rows.length = X1 := List.take_of_length_le (by omega)
 have v2 : X2.take (origN x).rows.length = X2 := List.take_of_length_le (by omega)
 have v3 : X3.take (origN x).rows.length = X3 := List.take_of_length_le (by omega)
 have v4 : X4.take (origN x).rows.length = X4 := List.take_of_length_le (by omega)
 unfold PressB.av at *;generalize intsV T = TV at *;generalize natsV nd = NV at *;refine lim_by (fn := a12) (k := 3) (res := [.tmp 6]) rfl rfl rfl (by simp -implicitDefEqProofs (maxSteps := 2000000) (disch := first | exact tt_rfl rfl | omega | (simp only [go_sem] <;> omega) | fail) only [go_sem]) ?_
 try delta mvA
 try delta opA
 try delta tA
 simp -implicitDefEqProofs (maxSteps := 2000000) (disch := first | exact tt_rfl rfl | omega | (simp only [go_sem] <;> omega) | fail) only [go_sem]
 rcases hor with ⟨og1, og2⟩ | ⟨S, C, sl, cl, slt, clt, og1, og2⟩
 case' inl =>
  repeat (first | apply Wp.seqA | apply Wp.skipS | apply Wp.blockS | ((first | apply Wp.regS | apply Wp.condV | apply Wp.reg | apply Wp.condW | apply fin_ret); simp -implicitDefEqProofs (maxSteps := 2000000) (disch := first | exact tt_rfl rfl | omega | (simp only [go_sem] <;> omega) | fail) only [go_sem, tAA, hW, hw2, hback, hwu, hwi, hM, hO, hU, hF, hF', hLl, hTl, hTl', hfe, hfe', hFl, hFl', hFp, hFp', tFR, tFS, hat0, hz1, hz2, hu1, hd1, hc1, hmv, og1, og2, hC1, hC2, hT1, hT2, hTl2, hTt, hTp, hD1, hD2, hNl, hNt, hNp, bne_self_eq_false, ite_self] <;> try with_reducible rfl) | apply Wp.block | apply Wp.exitS | apply Wp.retS | apply Wp.exit | apply Wp.ret | apply Wp.skip)
 case' inr =>
  have lS := la S sl slt;have lC := la C cl clt;have z1 := sized_like lS lf;have z2 := sized_like lC lf;have z3 := sized_like lC.turn lf;have z4 := sized_like lS.turn lf;have u1 := turned_one lS;have u2 := turned_one lC;have q1 := differ_same lS.turn;have q2 := differ_same lC.turn;have hR1 := hFR;unfold turnA at z3 z4 u1 u2 q1 q2;simp only at z1 z2 z3 z4 u1 u2 q1 q2;rw [hR1] at z1 z2 z3 z4;have n1 : (natsV S).length = (origN x).rows.length := by simp [sl]
  have n2 : (natsV C).length = (origN x).rows.length := by simp [cl]
  have n3 : (natsV (turnL true (origN x).hk S)).length = (origN x).rows.length := by simp [sl]
  have n4 : (natsV (turnL true (origN x).hk C)).length = (origN x).rows.length := by simp [cl]
  have t1 : (natsV S).take (origN x).rows.length = natsV S := List.take_of_length_le (by omega)
  have t2 : (natsV C).take (origN x).rows.length = natsV C := List.take_of_length_le (by omega)
  have t3 : (natsV (turnL true (origN x).hk S)).take (origN x).rows.length = natsV (turnL true (origN x).hk S) := List.take_of_length_le (by omega)
  have t4 : (natsV (turnL true (origN x).hk C)).take (origN x).rows.length = natsV (turnL true (origN x).hk C) := List.take_of_length_le (by omega)
  have p1 := nats_plain S;have p2 := nats_plain C;have p3 := nats_plain (turnL true (origN x).hk S);have p4 := nats_plain (turnL true (origN x).hk C);generalize natsV (turnL true (origN x).hk S) = HV at *;generalize natsV (turnL true (origN x).hk C) = LV at *;generalize natsV S = SV at *;generalize natsV C = CV at *;have k1 : ([AV.agg [iv ((origN x).hk : Int), .own 1 HV]].flatMap AV.cells)[1]? = some (.own 1 HV) := rfl;have k2 : ([AV.agg [iv ((origN x).hk : Int), .own 1 LV]].flatMap AV.cells)[1]? = some (.own 1 LV) := rfl;repeat (first | apply Wp.seqA | apply Wp.skipS | apply Wp.blockS | ((first | apply Wp.regS | apply Wp.condV | apply Wp.reg | apply Wp.condW | apply fin_ret); simp -implicitDefEqProofs (maxSteps := 2000000) (disch := first | exact tt_rfl rfl | omega | (simp only [go_sem] <;> omega) | fail) only [go_sem, tAA, hW, hw2, hback, hwu, hwi, hM, hO, hU, hF, hF', hLl, hTl, hTl', hfe, hfe', hFl, hFl', hFp, hFp', tFR, tFS, hat0, hz1, hz2, hu1, hd1, hc1, hmv, og1, og2, hC1, hC2, hT1, hT2, hTl2, hTt, hTp, hD1, hD2, hNl, hNt, hNp, z1, z2, z3, z4, u1, u2, q1, q2, n1, n2, n3, n4, t1, t2, t3, t4, p1, p2, p3, p4, k1, k2, bne_self_eq_false, ite_self] <;> try with_reducible rfl) | apply Wp.block | apply Wp.exitS | apply Wp.retS | apply Wp.exit | apply Wp.ret | apply Wp.skip)
 all_goals
  apply Wp.loopF T.length (fun i => ⟨[(5, .ptr 320 0 0), (7, iv (wayOf (wayB x))), (8, iv (wayOf (!wayB x))), (9, .slice 576 0 N), (27, .slice 1728 0 T.length), (30, .slice 1920 0 T.length), (33, .list 1 NV), (35, .list 1 NV), (37, iv (i : Int))], [(320, .box [.int .u8 (at_.1.1 : Int), .int .u8 (at_.2.1 : Int)]), (576, .arr 2 ((madeTo x N).l.map setV)), (1728, .arr 1 TV), (1920, .arr 1 TV)], [], 10000000⟩) (fun _ => True)
  ·simp -implicitDefEqProofs (maxSteps := 2000000) (disch := first | exact tt_rfl rfl | omega | (simp only [go_sem] <;> omega) | fail) only [go_sem, norm_eq, Ok.some]
   rfl
  ·trivial
  intro i hi _;by_cases h' : i < T.length
  ·have hti := hTat i h'
   repeat (first | apply Wp.seqA | apply Wp.skipS | apply Wp.blockS | ((first | apply Wp.regS | apply Wp.condV | apply Wp.reg | apply Wp.condW | apply fin_ret); simp -implicitDefEqProofs (maxSteps := 2000000) (disch := first | exact tt_rfl rfl | omega | (simp only [go_sem] <;> omega) | fail) only [go_sem, hTl2, Int.ofNat_lt, h', hti, bne_self_eq_false] <;> try with_reducible rfl) | apply Wp.block | apply Wp.exitS | apply Wp.retS | apply Wp.exit | apply Wp.ret | apply Wp.skip)
   apply round_next
   ·simp -implicitDefEqProofs (maxSteps := 2000000) (disch := first | exact tt_rfl rfl | omega | (simp only [go_sem] <;> omega) | fail) only [go_sem, norm_eq, Ok.some]; with_reducible rfl
   exact ⟨h', by simp, trivial⟩
  obtain rfl : i = T.length := by omega
  repeat (first | apply Wp.seqA | apply Wp.skipS | apply Wp.blockS | ((first | apply Wp.regS | apply Wp.condV | apply Wp.reg | apply Wp.condW | apply fin_ret); simp -implicitDefEqProofs (maxSteps := 2000000) (disch := first | exact tt_rfl rfl | omega | (simp only [go_sem] <;> omega) | fail) only [go_sem, hTl2, Int.lt_irrefl] <;> try with_reducible rfl) | apply Wp.block | apply Wp.exitS | apply Wp.retS | apply Wp.exit | apply Wp.ret | apply Wp.skip)
  apply Wp.loopF nd.length (fun i => ⟨[(5, .ptr 320 0 0), (7, iv (wayOf (wayB x))), (8, iv (wayOf (!wayB x))), (9, .slice 576 0 N), (33, .list 1 NV), (35, .list 1 NV), (38, iv (i : Int))], [(320, .box [.int .u8 (at_.1.1 : Int), .int .u8 (at_.2.1 : Int)]), (576, .arr 2 ((madeTo x N).l.map setV))], [], 10000000⟩) (fun _ => True)
  ·simp -implicitDefEqProofs (maxSteps := 2000000) (disch := first | exact tt_rfl rfl | omega | (simp only [go_sem] <;> omega) | fail) only [go_sem, norm_eq, Ok.some]
   rfl
  ·trivial
  intro i hi _;by_cases h' : i < nd.length
  ·have hni := hNat i h'
   repeat (first | apply Wp.seqA | apply Wp.skipS | apply Wp.blockS | ((first | apply Wp.regS | apply Wp.condV | apply Wp.reg | apply Wp.condW | apply fin_ret); simp -implicitDefEqProofs (maxSteps := 2000000) (disch := first | exact tt_rfl rfl | omega | (simp only [go_sem] <;> omega) | fail) only [go_sem, hNl, Int.ofNat_lt, h', hni, bne_self_eq_false] <;> try with_reducible rfl) | apply Wp.block | apply Wp.exitS | apply Wp.retS | apply Wp.exit | apply Wp.ret | apply Wp.skip)
   apply round_next
   ·simp -implicitDefEqProofs (maxSteps := 2000000) (disch := first | exact tt_rfl rfl | omega | (simp only [go_sem] <;> omega) | fail) only [go_sem, norm_eq, Ok.some]; with_reducible rfl
   exact ⟨h', by simp, trivial⟩
  obtain rfl : i = nd.length := by omega
  repeat (first | apply Wp.seqA | apply Wp.skipS | apply Wp.blockS | ((first | apply Wp.regS | apply Wp.condV | apply Wp.reg | apply Wp.condW | apply fin_ret); simp -implicitDefEqProofs (maxSteps := 2000000) (disch := first | exact tt_rfl rfl | omega | (simp only [go_sem] <;> omega) | fail) only [go_sem, hNl, Int.lt_irrefl, hLl, b1, b2, hO, hU, hfe, hfe', hTl, hTl', tAA, f1, f2, f3, f4, f5, f6, f7, f8, r1, r2, r3, r4, v1, v2, v3, v4, m1, m2, kn, decide_true, decide_false, beq_self_eq_true] <;> try with_reducible rfl) | apply Wp.block | apply Wp.exitS | apply Wp.retS | apply Wp.exit | apply Wp.ret | apply Wp.skip)
end Go.Abs
set_option linter.all false
namespace Go.Abs
theorem copyTurned_ok (x : PressB) (most : ByteB) (a : ByteB × ByteB) : lim F 12 [x.av, .int .u8 (most.1 : Int), .agg [.int .u8 (a.1.1 : Int), .int .u8 (a.2.1 : Int)]] = some (.bool true, []) := turned_main known_ok x most a
end Go.Abs
