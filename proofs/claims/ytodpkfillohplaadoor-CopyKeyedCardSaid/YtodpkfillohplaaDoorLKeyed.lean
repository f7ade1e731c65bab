/-
 CopyKeyed: what it looks at is so, for all originals in numbers. No condition beyond those that each theorem names.
-/
import Derived.Test.YtodpkfillohplaaDoorY17
import Derived.Test.YtodpkfillohplaaDoorY16
set_option linter.all false
namespace Go.Abs
set_option maxRecDepth 10000
set_option maxHeartbeats 8000000
def noSet : AV := .agg [iv 0, .own 1 []]
theorem restore_spec {l : List DesN} {hk n : Nat} (h : SetsOk l hk n) (h12 : hk ≤ 12) (t : Bool) (keys : List Int) (hkl : keysE n keys = 0) : ∃ S C M : Nat → Nat, (∀ i, i < n → CardOk t hk ((joinN (setsN t hk l) n).getD i 0) (keys.getD i 0) (S i) (C i) (M i)) ∧
  lim F 46 [iv (wayOf t), .list 2 (l.map setV), .list 1 (keys.map fun k => iv k)] = some (if prodM M n = 0 then .tuple [.agg [iv 0, .own 1 []], .agg [iv 0, .own 1 []], iv 0, iv 9] else if 1000000000000 < prodM M n then .tuple [.agg [iv 0, .own 1 []], .agg [iv 0, .own 1 []], iv 0, iv 8] else .tuple [.agg [iv (hk : Int), .own 1 (natsV (sureR t hk n S C))], .agg [iv (hk : Int), .own 1 (natsV (canR t hk n S C))], iv (prodM M n : Int), iv 0], []) := by
 have hrow := setsN_row (t := t) h;have hj : ∀ i, i < n → (joinN (setsN t hk l) n).getD i 0 < 2 ^ hk := fun i hi => by
  have hl : i < (joinN (setsN t hk l) n).length := by simpa using hi
  rw [rows_get hl];obtain ⟨q, hq, e⟩ := List.mem_map.1 (List.getElem_mem hl);rw [← e];exact joinAt_lt hrow (List.mem_range.1 hq)
 have hb : keys.length = n ∧ ∀ i, i < n → -1 ≤ keys.getD i 0 ∧ keys.getD i 0 ≤ 27624 := by
  unfold keysE at hkl;split at hkl
  ·cases hkl
  ·rename_i h1
   have h1 := Classical.not_not.1 h1;split at hkl
   ·rename_i h2
    refine ⟨h1, fun i hi => ?_⟩
    have := List.all_eq_true.1 h2 _ (List.getElem_mem (show i < keys.length by omega))
    rw [List.getD_eq_getElem?_getD, List.getElem?_eq_getElem (show i < keys.length by omega)]
    exact of_decide_eq_true this
   ·cases hkl
 have hex : ∀ i, ∃ p : Nat × Nat × Nat, i < n → p.2.2 ≤ 2 ^ hk ∧ CardOk t hk ((joinN (setsN t hk l) n).getD i 0) (keys.getD i 0) p.1 p.2.1 p.2.2 ∧ lim F 78 [.agg [iv (hk : Int), .bool t], iv (((joinN (setsN t hk l) n).getD i 0 : Nat) : Int), iv (keys.getD i 0)] = some (.agg [iv (p.1 : Int), iv (p.2.1 : Int), iv (p.2.2 : Int)], []) := fun i => by
  by_cases hi : i < n
  ·obtain ⟨S, C, M, h1, h2, h3⟩ := card12 t hk ((joinN (setsN t hk l) n).getD i 0) (keys.getD i 0) (by omega) h12 (hb.2 i hi).1 (hb.2 i hi).2 (hj i hi)
   exact ⟨(S, C, M), fun _ => ⟨h1, h2, h3⟩⟩
  ·exact ⟨(0, 0, 0), fun h => absurd h hi⟩
 obtain ⟨f, hf⟩ := Classical.skolem.1 hex;have h4096 : 2 ^ hk ≤ 2 ^ 12 := Nat.pow_le_pow_right (by omega) h12
 exact ⟨fun i => (f i).1, fun i => (f i).2.1, fun i => (f i).2.2, fun i hi => (hf i hi).2.1, Restore_full h t keys hkl h12 _ _ _ (fun i hi => by have := (hf i hi).1; show (f i).2.2 ≤ 4096; omega) (fun i hi => (hf i hi).2.1.s) (fun i hi => (hf i hi).2.1.c) (fun i hi => (hf i hi).2.2)⟩
def keyO (x : PressB) (q : Nat) : Int := ((keyN ((origN x).rows.getD q 0) : Nat) : Int)
def keyS (x : PressB) (b i : Nat) : List Int := keysF (fun q => if q < i ∧ b.testBit q = true then -1 else keyO x q) (origN x).rows.length
def keyE (x : PressB) (i : Nat) : List Int := keysF (fun q => if q < i then -1 else keyO x q) (origN x).rows.length
def keyA (x : PressB) : List Int := keysF (keyO x) (origN x).rows.length
theorem keysF_get {f : Nat → Int} {n i : Nat} (h : i < n) : ((keysF f n).map fun k => iv k)[i]? = some (iv (f i)) := by
 unfold keysF;rw [List.map_map, List.getElem?_map, List.getElem?_range h]; rfl
theorem keyO_le (x : PressB) {q : Nat} (hq : q < (origN x).rows.length) : 0 ≤ keyO x q ∧ keyO x q ≤ 7212 := by
 have := keyN_small ((orig_ok x).at hq) (by have := orig_hk x; omega)
 unfold keyO;omega
theorem keyA_nats (x : PressB) : natsV (keysTo (origN x) (origN x).rows.length) = (keyA x).map fun k => iv k := by
 unfold natsV keysTo keyA keysF keyO;rw [List.map_map, List.map_map]; rfl
theorem keyS_zero (x : PressB) (b : Nat) : keyS x b 0 = keyA x := keysF_congr fun i _ => by simp
theorem keyE_zero (x : PressB) : keyE x 0 = keyA x := keysF_congr fun i _ => by simp
theorem rowsT_le {t : Bool} {hk j : Nat} {k : Int} : (rowsT t hk j k).length ≤ (rowsT t hk j (-1)).length := by
 have e : rowsT t hk j k = (rowsT t hk j (-1)).filter (rowP t hk j k) := by
  unfold rowsT;rw [List.filter_filter];refine List.filter_congr fun y _ => ?_
  unfold rowP;simp;intro h _;exact h
 rw [e];exact List.length_filter_le _ _
theorem restore_any (x : PressB) {N : Nat} (hS : SetsOk (madeTo x N).l (origN x).hk (origN x).rows.length) (f : Nat → Int) (hf : ∀ q, q < (origN x).rows.length → f q = -1 ∨ f q = keyO x q) : ∃ (S C M : Nat → Nat) (a : Nat) (X Y : List Nat) (m : Nat) (e : Int), CardsOk (wayB x) (origN x).hk (origN x).rows.length (joinO x N) (keysF f (origN x).rows.length) (origN x).rows S C M ∧
  lim F 46 [iv (wayOf (wayB x)), .list 2 ((madeTo x N).l.map setV), .list 1 ((keysF f (origN x).rows.length).map fun k => iv k)] = some (.tuple [.agg [iv (a : Int), .own 1 (natsV X)], .agg [iv (a : Int), .own 1 (natsV Y)], iv (m : Int), iv e], []) ∧
  ((prodM M (origN x).rows.length ≤ 1000000000000 ∧ e = 0 ∧ m = prodM M (origN x).rows.length ∧ a = (origN x).hk ∧ X = sureR (wayB x) (origN x).hk (origN x).rows.length S C ∧ Y = canR (wayB x) (origN x).hk (origN x).rows.length S C) ∨ (1000000000000 < prodM M (origN x).rows.length ∧ e = 8 ∧ m = 0)) := by
 have hkl : keysE (origN x).rows.length (keysF f (origN x).rows.length) = 0 := keysF_ok fun i hi => by
  have := keyO_le x hi;rcases hf i hi with e | e <;> omega
 obtain ⟨S, C, M, hc, hr⟩ := restore_spec hS (orig_hk x).2 (wayB x) _ hkl;have hcards : CardsOk (wayB x) (origN x).hk (origN x).rows.length (joinO x N) (keysF f (origN x).rows.length) (origN x).rows S C M := ⟨hc, fun i hi => by
  rw [keysF_at hi];refine row_in ((orig_ok x).at hi) (fun q hq => ?_) (hf i hi)
  have := joinO_in x i hi q hq;unfold atR rowsO at this
  rwa [turnL_at _ _ _ hi] at this, rfl, (orig_ok x).lt⟩
 have hne : prodM M (origN x).rows.length ≠ 0 := by
  have := prodM_ne hcards.pos;omega
 rw [if_neg hne] at hr;by_cases hb : 1000000000000 < prodM M (origN x).rows.length
 ·rw [if_pos hb] at hr
  exact ⟨S, C, M, 0, [], [], 0, 8, hcards, hr, Or.inr ⟨hb, rfl, rfl⟩⟩
 ·rw [if_neg hb] at hr
  exact ⟨S, C, M, _, _, _, _, 0, hcards, hr, Or.inl ⟨by omega, rfl, rfl, rfl, rfl, rfl⟩⟩
theorem turn_zero (hk n : Nat) : turnL true hk (zeroN n) = fullN hk n := by
 unfold turnL zeroN fullN turnR;rw [List.map_replicate];simp
theorem turn_none (hk : Nat) (l : List Nat) : turnL false hk l = l := by
 unfold turnL;have : turnR false hk = id := rfl;rw [this, List.map_id]
theorem zero_like (x : PressB) : LikeO x ⟨(origN x).hk, zeroN (origN x).rows.length⟩ := by
 have h := orig_rows x;refine ⟨⟨(orig_ok x).h1, (orig_ok x).h24, ?_, ?_, fun r hr => ?_⟩, rfl, by simp [zeroN]⟩
 ·simp [zeroN]; omega
 ·simp [zeroN]; omega
 ·rw [(List.mem_replicate.1 hr).2]; exact Nat.pow_pos (by omega)
theorem full_like (x : PressB) : LikeO x ⟨(origN x).hk, fullN (origN x).hk (origN x).rows.length⟩ := by
 have h := orig_rows x;refine ⟨⟨(orig_ok x).h1, (orig_ok x).h24, ?_, ?_, fullN_lt _ _⟩, rfl, by simp [fullN]⟩
 ·simp [fullN]; omega
 ·simp [fullN]; omega
theorem join_full (x : PressB) {N : Nat} (hS : SetsOk (madeTo x N).l (origN x).hk (origN x).rows.length) : inB (joinO x N) (fullN (origN x).hk (origN x).rows.length) (origN x).rows.length := fun q hq j hj => by
 have hl : (joinO x N).length = (origN x).rows.length := joinN_len _ _;have hlt : ∀ r ∈ joinO x N, r < 2 ^ (origN x).hk := fun r hr => by
  obtain ⟨q, hq, rfl⟩ := List.mem_map.1 hr;exact joinAt_lt (n := (origN x).rows.length) (setsN_row hS) (List.mem_range.1 hq)
 exact full_at hq (bit_in hl hlt hj).2
theorem free_is (x : PressB) {N : Nat} (hS : SetsOk (madeTo x N).l (origN x).hk (origN x).rows.length) :
  (wayB x = true → diffN (firstN (wayB x) (origN x).hk (origN x).rows.length (madeTo x N).l) ⟨(origN x).hk, zeroN (origN x).rows.length⟩ = gapsL (origN x).hk (origN x).rows.length (joinO x N)) ∧
  (wayB x = false → diffN (firstN (wayB x) (origN x).hk (origN x).rows.length (madeTo x N).l) ⟨(origN x).hk, fullN (origN x).hk (origN x).rows.length⟩ = gapsL (origN x).hk (origN x).rows.length (joinO x N)) := by
 have lf := first_like x hS;have ejf : turnL (wayB x) (origN x).hk (firstN (wayB x) (origN x).hk (origN x).rows.length (madeTo x N).l).rows = joinO x N := turnL_back _ _ _;constructor
 ·intro ht
  have lz := zero_like x;rw [diffN_comm (by rw [lf.rows, lz.rows])]
  have := diff_lost lz.ok lf.ok rfl lf.hk lz.rows lf.rows (wayB x) (by rw [ejf, ht]; show inB _ (turnL true _ (zeroN _)) _; rw [turn_zero]; exact join_full x hS)
  rw [ejf, ht] at this;rw [ht];refine this.trans ?_;show lostN (turnL true _ (zeroN _)) _ _ = _
  rw [turn_zero]; rfl
 ·intro ht
  have lz := full_like x;rw [diffN_comm (by rw [lf.rows, lz.rows])]
  have := diff_lost lz.ok lf.ok rfl lf.hk lz.rows lf.rows (wayB x) (by rw [ejf, ht]; show inB _ (turnL false _ (fullN _ _)) _; rw [turn_none]; exact join_full x hS)
  rw [ejf, ht] at this;rw [ht];refine this.trans ?_;show lostN (turnL false _ (fullN _ _)) _ _ = _
  rw [turn_none]; rfl
theorem keyed_main (kn : lim F 14 [] = some (.bool true, [])) (x : PressB) (blots at_ : ByteB) : lim F 11 [x.av, .int .u8 (blots.1 : Int), .int .u8 (at_.1 : Int)] = some (.bool true, []) := by
 obtain ⟨N, hN⟩ : ∃ N, N = manyC x := ⟨_, rfl⟩;have hN1 : 1 ≤ N ∧ N ≤ 8 := by rw [hN]; unfold manyC; omega
 have hW := way_ok x;have hM := made_ok x;have hP := original_ok x;rw [← hN] at hM;have hS := madeTo_sets x hN1.1 (show N ≤ 10 by omega)
 have hO := ownS_ok hS;have hF := First_ok hS (wayB x);have hlen := (madeTo_len x N).1;have lo := like_self x;have lf := first_like x hS;have hn6 := orig_rows x;have hk12 := orig_hk x;have hKs := Keys_ok (origN x) (orig_ok x);rw [keyA_nats x, like_agg lo] at hKs;have hO1 := own1_ok (origN x) (by omega)
 have hAl : ((keyA x).map fun k => iv k).length = (origN x).rows.length := by simp [keyA]
 have hAt : ((keyA x).map fun k => iv k).take (origN x).rows.length = (keyA x).map fun k => iv k := List.take_of_length_le (by omega)
 have hAp : ((keyA x).map fun k => iv k).all AV.plain = true := int_plain _
 have hI := ints_ok12 (keyA x) (by simp [keyA]; omega)
 have hfe := tvN_fe (madeTo x N).l;have hLl : ((madeTo x N).l.map setV).length = N := by simp [hlen]
 have hTl : ((madeTo x N).l.map tvN).length = N := by simp [hlen]
 have hOl : (natsV (origN x).rows).length = (origN x).rows.length := by simp
 have hOp := nats_plain (origN x).rows;have tOR : (natsV (origN x).rows).take (origN x).rows.length = natsV (origN x).rows := List.take_of_length_le (by omega)
 have tAA : ((madeTo x N).l.map setV).take N = (madeTo x N).l.map setV := List.take_of_length_le (by omega)
 have hOat : ∀ i, i < (origN x).rows.length → (natsV (origN x).rows)[i]? = some (iv (((origN x).rows.getD i 0 : Nat) : Int)) := fun i h => nats_at h
 have hc1 : ([AV.agg [iv ((origN x).hk : Int), .own 1 (natsV (origN x).rows)]].flatMap AV.cells)[1]? = some (.own 1 (natsV (origN x).rows)) := rfl;have hAe : ((keyS x blots.1 0).map fun k => iv k) = (keyA x).map fun k => iv k := by rw [keyS_zero]
 have hAe2 : ((keyE x 0).map fun k => iv k) = (keyA x).map fun k => iv k := by rw [keyE_zero]
 have hAat : ∀ i, i < (origN x).rows.length → ((keyA x).map fun k => iv k)[i]? = some (iv (keyO x i)) := fun i h => by
  unfold keyA keysF;rw [List.map_map, List.getElem?_map, List.getElem?_range h]; rfl
 have hKo := fun i (h : i < (origN x).rows.length) => lawKeyOf_ok ((origN x).rows.getD i 0) ((orig_ok x).at24 h)
 obtain ⟨kk, hkk⟩ : ∃ k, k = at_.1 % (origN x).rows.length := ⟨_, rfl⟩;have hkn : kk < (origN x).rows.length := by rw [hkk]; exact Nat.mod_lt _ (by omega)
 have hmk : Int.tmod (at_.1 : Int) ((origN x).rows.length : Int) = (kk : Int) := by rw [hkk]; rfl
 have hab := at_.2;have hf1 : ∀ q, q < (origN x).rows.length → (if q < (origN x).rows.length ∧ blots.1.testBit q = true then -1 else keyO x q) = -1 ∨ (if q < (origN x).rows.length ∧ blots.1.testBit q = true then -1 else keyO x q) = keyO x q := fun q _ => by split <;> simp
 obtain ⟨S1, C1, M1, a1, X1, Y1, m1, e1, R1, R1', R1''⟩ := restore_any x hS (fun q => if q < (origN x).rows.length ∧ blots.1.testBit q = true then -1 else keyO x q) hf1
 obtain ⟨S2, C2, M2, a2, X2, Y2, m2, e2, R2, R2', R2''⟩ := restore_any x hS (fun q => if q = kk then keyO x q else if q < (origN x).rows.length ∧ blots.1.testBit q = true then -1 else keyO x q) (fun q hq => by
  by_cases e : q = kk
  ·rw [if_pos e]; exact Or.inr rfl
  ·rw [if_neg e]; exact hf1 q hq)
 obtain ⟨S3, C3, M3, a3, X3, Y3, m3, e3, R3, R3', R3''⟩ := restore_any x hS (fun q => if q < (origN x).rows.length then -1 else keyO x q) (fun q hq => by rw [if_pos hq]; exact Or.inl rfl)
 have hmono : prodM M2 (origN x).rows.length ≤ prodM M1 (origN x).rows.length := prodM_mono fun q hq => by
  rw [(R2.c q hq).m, (R1.c q hq).m, keysF_at hq, keysF_at hq];by_cases e : q = kk
  ·rw [if_pos e]
   rcases hf1 q hq with e' | e'
   ·rw [e']; exact rowsT_le
   ·rw [e']; exact Nat.le_refl _
  ·rw [if_neg e]; exact Nat.le_refl _
 have hprod3 : prodM M3 (origN x).rows.length = 2 ^ gapsL (origN x).hk (origN x).rows.length (joinO x N) := prod_free fun q hq => by
  have hjl : (joinO x N).getD q 0 < 2 ^ (origN x).hk := by
   have hl : q < (joinO x N).length := by rw [show (joinO x N).length = (origN x).rows.length from joinN_len _ _]; exact hq
   rw [rows_get hl];obtain ⟨y, hy, e⟩ := List.mem_map.1 (List.getElem_mem hl);rw [← e];exact joinAt_lt (n := (origN x).rows.length) (setsN_row hS) (List.mem_range.1 hy)
  rw [(R3.c q hq).m, keysF_at hq, if_pos hq];exact (blot_is (wayB x) (origN x).hk _ (by omega) hjl).m.symm
 obtain ⟨hfr1, hfr2⟩ := free_is x hS;have hp1 := prodM_ne R1.pos;have hp2 := prodM_ne R2.pos;have hfl : gapsL (origN x).hk (origN x).rows.length (joinO x N) ≤ 24 * (origN x).rows.length := gapsL_le _ _ _;have lz := zero_like x;have lfu := full_like x;have hFl : (natsV (firstN (wayB x) (origN x).hk (origN x).rows.length (madeTo x N).l).rows).length = (origN x).rows.length := by simp [firstN]
 have hFp := nats_plain (firstN (wayB x) (origN x).hk (origN x).rows.length (madeTo x N).l).rows;have hE := lawEmpty_ok ((origN x).hk : Int) (natsV (firstN (wayB x) (origN x).hk (origN x).rows.length (madeTo x N).l).rows) (by omega)
 have hFu := lawFull_ok (origN x).hk (natsV (firstN (wayB x) (origN x).hk (origN x).rows.length (madeTo x N).l).rows) (by omega) (by omega)
 rw [hFl] at hE hFu;have hdE := differ_like lf lz;have hdF := differ_like lf lfu;have hszF := sized_like lf lo;have zl : (natsV (zeroN (origN x).rows.length)).length = (origN x).rows.length := by simp [zeroN]
 have zp := nats_plain (zeroN (origN x).rows.length);have fl : (natsV (fullN (origN x).hk (origN x).rows.length)).length = (origN x).rows.length := by simp [fullN]
 have fp := nats_plain (fullN (origN x).hk (origN x).rows.length);have hI1 := ints_ok12 (keyS x blots.1 (origN x).rows.length) (by simp [keyS]; omega)
 have n1 : ((keyS x blots.1 (origN x).rows.length).map fun k => iv k).length = (origN x).rows.length := by simp [keyS]
 have t1 : ((keyS x blots.1 (origN x).rows.length).map fun k => iv k).take (origN x).rows.length = (keyS x blots.1 (origN x).rows.length).map fun k => iv k := List.take_of_length_le (by omega)
 have p1 : ((keyS x blots.1 (origN x).rows.length).map fun k => iv k).all AV.plain = true := int_plain _
 have n3 : ((keyE x (origN x).rows.length).map fun k => iv k).length = (origN x).rows.length := by simp [keyE]
 have t3 : ((keyE x (origN x).rows.length).map fun k => iv k).take (origN x).rows.length = (keyE x (origN x).rows.length).map fun k => iv k := List.take_of_length_le (by omega)
 have p3 : ((keyE x (origN x).rows.length).map fun k => iv k).all AV.plain = true := int_plain _
 have s2 : ((keyS x blots.1 (origN x).rows.length).map fun k => iv k).set kk (iv (keyO x kk)) = (keysF (fun q => if q = kk then keyO x q else if q < (origN x).rows.length ∧ blots.1.testBit q = true then -1 else keyO x q) (origN x).rows.length).map fun k => iv k := by
  unfold keyS;rw [← List.map_set, keysF_set (g := fun q => if q = kk then keyO x q else if q < (origN x).rows.length ∧ blots.1.testBit q = true then -1 else keyO x q) hkn (by simp) (fun q _ hq => by rw [if_neg hq])]
 have n2 : ((keysF (fun q => if q = kk then keyO x q else if q < (origN x).rows.length ∧ blots.1.testBit q = true then -1 else keyO x q) (origN x).rows.length).map fun k => iv k).length = (origN x).rows.length := by simp
 have t2 : ((keysF (fun q => if q = kk then keyO x q else if q < (origN x).rows.length ∧ blots.1.testBit q = true then -1 else keyO x q) (origN x).rows.length).map fun k => iv k).take (origN x).rows.length = (keysF (fun q => if q = kk then keyO x q else if q < (origN x).rows.length ∧ blots.1.testBit q = true then -1 else keyO x q) (origN x).rows.length).map fun k => iv k := List.take_of_length_le (by omega)
 have p2 : ((keysF (fun q => if q = kk then keyO x q else if q < (origN x).rows.length ∧ blots.1.testBit q = true then -1 else keyO x q) (origN x).rows.length).map fun k => iv k).all AV.plain = true := int_plain _
 have hko := keyO_le x hkn;have hv : Int.tmod (keyO x kk + 1) 27624 = keyO x kk + 1 := by
  rw [Int.tmod_eq_emod_of_nonneg (by omega)]
  omega
 have s4 : ((keyA x).map fun k => iv k).set kk (iv (keyO x kk + 1)) = (keysF (fun q => if q = kk then keyO x q + 1 else keyO x q) (origN x).rows.length).map fun k => iv k := by
  unfold keyA;rw [← List.map_set, keysF_set (g := fun q => if q = kk then keyO x q + 1 else keyO x q) hkn (by simp) (fun q _ hq => by rw [if_neg hq])]
 have n4 : ((keysF (fun q => if q = kk then keyO x q + 1 else keyO x q) (origN x).rows.length).map fun k => iv k).length = (origN x).rows.length := by simp
 have t4 : ((keysF (fun q => if q = kk then keyO x q + 1 else keyO x q) (origN x).rows.length).map fun k => iv k).take (origN x).rows.length = (keysF (fun q => if q = kk then keyO x q + 1 else keyO x q) (origN x).rows.length).map fun k => iv k := List.take_of_length_le (by omega)
 have p4 : ((keysF (fun q => if q = kk then keyO x q + 1 else keyO x q) (origN x).rows.length).map fun k => iv k).all AV.plain = true := int_plain _
 have hWr1 := Wrong_ok (origN x) (orig_ok x) (keyS x blots.1 (origN x).rows.length) (keysF_ok fun i hi => by
  have := keyO_le x hi;split <;> omega)
 have hWr2 := Wrong_ok (origN x) (orig_ok x) (keysF (fun q => if q = kk then keyO x q + 1 else keyO x q) (origN x).rows.length) (keysF_ok fun i hi => by
  have := keyO_le x hi;split <;> omega)
 have hw1 : wrongTo (origN x) (keyS x blots.1 (origN x).rows.length) (keyS x blots.1 (origN x).rows.length).length = [] := by
  unfold wrongTo;refine List.filter_eq_nil_iff.2 fun j hj => ?_
  have hj' : j < (origN x).rows.length := by have := List.mem_range.1 hj; simpa [keyS] using this
  unfold wrongB keyS;rw [keysF_at hj'];simp only [decide_eq_true_eq];rintro ⟨h1, h2⟩;split at h1
  ·exact h1 rfl
  ·rename_i hh; rw [if_neg hh] at h2; exact h2 rfl
 have hw2 : wrongTo (origN x) (keysF (fun q => if q = kk then keyO x q + 1 else keyO x q) (origN x).rows.length) (keysF (fun q => if q = kk then keyO x q + 1 else keyO x q) (origN x).rows.length).length = [kk] := by
  unfold wrongTo;rw [keysF_len];refine filter_one _ kk _ hkn fun j hj => ?_
  unfold wrongB;rw [keysF_at hj];have := keyO_le x hj;refine decide_eq_decide.2 ?_;have hkd : ((keyN ((origN x).rows.getD j 0) : Nat) : Int) = keyO x j := rfl;rw [hkd];split <;> rename_i e
  ·exact ⟨fun _ => e, fun _ => by omega⟩
  ·exact ⟨fun h => absurd rfl h.2, fun h => absurd h e⟩
 rw [hw1, like_agg lo] at hWr1;rw [hw2, like_agg lo] at hWr2;change lim F _ _ = some (.tuple [.own 1 [], iv 0], []) at hWr1;change lim F _ _ = some (.tuple [.own 1 [iv (kk : Int)], iv 0], []) at hWr2;have hAe : ((keyS x blots.1 0).map fun k => iv k) = (keyA x).map fun k => iv k := by rw [keyS_zero]
 have hAe2 : ((keyE x 0).map fun k => iv k) = (keyA x).map fun k => iv k := by rw [keyE_zero]
 have hAat : ∀ i, i < (origN x).rows.length → ((keyA x).map fun k => iv k)[i]? = some (iv (keyO x i)) := fun i h => by
  unfold keyA keysF;rw [List.map_map, List.getElem?_map, List.getElem?_range h]; rfl
 have hKo := fun i (h : i < (origN x).rows.length) => lawKeyOf_ok ((origN x).rows.getD i 0) ((orig_ok x).at24 h)
 unfold PressB.av at *;refine lim_by (fn := a11) (k := 3) (res := [.tmp 6]) rfl rfl rfl (by simp -implicitDefEqProofs (maxSteps := 2000000) (disch := first | exact tt_rfl rfl | omega | (simp only [go_sem] <;> omega) | fail) only [go_sem]) ?_
 try delta mvA
 try delta opA
 try delta tA
 simp -implicitDefEqProofs (maxSteps := 2000000) (disch := first | exact tt_rfl rfl | omega | (simp only [go_sem] <;> omega) | fail) only [go_sem]
 repeat (first | apply Wp.seqA | apply Wp.skipS | apply Wp.blockS | ((first | apply Wp.regS | apply Wp.condV | apply Wp.reg | apply Wp.condW | apply fin_ret); simp -implicitDefEqProofs (maxSteps := 2000000) (disch := first | exact tt_rfl rfl | omega | (simp only [go_sem] <;> omega) | fail) only [go_sem, tAA, hW, hM, hP, hO1, hKs, hAl, hAt, hAp, hI, hOl, hOp, tOR, hc1, hLl, bne_self_eq_false, ite_self] <;> try with_reducible rfl) | apply Wp.block | apply Wp.exitS | apply Wp.retS | apply Wp.exit | apply Wp.ret | apply Wp.skip)
 apply Wp.loopF (origN x).rows.length (fun i => ⟨[(1, .int .u8 (blots.1 : Int)), (2, .int .u8 (at_.1 : Int)), (7, .ptr 448 0 0), (8, iv (wayOf (wayB x))), (9, .slice 576 0 N), (13, .slice 832 0 (origN x).rows.length), (15, .slice 960 0 (origN x).rows.length), (16, .slice 1024 0 (origN x).rows.length), (17, iv (i : Int))], [(448, .box [iv ((origN x).hk : Int), .list 1 (natsV (origN x).rows)]), (576, .arr 2 ((madeTo x N).l.map setV)), (832, .arr 1 ((keyA x).map fun k => iv k)), (960, .arr 1 ((keyS x blots.1 i).map fun k => iv k)), (1024, .arr 1 ((keyE x i).map fun k => iv k))], [], 10000000⟩) (fun _ => True)
 ·simp -implicitDefEqProofs (maxSteps := 2000000) (disch := first | exact tt_rfl rfl | omega | (simp only [go_sem] <;> omega) | fail) only [go_sem, norm_eq, Ok.some]
  rw [hAe, hAe2];rfl
 ·trivial
 intro i hi _;by_cases h' : i < (origN x).rows.length
 ·have g1 := hAat i h'
  have g2 := hOat i h';have g3 := hKo i h';have hko : ((keyN ((origN x).rows.getD i 0) : Nat) : Int) = keyO x i := rfl;rw [hko] at g3;have l1 : ((keyS x blots.1 i).map fun k => iv k).length = (origN x).rows.length := by simp [keyS]
  have l2 : ((keyE x i).map fun k => iv k).length = (origN x).rows.length := by simp [keyE]
  have s1 : ((keyE x i).map fun k => iv k).set i (iv (-1)) = (keyE x (i + 1)).map fun k => iv k := by
   unfold keyE;rw [← List.map_set, keysF_set (g := fun q => if q < i + 1 then -1 else keyO x q) h' (by simp) (fun q _ hq => by
    by_cases e : q < i
    ·rw [if_pos (by omega), if_pos e]
    ·rw [if_neg (by omega), if_neg e])]
  have k1 : ((keyE x i).map fun k => iv k)[i]? = some (iv (keyO x i)) := by
   have := keysF_get (f := fun q => if q < i then -1 else keyO x q) h'
   rwa [if_neg (Nat.lt_irrefl i)] at this
  have k2 : ((keyS x blots.1 i).map fun k => iv k)[i]? = some (iv (keyO x i)) := by
   have := keysF_get (f := fun q => if q < i ∧ blots.1.testBit q = true then -1 else keyO x q) h'
   rwa [if_neg (fun h => Nat.lt_irrefl i h.1)] at this
  have hu := u8_bit blots ⟨i, by omega⟩
  have w1 : IntKind.wrap .u64 (i : Int) = (i : Int) := wrap_u64 (by omega) (by omega)
  simp only at hu;clear R1 R1' R1'' R2 R2' R2'' R3 R3' R3'' hWr1 hWr2 hmono hprod3 hfr1 hfr2 hdE hdF hE hFu;by_cases hb : blots.1.testBit i = true
  ·have s2 : ((keyS x blots.1 i).map fun k => iv k).set i (iv (-1)) = (keyS x blots.1 (i + 1)).map fun k => iv k := by
    unfold keyS;rw [← List.map_set, keysF_set (g := fun q => if q < i + 1 ∧ blots.1.testBit q = true then -1 else keyO x q) h' (by simp [hb]) (fun q _ hq => by
     by_cases e : q < i ∧ blots.1.testBit q = true
     ·rw [if_pos ⟨by omega, e.2⟩, if_pos e]
     ·rw [if_neg (fun h => e ⟨by omega, h.2⟩), if_neg e])]
   rw [if_pos hb] at hu;generalize ((keyE x i).map fun k => iv k) = KE at *
   generalize ((keyS x blots.1 i).map fun k => iv k) = KS at *
   repeat (first | apply Wp.seqA | apply Wp.skipS | apply Wp.blockS | ((first | apply Wp.regS | apply Wp.condV | apply Wp.reg | apply Wp.condW | apply fin_ret); simp -implicitDefEqProofs (maxSteps := 2000000) (disch := first | exact tt_rfl rfl | omega | (simp only [go_sem] <;> omega) | fail) only [go_sem, h', Int.ofNat_lt, hAl, g1, g2, g3, k1, k2, l1, l2, s1, s2, hu, w1, bne_self_eq_false, decide_true] <;> try with_reducible rfl) | apply Wp.block | apply Wp.exitS | apply Wp.retS | apply Wp.exit | apply Wp.ret | apply Wp.skip)
   apply round_next
   ·simp -implicitDefEqProofs (maxSteps := 2000000) (disch := first | exact tt_rfl rfl | omega | (simp only [go_sem] <;> omega) | fail) only [go_sem, norm_eq, Ok.some]; with_reducible rfl
   exact ⟨h', by simp, trivial⟩
  ·have s2 : keyS x blots.1 i = keyS x blots.1 (i + 1) := keysF_congr fun q hq => by
    by_cases e : q = i
    ·subst e; simp [hb]
    ·by_cases e2 : q < i ∧ blots.1.testBit q = true
     ·rw [if_pos e2, if_pos ⟨by omega, e2.2⟩]
     ·rw [if_neg e2, if_neg (fun h => e2 ⟨by omega, h.2⟩)]
   rw [if_neg hb] at hu;rw [← s2];generalize ((keyE x i).map fun k => iv k) = KE at *
   generalize ((keyS x blots.1 i).map fun k => iv k) = KS at *
   repeat (first | apply Wp.seqA | apply Wp.skipS | apply Wp.blockS | ((first | apply Wp.regS | apply Wp.condV | apply Wp.reg | apply Wp.condW | apply fin_ret); simp -implicitDefEqProofs (maxSteps := 2000000) (disch := first | exact tt_rfl rfl | omega | (simp only [go_sem] <;> omega) | fail) only [go_sem, h', Int.ofNat_lt, hAl, g1, g2, g3, k1, k2, l1, l2, s1, hu, w1, bne_self_eq_false, decide_true, decide_false] <;> try with_reducible rfl) | apply Wp.block | apply Wp.exitS | apply Wp.retS | apply Wp.exit | apply Wp.ret | apply Wp.skip)
   apply round_next
   ·simp -implicitDefEqProofs (maxSteps := 2000000) (disch := first | exact tt_rfl rfl | omega | (simp only [go_sem] <;> omega) | fail) only [go_sem, norm_eq, Ok.some]; with_reducible rfl
   exact ⟨h', by simp, trivial⟩
 obtain rfl : i = (origN x).rows.length := by omega
 have gA := hAat kk hkn;have gS : ∃ v, ((keyS x blots.1 (origN x).rows.length).map fun k => iv k)[kk]? = some (iv v) := ⟨_, keysF_get hkn⟩
 obtain ⟨v, gS⟩ := gS;have hks : keysF (fun q => if q < (origN x).rows.length ∧ blots.1.testBit q = true then -1 else keyO x q) (origN x).rows.length = keyS x blots.1 (origN x).rows.length := rfl
 have hke : keysF (fun q => if q < (origN x).rows.length then -1 else keyO x q) (origN x).rows.length = keyE x (origN x).rows.length := rfl
 rw [hks] at R1';rw [hke] at R3';generalize ((keyS x blots.1 (origN x).rows.length).map fun k => iv k) = K1 at *
 generalize ((keysF (fun q => if q = kk then keyO x q else if q < (origN x).rows.length ∧ blots.1.testBit q = true then -1 else keyO x q) (origN x).rows.length).map fun k => iv k) = K2 at *
 generalize ((keyE x (origN x).rows.length).map fun k => iv k) = K3 at *
 generalize ((keysF (fun q => if q = kk then keyO x q + 1 else keyO x q) (origN x).rows.length).map fun k => iv k) = K4 at *
 generalize ((keyA x).map fun k => iv k) = KA at *
 have zt : (natsV (zeroN (origN x).rows.length)).take (origN x).rows.length = natsV (zeroN (origN x).rows.length) := List.take_of_length_le (by omega)
 have ft : (natsV (fullN (origN x).hk (origN x).rows.length)).take (origN x).rows.length = natsV (fullN (origN x).hk (origN x).rows.length) := List.take_of_length_le (by omega)
 have tFR : (natsV (firstN (wayB x) (origN x).hk (origN x).rows.length (madeTo x N).l).rows).take (origN x).rows.length = natsV (firstN (wayB x) (origN x).hk (origN x).rows.length (madeTo x N).l).rows := List.take_of_length_le (by omega)
 have x1l : (natsV X1).length = X1.length := by simp
 have x1t : (natsV X1).take X1.length = natsV X1 := List.take_of_length_le (by simp)
 have x1p := nats_plain X1;have y1l : (natsV Y1).length = Y1.length := by simp
 have y1t : (natsV Y1).take Y1.length = natsV Y1 := List.take_of_length_le (by simp)
 have y1p := nats_plain Y1;have x2l : (natsV X2).length = X2.length := by simp
 have x2t : (natsV X2).take X2.length = natsV X2 := List.take_of_length_le (by simp)
 have x2p := nats_plain X2;have y2l : (natsV Y2).length = Y2.length := by simp
 have y2t : (natsV Y2).take Y2.length = natsV Y2 := List.take_of_length_le (by simp)
 have y2p := nats_plain Y2;have x3l : (natsV X3).length = X3.length := by simp
 have x3t : (natsV X3).take X3.length = natsV X3 := List.take_of_length_le (by simp)
 have x3p := nats_plain X3;have y3l : (natsV Y3).length = Y3.length := by simp
 have y3t : (natsV Y3).take Y3.length = natsV Y3 := List.take_of_length_le (by simp)
 have y3p := nats_plain Y3;rcases R1'' with ⟨b1, rfl, rfl, rfl, rfl, rfl⟩ | ⟨b1, rfl, rfl⟩
 case' inl =>
  obtain ⟨rfl, rfl⟩ : e2 = 0 ∧ m2 = prodM M2 (origN x).rows.length := by
   rcases R2'' with ⟨_, h1, h2, _⟩ | ⟨h0, _⟩
   ·exact ⟨h1, h2⟩
   ·omega
  have lX : LikeO x ⟨(origN x).hk, sureR (wayB x) (origN x).hk (origN x).rows.length S1 C1⟩ := ⟨⟨lo.ok.h1, lo.ok.h24, by show 1 ≤ List.length _; rw [sureR_len]; exact hn6.1, by show List.length _ ≤ 60; rw [sureR_len]; omega, sureR_lt (fun i hi => (R1.c i hi).s) (fun i hi => (R1.c i hi).c)⟩, rfl, sureR_len⟩
  have lY : LikeO x ⟨(origN x).hk, canR (wayB x) (origN x).hk (origN x).rows.length S1 C1⟩ := ⟨⟨lo.ok.h1, lo.ok.h24, by show 1 ≤ List.length _; rw [canR_len]; exact hn6.1, by show List.length _ ≤ 60; rw [canR_len]; omega, canR_lt (fun i hi => (R1.c i hi).s) (fun i hi => (R1.c i hi).c)⟩, rfl, canR_len⟩
  have z1 := sized_like lX lo;have z2 := sized_like lY lo;have w1 := within_like lX lo R1.sure;have w2 := within_like lo lY R1.can;have q1 := differ_like lX lo;have q2 := differ_like lY lo;have q3 := differ_like lX lY;rw [sureR_len] at x1l x1t;rw [canR_len] at y1l y1t;have hone : prodM M1 (origN x).rows.length = 1 → diffN ⟨(origN x).hk, sureR (wayB x) (origN x).hk (origN x).rows.length S1 C1⟩ (origN x) = 0 ∧ diffN ⟨(origN x).hk, canR (wayB x) (origN x).hk (origN x).rows.length S1 C1⟩ (origN x) = 0 := fun e => by
   obtain ⟨h1, h2⟩ := R1.one e;rw [h1, h2];exact ⟨diff_same (origN x), diff_same (origN x)⟩
  have htwo : 1 < prodM M1 (origN x).rows.length → diffN ⟨(origN x).hk, sureR (wayB x) (origN x).hk (origN x).rows.length S1 C1⟩ ⟨(origN x).hk, canR (wayB x) (origN x).hk (origN x).rows.length S1 C1⟩ ≠ 0 := fun e h => R1.two e (diff_zero lX.ok lY.ok (by show List.length _ = List.length _; rw [sureR_len, canR_len]) h)
  generalize diffN ⟨(origN x).hk, sureR (wayB x) (origN x).hk (origN x).rows.length S1 C1⟩ (origN x) = D1 at *;generalize diffN ⟨(origN x).hk, canR (wayB x) (origN x).hk (origN x).rows.length S1 C1⟩ (origN x) = D2 at *;generalize diffN ⟨(origN x).hk, sureR (wayB x) (origN x).hk (origN x).rows.length S1 C1⟩ ⟨(origN x).hk, canR (wayB x) (origN x).hk (origN x).rows.length S1 C1⟩ = D3 at *;generalize natsV (sureR (wayB x) (origN x).hk (origN x).rows.length S1 C1) = XV at *;generalize natsV (canR (wayB x) (origN x).hk (origN x).rows.length S1 C1) = YV at *;clear R1 R2 R2'';generalize prodM M1 (origN x).rows.length = pm1 at *;generalize prodM M2 (origN x).rows.length = pm2 at *;have c1 : ¬ (pm1 : Int) < 1 := by omega
  have c2 : ¬ (pm1 : Int) < (pm2 : Int) := by omega
  by_cases hp : pm1 = 1
 case' pos =>
  obtain ⟨rfl, rfl⟩ := hone hp;have hp' : (pm1 : Int) = 1 := by omega
  have c2' : ¬ (1 : Int) < (pm2 : Int) := by omega
  repeat (first | apply Wp.seqA | apply Wp.skipS | apply Wp.blockS | ((first | apply Wp.regS | apply Wp.condV | apply Wp.reg | apply Wp.condW | apply fin_ret); simp -implicitDefEqProofs (maxSteps := 2000000) (disch := first | exact tt_rfl rfl | omega | (simp only [go_sem] <;> omega) | fail) only [go_sem, z1, z2, w1, w2, q1, q2, hp', c2', x1l, x1t, x1p, y1l, y1t, y1p, x2l, x2t, x2p, y2l, y2t, y2p, x3l, x3t, x3p, y3l, y3t, y3p, hLl, tAA, hTl, hfe, hO, hAl, hAt, hAp, hI, hI1, n1, t1, p1, n2, t2, p2, n3, t3, p3, n4, t4, p4, s2, s4, gA, gS, hv, hmk, R1', R2', R3', hO1, hOl, hOp, tOR, hc1, hWr1, hWr2, hF, hFl, hFp, tFR, hszF, hE, hFu, hdE, hdF, zl, zp, zt, fl, fp, ft, gt_iff_lt, Int.lt_irrefl, Int.natCast_zero, Int.natCast_one, bne_self_eq_false, decide_true, decide_false, ite_self] <;> try with_reducible rfl) | apply Wp.block | apply Wp.exitS | apply Wp.retS | apply Wp.exit | apply Wp.ret | apply Wp.skip)
 case' neg =>
  have hD3 := htwo (by omega)
  have hp' : (1 : Int) < (pm1 : Int) := by omega
  have hp'' : ¬ (pm1 : Int) = 1 := by omega
  repeat (first | apply Wp.seqA | apply Wp.skipS | apply Wp.blockS | ((first | apply Wp.regS | apply Wp.condV | apply Wp.reg | apply Wp.condW | apply fin_ret); simp -implicitDefEqProofs (maxSteps := 2000000) (disch := first | exact tt_rfl rfl | omega | (simp only [go_sem] <;> omega) | fail) only [go_sem, z1, z2, w1, w2, q3, hD3, hp, hp', hp'', Int.natCast_eq_zero, c1, c2, x1l, x1t, x1p, y1l, y1t, y1p, x2l, x2t, x2p, y2l, y2t, y2p, x3l, x3t, x3p, y3l, y3t, y3p, hLl, tAA, hTl, hfe, hO, hAl, hAt, hAp, hI, hI1, n1, t1, p1, n2, t2, p2, n3, t3, p3, n4, t4, p4, s2, s4, gA, gS, hv, hmk, R1', R2', R3', hO1, hOl, hOp, tOR, hc1, hWr1, hWr2, hF, hFl, hFp, tFR, hszF, hE, hFu, hdE, hdF, zl, zp, zt, fl, fp, ft, gt_iff_lt, Int.lt_irrefl, Int.natCast_zero, Int.natCast_one, bne_self_eq_false, decide_true, decide_false, ite_self] <;> try with_reducible rfl) | apply Wp.block | apply Wp.exitS | apply Wp.retS | apply Wp.exit | apply Wp.ret | apply Wp.skip)
 case' inr =>
  repeat (first | apply Wp.seqA | apply Wp.skipS | apply Wp.blockS | ((first | apply Wp.regS | apply Wp.condV | apply Wp.reg | apply Wp.condW | apply fin_ret); simp -implicitDefEqProofs (maxSteps := 2000000) (disch := first | exact tt_rfl rfl | omega | (simp only [go_sem] <;> omega) | fail) only [go_sem, x1l, x1t, x1p, y1l, y1t, y1p, x2l, x2t, x2p, y2l, y2t, y2p, x3l, x3t, x3p, y3l, y3t, y3p, hLl, tAA, hTl, hfe, hO, hAl, hAt, hAp, hI, hI1, n1, t1, p1, n2, t2, p2, n3, t3, p3, n4, t4, p4, s2, s4, gA, gS, hv, hmk, R1', R2', R3', hO1, hOl, hOp, tOR, hc1, hWr1, hWr2, hF, hFl, hFp, tFR, hszF, hE, hFu, hdE, hdF, zl, zp, zt, fl, fp, ft, gt_iff_lt, Int.lt_irrefl, Int.natCast_zero, Int.natCast_one, bne_self_eq_false, decide_true, decide_false, ite_self] <;> try with_reducible rfl) | apply Wp.block | apply Wp.exitS | apply Wp.retS | apply Wp.exit | apply Wp.ret | apply Wp.skip)
 all_goals
  rw [hprod3] at R3'';have hgpow : ∀ g : Nat, (40 ≤ g → 1000000000000 < 2 ^ g) ∧ (¬ 40 ≤ g → 2 ^ g ≤ 1000000000000) := fun g => ⟨fun h => by
   have : 2 ^ 40 ≤ 2 ^ g := Nat.pow_le_pow_right (by omega) h
   omega, fun h => by
   have : 2 ^ g ≤ 2 ^ 39 := Nat.pow_le_pow_right (by omega) (by omega)
   omega⟩
  have hg := hgpow (gapsL (origN x).hk (origN x).rows.length (joinO x N));have w1 : IntKind.wrap .u64 ((gapsL (origN x).hk (origN x).rows.length (joinO x N) : Nat) : Int) = ((gapsL (origN x).hk (origN x).rows.length (joinO x N) : Nat) : Int) := wrap_u64 (by omega) (by omega)
  have w2 : ¬ 40 ≤ gapsL (origN x).hk (origN x).rows.length (joinO x N) → IntKind.wrap .i64 (1 * 2 ^ min (gapsL (origN x).hk (origN x).rows.length (joinO x N)) (IntKind.bits .i64)) = ((2 ^ gapsL (origN x).hk (origN x).rows.length (joinO x N) : Nat) : Int) := fun h => w_shl1 _ (by omega)
  generalize gapsL (origN x).hk (origN x).rows.length (joinO x N) = g at *;have hend : (40 ≤ g ∧ m3 = 0 ∧ e3 = 8) ∨ (¬ 40 ≤ g ∧ m3 = 2 ^ g ∧ e3 = 0) := by
   by_cases h40 : 40 ≤ g
   ·have := hg.1 h40
    rcases R3'' with ⟨h, _⟩ | ⟨_, h1, h2⟩
    ·omega
    ·exact Or.inl ⟨h40, h2, h1⟩
   ·have := hg.2 h40
    rcases R3'' with ⟨_, h1, h2, _⟩ | ⟨h, _⟩
    ·exact Or.inr ⟨h40, h2, h1⟩
    ·omega
  clear R3'' hg hgpow;cases hwb : wayB x with
  | true =>
   have hfr := hfr1 hwb;rw [hwb] at hfr;rw [hfr];rcases hend with ⟨h40, rfl, rfl⟩ | ⟨h40, rfl, rfl⟩
   ·have h40' : (40 : Int) ≤ (g : Int) := by omega
    repeat (first | apply Wp.seqA | apply Wp.skipS | apply Wp.blockS | ((first | apply Wp.regS | apply Wp.condV | apply Wp.reg | apply Wp.condW | apply fin_ret); simp -implicitDefEqProofs (maxSteps := 2000000) (disch := first | exact tt_rfl rfl | omega | (simp only [go_sem] <;> omega) | fail) only [go_sem, show ¬ wayOf true = 1 by decide, h40', kn, gt_iff_lt, ge_iff_le, Int.natCast_zero, bne_self_eq_false, decide_true, decide_false, ite_self] <;> try with_reducible rfl) | apply Wp.block | apply Wp.exitS | apply Wp.retS | apply Wp.exit | apply Wp.ret | apply Wp.skip)
   ·have h40' : ¬ (40 : Int) ≤ (g : Int) := by omega
    have w3 := w2 h40;repeat (first | apply Wp.seqA | apply Wp.skipS | apply Wp.blockS | ((first | apply Wp.regS | apply Wp.condV | apply Wp.reg | apply Wp.condW | apply fin_ret); simp -implicitDefEqProofs (maxSteps := 2000000) (disch := first | exact tt_rfl rfl | omega | (simp only [go_sem] <;> omega) | fail) only [go_sem, show ¬ wayOf true = 1 by decide, h40', w1, w3, kn, gt_iff_lt, ge_iff_le, Int.natCast_zero, bne_self_eq_false, decide_true, decide_false, ite_self] <;> try with_reducible rfl) | apply Wp.block | apply Wp.exitS | apply Wp.retS | apply Wp.exit | apply Wp.ret | apply Wp.skip)
  | false =>
   have hfr := hfr2 hwb;rw [hwb] at hfr hdF hFl tFR hFp hFu;rw [hfr] at hdF;rcases hend with ⟨h40, rfl, rfl⟩ | ⟨h40, rfl, rfl⟩
   ·have h40' : (40 : Int) ≤ (g : Int) := by omega
    repeat (first | apply Wp.seqA | apply Wp.skipS | apply Wp.blockS | ((first | apply Wp.regS | apply Wp.condV | apply Wp.reg | apply Wp.condW | apply fin_ret); simp -implicitDefEqProofs (maxSteps := 2000000) (disch := first | exact tt_rfl rfl | omega | (simp only [go_sem] <;> omega) | fail) only [go_sem, show wayOf false = 1 from rfl, tFR, hFl, hFp, hFu, hdF, fl, fp, ft, h40', kn, gt_iff_lt, ge_iff_le, Int.natCast_zero, bne_self_eq_false, decide_true, decide_false, ite_self] <;> try with_reducible rfl) | apply Wp.block | apply Wp.exitS | apply Wp.retS | apply Wp.exit | apply Wp.ret | apply Wp.skip)
   ·have h40' : ¬ (40 : Int) ≤ (g : Int) := by omega
    have w3 := w2 h40;repeat (first | apply Wp.seqA | apply Wp.skipS | apply Wp.blockS | ((first | apply Wp.regS | apply Wp.condV | apply Wp.reg | apply Wp.condW | apply fin_ret); simp -implicitDefEqProofs (maxSteps := 2000000) (disch := first | exact tt_rfl rfl | omega | (simp only [go_sem] <;> omega) | fail) only [go_sem, show wayOf false = 1 from rfl, tFR, hFl, hFp, hFu, hdF, fl, fp, ft, h40', w1, w3, kn, gt_iff_lt, ge_iff_le, Int.natCast_zero, bne_self_eq_false, decide_true, decide_false, ite_self] <;> try with_reducible rfl) | apply Wp.block | apply Wp.exitS | apply Wp.retS | apply Wp.exit | apply Wp.ret | apply Wp.skip)
end Go.Abs
