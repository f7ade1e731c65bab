/-
  Chapter 6: other wheels that are tried, in plain Lean: no program in sight.
-/
import Derived.Test.YtbmihapnaclidaaN9
import Derived.Test.YtbmihapnaclidaaE1
set_option linter.all false
namespace Go.Abs
set_option maxRecDepth 10000

theorem nsI_take (ps : List P2) : ∀ k, (nsI ps).take (2 * k) = nsI (ps.take k) := by
  induction ps with
  | nil => intro k; simp [nsI]
  | cons p ps ih =>
    intro k
    have e : nsI (p :: ps) = p.1 :: p.2 :: nsI ps := rfl
    match k with
    | 0 => rfl
    | k + 1 =>
      rw [e, show 2 * (k + 1) = 2 * k + 1 + 1 by omega, List.take_succ_cons, List.take_succ_cons, ih k]
      rfl
theorem nsI_mem {ps : List P2} {p : P2} (h : p ∈ ps) : p.1 ∈ nsI ps ∧ p.2 ∈ nsI ps := by
  unfold nsI
  exact ⟨List.mem_flatMap.2 ⟨p, h, by simp⟩, List.mem_flatMap.2 ⟨p, h, by simp⟩⟩
/-- wheels of the shop, each once -/
structure Picked (shop : List Int) (ps : List P2) : Prop where
  i : ∀ n ∈ nsI ps, 0 ≤ n ∧ n < shop.length
  u : (nsI ps).Nodup
theorem Picked.take {shop : List Int} {ps : List P2} (h : Picked shop ps) (k : Nat) : Picked shop (ps.take k) := by
  have e := nsI_take ps k
  exact ⟨fun n hn => h.i n (by rw [← e] at hn; exact List.mem_of_mem_take hn), by rw [← e]; exact h.u.sublist (List.take_sublist _ _)⟩
theorem Picked.in {t : TakeA} {shop : List Int} {ps : List P2} (h : Picked shop ps) : (⟨t, shop, ps⟩ : WheelA).In := fun _ hp => ⟨h.i _ (nsI_mem hp).1, h.i _ (nsI_mem hp).2⟩
theorem picked_lv {t : TakeA} {shop : List Int} : ∀ (k : Nat) (ps : List P2), ps.length = k → Picked shop ps → (⟨t, shop, ps⟩ : WheelA) ∈ lv ⟨t, shop, []⟩ k
  | 0, ps, hl, _ => by
    rw [List.length_eq_zero_iff.1 hl]; exact List.mem_singleton.2 rfl
  | k + 1, ps, hl, hp => by
    have hne : ps ≠ [] := by rintro rfl; simp at hl
    obtain ⟨qs, q, rfl⟩ : ∃ qs q, ps = qs ++ [q] := ⟨_, _, (List.dropLast_concat_getLast hne).symm⟩
    have hq : qs.length = k := by simpa using hl
    have h1 := hp.take k
    rw [List.take_append_of_le_length (by omega), List.take_of_length_le (by omega)] at h1
    have hu := hp.u
    rw [nsI_snoc] at hu
    obtain ⟨_, hab, hd⟩ := List.nodup_append.1 hu
    have ia := hp.i q.1 (by rw [nsI_snoc]; simp)
    have ib := hp.i q.2 (by rw [nsI_snoc]; simp)
    have ea : ((q.1.toNat : Nat) : Int) = q.1 := by omega
    have eb : ((q.2.toNat : Nat) : Int) = q.2 := by omega
    refine List.mem_flatMap.2 ⟨_, picked_lv k qs hq h1, mem_more.2 ⟨q.1.toNat, q.2.toNat, by dsimp only; omega, by dsimp only; omega, ?_, ?_⟩⟩
    · refine (ok_iff _ _ _).2 ⟨?_, ?_, ?_⟩
      · have : q.1 ≠ q.2 := by simpa using hab
        omega
      · rw [ea]; intro hm; exact hd _ hm _ (by simp) rfl
      · rw [eb]; intro hm; exact hd _ hm _ (by simp) rfl
    · unfold extW; dsimp only; rw [ea, eb]
theorem picked_tried {t : TakeA} {shop : List Int} {ps : List P2} {p : Nat} (hl : ps.length ≤ p) (h : Picked shop ps) : (⟨t, shop, ps⟩ : WheelA) ∈ tried t shop p :=
  lv_tried hl (picked_lv _ ps rfl h)
theorem tried_picked {t : TakeA} {shop : List Int} {x : WheelA} {p : Nat} (h : x ∈ tried t shop p) : x.ps.length ≤ p ∧ Picked shop x.ps ∧ x = ⟨t, shop, x.ps⟩ := by
  obtain ⟨k, hk, h⟩ := tried_lv h
  have hg := lv_good k x h
  have hu := lv_nodup k x h
  refine ⟨by rw [hg.p]; exact hk, ⟨fun n hn => ?_, hu⟩, ?_⟩
  · unfold nsI at hn
    obtain ⟨q, hq, hn⟩ := List.mem_flatMap.1 hn
    have hi := hg.i q hq
    rw [hg.s] at hi
    rcases List.mem_cons.1 hn with rfl | hn
    · exact hi.1
    · rw [List.mem_singleton.1 hn]; exact hi.2
  · have h1 := hg.t
    have h2 := hg.s
    cases x
    dsimp only at h1 h2
    subst h1 h2; rfl

/-- other wheels: some wheels one after another -/
def turned (a L i : Nat) : List Int := (List.range (2 * i)).map fun k => (((a + k) % L : Nat) : Int)
theorem mod_inj {a L j k : Nat} (hj : j < L) (hk : k < L) (h : (a + j) % L = (a + k) % L) : j = k := by
  rcases Nat.lt_trichotomy j k with h1 | h1 | h1
  · have h2 := Nat.sub_mod_eq_zero_of_mod_eq h.symm
    rw [Nat.mod_eq_of_lt (by omega)] at h2; omega
  · exact h1
  · have h2 := Nat.sub_mod_eq_zero_of_mod_eq h
    rw [Nat.mod_eq_of_lt (by omega)] at h2; omega
theorem turned_nodup {a L i : Nat} (h : 2 * i ≤ L) : (turned a L i).Nodup := by
  unfold turned
  rw [List.Nodup, List.pairwise_map]
  refine List.Pairwise.imp_of_mem ?_ (List.nodup_range (n := 2 * i))
  intro j k hj hk hne he
  rw [List.mem_range] at hj hk
  exact hne (mod_inj (by omega) (by omega) (Int.ofNat_inj.1 he))
theorem turned_in {a L i : Nat} (hL : 0 < L) : ∀ n ∈ turned a L i, 0 ≤ n ∧ n < (L : Int) := by
  intro n hn
  unfold turned at hn
  obtain ⟨k, _, rfl⟩ := List.mem_map.1 hn
  have := Nat.mod_lt (a + k) hL
  omega
theorem turned_succ (a L i : Nat) : turned a L (i + 1) = turned a L i ++ [(((a + 2 * i) % L : Nat) : Int), (((a + 2 * i + 1) % L : Nat) : Int)] := by
  unfold turned
  rw [show 2 * (i + 1) = 2 * i + 1 + 1 by omega, List.range_succ, List.range_succ]
  simp [Nat.add_assoc]
/-- the first so many other wheels, in pairs -/
structure Others (a L i : Nat) (ps : List P2) : Prop where
  l : ps.length = i
  p : (nsI ps).Perm (turned a L i)
theorem others_zero (a L : Nat) : Others a L 0 [] := ⟨rfl, List.Perm.refl _⟩
theorem Others.one {a L i : Nat} {ps : List P2} (h : Others a L i ps) : Others a L (i + 1) (ps ++ [((((a + 2 * i) % L : Nat) : Int), (((a + 2 * i + 1) % L : Nat) : Int))]) := by
  refine ⟨by simp [h.l], ?_⟩
  rw [nsI_snoc, turned_succ]
  exact h.p.append (List.Perm.refl _)
theorem Others.two {a L i : Nat} {ps : List P2} (h : Others a L i ps) : Others a L (i + 1) (ps ++ [((((a + 2 * i + 1) % L : Nat) : Int), (((a + 2 * i) % L : Nat) : Int))]) := by
  refine ⟨by simp [h.l], ?_⟩
  rw [nsI_snoc, turned_succ]
  exact h.p.append (List.Perm.swap _ _ _)
theorem Others.picked {a i : Nat} {shop : List Int} {ps : List P2} (h : Others a shop.length i ps) (hi : 2 * i ≤ shop.length) : Picked shop ps := by
  refine ⟨fun n hn => ?_, ?_⟩
  · have hm := h.p.subset hn
    have : 0 < shop.length := by
      rcases Nat.eq_zero_or_pos shop.length with h0 | h0
      · obtain rfl : i = 0 := by omega
        simp [turned] at hm
      · exact h0
    exact turned_in this n hm
  · exact h.p.nodup_iff.2 (turned_nodup hi)

/-! ### How far away, in any terms -/

theorem away_mul (g : Nat) (n d wn wd : Int) : awayN ((g : Int) * n) ((g : Int) * d) wn wd = g * awayN n d wn wd := by
  unfold awayN
  rw [show (g : Int) * n * wd - wn * ((g : Int) * d) = (g : Int) * (n * wd - wn * d) by
    rw [Int.mul_sub, Int.mul_assoc, Int.mul_left_comm wn]]
  rw [Int.natAbs_mul, Int.natAbs_natCast]
theorem num_gT (t : TakeA) (h : checkT t = 0) : numT t = (gT t : Int) * nT t ∧ denT t = (gT t : Int) * dT t := by
  have hb := numT_bound h
  have h1 : ((numT t).toNat : Int) = numT t := by omega
  have h2 : ((denT t).toNat : Int) = denT t := by omega
  have d1 : gT t ∣ (numT t).toNat := Nat.gcd_dvd_left _ _
  have d2 : gT t ∣ (denT t).toNat := Nat.gcd_dvd_right _ _
  unfold nT dT
  rw [← Int.natCast_mul, ← Int.natCast_mul, Nat.mul_div_cancel' d1, Nat.mul_div_cancel' d2]
  exact ⟨h1.symm, h2.symm⟩
theorem cross_eqN (t : TakeA) (h : checkT t = 0) : numT t * dT t = nT t * denT t := by
  obtain ⟨h1, h2⟩ := num_gT t h
  rw [h1, h2, Int.mul_assoc, Int.mul_left_comm]
/-- others are not nearer, in any terms -/
theorem le_parts {wn wd : Int} {b x : WheelA} (hx : checkT (wheelT x) = 0) (hb : 0 ≤ dT (wheelT b)) (h : leW wn wd b x) :
    ((awT wn wd b : Nat) : Int) * denT (wheelT x) ≤ ((awayN (numT (wheelT x)) (denT (wheelT x)) wn wd : Nat) : Int) * dT (wheelT b) := by
  have hg := num_gT _ hx
  have nb := nT_bound hx
  rw [hg.1, hg.2, away_mul]
  unfold leW at h
  have ex : ((dW x : Nat) : Int) = dT (wheelT x) := by unfold dW; omega
  have eb : ((dW b : Nat) : Int) = dT (wheelT b) := by unfold dW; omega
  rw [← ex, ← eb, ← Int.natCast_mul, ← Int.natCast_mul, ← Int.natCast_mul]
  apply Int.ofNat_le.2
  have e : awayN (nT (wheelT x)) (dT (wheelT x)) wn wd = awT wn wd x := rfl
  rw [ex, e, Nat.mul_left_comm, Nat.mul_assoc]
  exact Nat.mul_le_mul_left _ h
theorem le_int {wn wd : Int} {b x : WheelA} (hx : 0 ≤ dT (wheelT x)) (hb : 0 ≤ dT (wheelT b)) (h : leW wn wd b x) :
    ((awT wn wd b : Nat) : Int) * dT (wheelT x) ≤ ((awT wn wd x : Nat) : Int) * dT (wheelT b) := by
  unfold leW at h
  have ex : ((dW x : Nat) : Int) = dT (wheelT x) := by unfold dW; omega
  have eb : ((dW b : Nat) : Int) = dT (wheelT b) := by unfold dW; omega
  rw [← ex, ← eb, ← Int.natCast_mul, ← Int.natCast_mul]
  exact Int.ofNat_le.2 h
/-- what is in lowest terms is the same if it is as much -/
theorem low_eq {a b c d : Nat} (h1 : Nat.Coprime a b) (h2 : Nat.Coprime c d) (ha : 0 < b) (hd : 0 < d) (h : a * d = c * b) : a = c ∧ b = d := by
  have e1 : b ∣ d := (Nat.Coprime.dvd_of_dvd_mul_left h1.symm) ⟨c, by rw [h, Nat.mul_comm]⟩
  have e2 : d ∣ b := (Nat.Coprime.dvd_of_dvd_mul_left h2.symm) ⟨a, by rw [← h, Nat.mul_comm]⟩
  have e := Nat.dvd_antisymm e1 e2
  subst e
  exact ⟨Nat.eq_of_mul_eq_mul_right ha h, rfl⟩
theorem nT_coprime (t : TakeA) (h : checkT t = 0) : Nat.Coprime (nT t).toNat (dT t).toNat :=
  Nat.coprime_div_gcd_div_gcd (gT_pos h)
/-- what some wheels take up is met -/
theorem met_eq {t : TakeA} {shop : List Int} (hs : ShopOk t shop) {p : Nat} (hp : p ≤ 2) {x : WheelA} (hx : x ∈ tried t shop p) :
    nT (wheelT (nearestW t shop (nT (wheelT x)) (dT (wheelT x)) p)) = nT (wheelT x) ∧ dT (wheelT (nearestW t shop (nT (wheelT x)) (dT (wheelT x)) p)) = dT (wheelT x) := by
  have h := nearest_le hs hp (nT (wheelT x)) (dT (wheelT x)) hx
  have hy := nearest_tried (t := t) (shop := shop) (nT (wheelT x)) (dT (wheelT x)) p
  generalize nearestW t shop (nT (wheelT x)) (dT (wheelT x)) p = y at *
  obtain ⟨k, hk, gx⟩ := tried_good hx
  obtain ⟨j, hj, gy⟩ := tried_good hy
  have cx := good_check hs gx (by omega)
  have cy := good_check hs gy (by omega)
  have bx := nT_bound cx
  have bby := nT_bound cy
  have lx := nT_coprime _ cx
  have ly := nT_coprime _ cy
  have h0 : awT (nT (wheelT x)) (dT (wheelT x)) x = 0 := by unfold awT awayN; rw [Int.sub_self]; rfl
  unfold leW at h
  rw [h0, Nat.zero_mul] at h
  have dx := tried_d hs hp hx
  have h1 : awT (nT (wheelT x)) (dT (wheelT x)) y = 0 := by
    rcases Nat.mul_eq_zero.1 (Nat.le_zero.1 h) with h | h
    · exact h
    · omega
  have h2 : nT (wheelT y) * dT (wheelT x) = nT (wheelT x) * dT (wheelT y) := by unfold awT awayN at h1; omega
  generalize nT (wheelT x) = a at *
  generalize dT (wheelT x) = b at *
  generalize nT (wheelT y) = c at *
  generalize dT (wheelT y) = d at *
  have ea : ((a.toNat : Nat) : Int) = a := by omega
  have eb : ((b.toNat : Nat) : Int) = b := by omega
  have ec : ((c.toNat : Nat) : Int) = c := by omega
  have ed : ((d.toNat : Nat) : Int) = d := by omega
  rw [← ea, ← eb, ← ec, ← ed, ← Int.natCast_mul, ← Int.natCast_mul, Int.natCast_inj] at h2
  have := low_eq ly lx (by omega) (by omega) h2
  omega
end Go.Abs
