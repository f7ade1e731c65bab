/-
 Chapter 12: which copy was made of which. No condition beyond those that each theorem names.
-/
import Derived.Test.YtodpkfillohplaaDoorX9
set_option linter.all false
namespace Go.Abs
set_option maxRecDepth 10000
set_option maxHeartbeats 4000000
def lostV (a b : List Nat) (n : Nat) : Nat := if subB a b n then lostN a b n else 0
theorem lostV_le (a b : List Nat) (n : Nat) : lostV a b n ≤ 24 * n := by
 unfold lostV;split
 ·exact lostT_le _ _ n
 ·omega
def treeV (s : List (List Nat)) (j : List Nat) (n i : Nat) : Nat → Int × Nat
 | 0 => (-1, lostV j (s.getD i []) n)
 | k + 1 => if subB (s.getD k []) (s.getD i []) n = true ∧ lostV (s.getD k []) (s.getD i []) n < (treeV s j n i k).2 then ((k : Int), lostV (s.getD k []) (s.getD i []) n) else treeV s j n i k
theorem treeV_le (s : List (List Nat)) (j : List Nat) (n i : Nat) : ∀ k, (treeV s j n i k).2 ≤ 24 * n
 | 0 => lostV_le _ _ n
 | k + 1 => by
  unfold treeV;split
  ·exact lostV_le _ _ n
  ·exact treeV_le s j n i k
def treeL (s : List (List Nat)) (j : List Nat) (n m : Nat) : List Int := (List.range m).map fun i => (treeV s j n i i).1
def treeS (s : List (List Nat)) (j : List Nat) (n : Nat) : Nat → Nat
 | 0 => 0
 | i + 1 => treeS s j n i + (treeV s j n i i).2
theorem treeS_le (s : List (List Nat)) (j : List Nat) (n : Nat) : ∀ m, treeS s j n m ≤ 24 * n * m
 | 0 => Nat.le_refl _
 | m + 1 => by
  have h1 := treeS_le s j n m;have h2 := treeV_le s j n m m;unfold treeS;rw [Nat.mul_succ];omega
def intsV (l : List Int) : List AV := l.map fun n => iv n
@[simp] theorem intsV_len (l : List Int) : (intsV l).length = l.length := by simp [intsV]
theorem treeL_succ (s : List (List Nat)) (j : List Nat) (n m : Nat) : intsV (treeL s j n (m + 1)) = intsV (treeL s j n m) ++ [iv (treeV s j n m m).1] := by
 unfold treeL intsV;rw [List.range_succ, List.map_append, List.map_append]; rfl
@[simp] theorem treeL_len (s : List (List Nat)) (j : List Nat) (n m : Nat) : (treeL s j n m).length = m := by simp [treeL]
theorem sets_get {s : List (List Nat)} {k : Nat} (h : k < s.length) : (s.map listV)[k]? = some (.list 1 (natsV (s.getD k []))) := by
 rw [List.getElem?_map, List.getD_eq_getElem?_getD, List.getElem?_eq_getElem h]; rfl
theorem Tree_ok {l : List DesN} {hk n : Nat} (h : SetsOk l hk n) (t : Bool) : lim F 26 [iv (wayOf t), .list 2 (l.map setV)] = some (.tuple [.own 1 (intsV (treeL (setsN t hk l) (joinN (setsN t hk l) n) n l.length)), iv ((treeS (setsN t hk l) (joinN (setsN t hk l) n) n l.length : Nat) : Int), iv 0], []) := by
 obtain ⟨⟨k1, k2⟩, k3, k4⟩ := h.k1;have hl10 := h.l10;have hO := open_ok h t;have hrow := setsN_row (t := t) h;have hr24 : ∀ r ∈ setsN t hk l, r.length = n ∧ ∀ x ∈ r, x < 2 ^ 24 := fun r hr => ⟨(hrow r hr).1, fun x hx => up24 ((hrow r hr).2 x hx) k2⟩
 have hJ := join_ok (setsN t hk l) n (by simp; exact h.l1) (by simp; omega) (by omega) hr24
 have hjl : ∀ x ∈ joinN (setsN t hk l) n, x < 2 ^ 24 := fun r hr => by
  obtain ⟨q, hq, rfl⟩ := List.mem_map.1 hr;exact joinAt_lt hr24 (List.mem_range.1 hq)
 have hsl : (setsN t hk l).length = l.length := by simp
 generalize setsN t hk l = s at *;generalize hjn : joinN s n = j at *;have hjlen : j.length = n := by rw [← hjn]; simp
 have hsg : ∀ k, k < l.length → (s.getD k []).length = n ∧ ∀ x ∈ s.getD k [], x < 2 ^ 24 := fun k hk' => by
  rw [List.getD_eq_getElem?_getD, List.getElem?_eq_getElem (by omega)]
  exact hr24 _ (List.getElem_mem _)
 have hL0 : ∀ i, i < l.length → lim F 65 [.list 1 (natsV j), .list 1 (natsV (s.getD i []))] = some (.tuple [iv ((lostV j (s.getD i []) n : Nat) : Int), .bool (subB j (s.getD i []) n)], []) := fun i hi =>
  lost_ok j (s.getD i []) n hjlen (hsg i hi).1 (by omega) hjl (hsg i hi).2
 have hL : ∀ k i, k < l.length → i < l.length → lim F 65 [.list 1 (natsV (s.getD k [])), .list 1 (natsV (s.getD i []))] = some (.tuple [iv ((lostV (s.getD k []) (s.getD i []) n : Nat) : Int), .bool (subB (s.getD k []) (s.getD i []) n)], []) := fun k i hk' hi =>
  lost_ok _ _ n (hsg k hk').1 (hsg i hi).1 (by omega) (hsg k hk').2 (hsg i hi).2
 have hg : ∀ k, k < l.length → (s.map listV)[k]? = some (.list 1 (natsV (s.getD k []))) := fun k hk' => sets_get (by omega)
 have n1 : (s.map listV).length = l.length := by simp [hsl]
 have n2 : (natsV j).length = n := by simp [hjlen]
 have t2 : (natsV j).take n = natsV j := List.take_of_length_le (by omega)
 have P2 := nats_plain j;have tS : (s.map listV).take l.length = s.map listV := List.take_of_length_le (by omega)
 have hst := treeL_succ s j n;have hln : ∀ m, (intsV (treeL s j n m)).length = m := fun m => by simp
 have hpl : ∀ m, (intsV (treeL s j n m)).all AV.plain = true := fun m => int_plain _
 have hvle := treeV_le s j n;have hsle := treeS_le s j n;have hbd : ∀ m, m ≤ l.length → treeS s j n m ≤ 20000 := fun m hm => by
  have h1 := hsle m;have h2 : 24 * n * m ≤ 24 * 60 * 10 := Nat.mul_le_mul (Nat.mul_le_mul (Nat.le_refl _) k4) (by omega)
  omega
 unfold openV at hO;generalize l.map setV = es at *;generalize hsm : s.map listV = sr at *;generalize hjv : natsV j = jr at *;refine lim_by (fn := a26) (k := 2) (res := [.tmp 4, .tmp 5, .tmp 6]) rfl rfl rfl (by simp -implicitDefEqProofs (maxSteps := 2000000) (disch := first | exact tt_rfl rfl | omega | (simp only [go_sem] <;> omega) | fail) only [go_sem]) ?_
 try delta mvA
 try delta opA
 try delta tA
 simp -implicitDefEqProofs (maxSteps := 2000000) (disch := first | exact tt_rfl rfl | omega | (simp only [go_sem] <;> omega) | fail) only [go_sem]
 repeat (first | apply Wp.seqA | apply Wp.skipS | apply Wp.blockS | ((first | apply Wp.regS | apply Wp.condV | apply Wp.reg | apply Wp.condW | apply fin_ret); simp -implicitDefEqProofs (maxSteps := 2000000) (disch := first | exact tt_rfl rfl | omega | (simp only [go_sem] <;> omega) | fail) only [go_sem, hO, hJ, n1, n2, t2, P2, tS, ite_self] <;> try with_reducible rfl) | apply Wp.block | apply Wp.exitS | apply Wp.retS | apply Wp.exit | apply Wp.ret | apply Wp.skip)
 apply Wp.loopF l.length (fun i => ⟨[(4, .slice 256 0 i), (5, iv ((treeS s j n i : Nat) : Int)), (7, .ptr 448 0 0), (8, .slice 512 0 n), (30, .slice 1920 0 l.length), (31, iv (l.length : Int)), (32, iv (i : Int))], [(256, .arr 1 (intsV (treeL s j n i))), (448, .box [iv (hk : Int), .bool t, .slice 1920 0 l.length]), (512, .arr 1 jr), (1920, .arr 1 sr)], [], 10000000⟩) (fun _ => True)
 ·simp -implicitDefEqProofs (maxSteps := 2000000) (disch := first | exact tt_rfl rfl | omega | (simp only [go_sem] <;> omega) | fail) only [go_sem, norm_eq, Ok.some]
  rfl
 ·trivial
 intro i hi _;by_cases h' : i < l.length
 ·have a1 := hg i h'
  have a2 := hL0 i h';have a3 := fun k hk' => hL k i hk' h'
  have e1 := hst i;have e2 : treeS s j n (i + 1) = treeS s j n i + (treeV s j n i i).2 := rfl;have q1 := hln i;have v0 : treeV s j n i 0 = (-1, lostV j (s.getD i []) n) := rfl;have vs : ∀ k, treeV s j n i (k + 1) = if subB (s.getD k []) (s.getD i []) n = true ∧ lostV (s.getD k []) (s.getD i []) n < (treeV s j n i k).2 then ((k : Int), lostV (s.getD k []) (s.getD i []) n) else treeV s j n i k := fun k => rfl
  have b1 := hbd i (by omega)
  have b2 := hvle i i;rw [e1, e2];generalize intsV (treeL s j n i) = L at *;generalize treeS s j n i = ts at *;repeat (first | apply Wp.seqA | apply Wp.skipS | apply Wp.blockS | ((first | apply Wp.regS | apply Wp.condV | apply Wp.reg | apply Wp.condW | apply fin_ret); simp -implicitDefEqProofs (maxSteps := 2000000) (disch := first | exact tt_rfl rfl | omega | (simp only [go_sem] <;> omega) | fail) only [go_sem, h', Int.ofNat_lt, n1, n2, t2, P2, tS, a1, a2, ite_self, show (i : Int) ≤ l.length by omega, show ((i : Int) - 0).toNat = i by omega] <;> try with_reducible rfl) | apply Wp.block | apply Wp.exitS | apply Wp.retS | apply Wp.exit | apply Wp.ret | apply Wp.skip)
  have a4 := fun k (hk' : k < i) => hg k (by omega)
  have a5 := fun k (hk' : k < i) => a3 k (by omega)
  have b3 := hvle i;generalize natsV (s.getD i []) = ri at *;apply Wp.loopF i (fun k => ⟨[(4, .slice 256 0 i), (5, iv (ts : Int)), (7, .ptr 448 0 0), (8, .slice 512 0 n), (10, .list 1 ri), (11, iv (treeV s j n i k).1), (12, iv ((treeV s j n i k).2 : Nat)), (30, .slice 1920 0 l.length), (31, iv (l.length : Int)), (32, iv (i : Int)), (46, .slice 1920 0 i), (47, iv (i : Int)), (48, iv (k : Int))], [(256, .arr 1 L), (448, .box [iv (hk : Int), .bool t, .slice 1920 0 l.length]), (512, .arr 1 jr), (1920, .arr 1 sr)], [], 10000000⟩) (fun _ => True)
  ·simp -implicitDefEqProofs (maxSteps := 2000000) (disch := first | exact tt_rfl rfl | omega | (simp only [go_sem] <;> omega) | fail) only [go_sem, norm_eq, Ok.some]
   rw [v0]; rfl
  ·trivial
  intro k hk' _;by_cases h2 : k < i
  ·have c1 := a4 k h2
   have c2 := a5 k h2;have c3 := vs k;have c4 := b3 k;have c5 : subB (s.getD k []) (s.getD i []) n = false → treeV s j n i (k + 1) = treeV s j n i k := fun e => by rw [c3, if_neg (by rw [e]; simp)]
   have c6 : ¬ lostV (s.getD k []) (s.getD i []) n < (treeV s j n i k).2 → treeV s j n i (k + 1) = treeV s j n i k := fun e => by rw [c3, if_neg fun q => e q.2]
   have c7 : subB (s.getD k []) (s.getD i []) n = true → lostV (s.getD k []) (s.getD i []) n < (treeV s j n i k).2 → treeV s j n i (k + 1) = ((k : Int), lostV (s.getD k []) (s.getD i []) n) := fun e1 e2 => by rw [c3, if_pos ⟨e1, e2⟩]
   clear hO hJ hjl hsg hL0 hL hg hst hln hpl hvle hsle hbd a1 a2 a3 a4 a5 b3 b1 b2 hrow hr24 vs v0 c3 e1 e2;generalize treeV s j n i (k + 1) = tv' at *;generalize lostV (s.getD k []) (s.getD i []) n = lv at *;generalize subB (s.getD k []) (s.getD i []) n = sb at *;generalize treeV s j n i k = tv at *;generalize natsV (s.getD k []) = rk at *;cases sb
   ·have c5 := c5 rfl
    subst c5;generalize tv'.1 = f1 at *;generalize tv'.2 = w1 at *;repeat (first | apply Wp.seqA | apply Wp.skipS | apply Wp.blockS | ((first | apply Wp.regS | apply Wp.condV | apply Wp.reg | apply Wp.condW | apply fin_ret); simp -implicitDefEqProofs (maxSteps := 2000000) (disch := first | exact tt_rfl rfl | omega | (simp only [go_sem] <;> omega) | fail) only [go_sem, h2, Int.ofNat_lt, c1, c2, n1] <;> try with_reducible rfl) | apply Wp.block | apply Wp.exitS | apply Wp.retS | apply Wp.exit | apply Wp.ret | apply Wp.skip)
    apply round_next
    ·simp -implicitDefEqProofs (maxSteps := 2000000) (disch := first | exact tt_rfl rfl | omega | (simp only [go_sem] <;> omega) | fail) only [go_sem, norm_eq, Ok.some]; with_reducible rfl
    exact ⟨h2, by simp, trivial⟩
   ·by_cases hlt : lv < tv.2
    ·have c7 := c7 rfl hlt
     subst c7;dsimp only;generalize tv.1 = f1 at *;generalize tv.2 = w1 at *;repeat (first | apply Wp.seqA | apply Wp.skipS | apply Wp.blockS | ((first | apply Wp.regS | apply Wp.condV | apply Wp.reg | apply Wp.condW | apply fin_ret); simp -implicitDefEqProofs (maxSteps := 2000000) (disch := first | exact tt_rfl rfl | omega | (simp only [go_sem] <;> omega) | fail) only [go_sem, h2, Int.ofNat_lt, c1, c2, n1, hlt] <;> try with_reducible rfl) | apply Wp.block | apply Wp.exitS | apply Wp.retS | apply Wp.exit | apply Wp.ret | apply Wp.skip)
     apply round_next
     ·simp -implicitDefEqProofs (maxSteps := 2000000) (disch := first | exact tt_rfl rfl | omega | (simp only [go_sem] <;> omega) | fail) only [go_sem, norm_eq, Ok.some]; with_reducible rfl
     exact ⟨h2, by simp, trivial⟩
    ·have c6 := c6 hlt
     subst c6;generalize tv'.1 = f1 at *;generalize tv'.2 = w1 at *;repeat (first | apply Wp.seqA | apply Wp.skipS | apply Wp.blockS | ((first | apply Wp.regS | apply Wp.condV | apply Wp.reg | apply Wp.condW | apply fin_ret); simp -implicitDefEqProofs (maxSteps := 2000000) (disch := first | exact tt_rfl rfl | omega | (simp only [go_sem] <;> omega) | fail) only [go_sem, h2, Int.ofNat_lt, c1, c2, n1, hlt] <;> try with_reducible rfl) | apply Wp.block | apply Wp.exitS | apply Wp.retS | apply Wp.exit | apply Wp.ret | apply Wp.skip)
     apply round_next
     ·simp -implicitDefEqProofs (maxSteps := 2000000) (disch := first | exact tt_rfl rfl | omega | (simp only [go_sem] <;> omega) | fail) only [go_sem, norm_eq, Ok.some]; with_reducible rfl
     exact ⟨h2, by simp, trivial⟩
  ·obtain rfl : k = i := by omega
   have es2 : (ts : Int) + ((treeV s j n k k).2 : Int) = ((ts + (treeV s j n k k).2 : Nat) : Int) := by omega
   generalize (treeV s j n k k).1 = tf at *;generalize (treeV s j n k k).2 = tw at *;repeat (first | apply Wp.seqA | apply Wp.skipS | apply Wp.blockS | ((first | apply Wp.regS | apply Wp.condV | apply Wp.reg | apply Wp.condW | apply fin_ret); simp -implicitDefEqProofs (maxSteps := 2000000) (disch := first | exact tt_rfl rfl | omega | (simp only [go_sem] <;> omega) | fail) only [go_sem, Int.lt_irrefl, q1, es2] <;> try with_reducible rfl) | apply Wp.block | apply Wp.exitS | apply Wp.retS | apply Wp.exit | apply Wp.ret | apply Wp.skip)
   apply round_next
   ·simp -implicitDefEqProofs (maxSteps := 2000000) (disch := first | exact tt_rfl rfl | omega | (simp only [go_sem] <;> omega) | fail) only [go_sem, norm_eq, Ok.some]; with_reducible rfl
   exact ⟨h', by simp, trivial⟩
 ·obtain rfl : i = l.length := by omega
  have q1 := hln l.length;have p1 := hpl l.length;have t1 : (intsV (treeL s j n l.length)).take l.length = intsV (treeL s j n l.length) := List.take_of_length_le (by omega)
  generalize intsV (treeL s j n l.length) = L at *;repeat (first | apply Wp.seqA | apply Wp.skipS | apply Wp.blockS | ((first | apply Wp.regS | apply Wp.condV | apply Wp.reg | apply Wp.condW | apply fin_ret); simp -implicitDefEqProofs (maxSteps := 2000000) (disch := first | exact tt_rfl rfl | omega | (simp only [go_sem] <;> omega) | fail) only [go_sem, Int.lt_irrefl, q1, p1, t1] <;> try with_reducible rfl) | apply Wp.block | apply Wp.exitS | apply Wp.retS | apply Wp.exit | apply Wp.ret | apply Wp.skip)
end Go.Abs
