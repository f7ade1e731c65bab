/-
 Several texts: M1, M3, M4, KL, M2, M5, P2, R1, P3, P4, V0.
-/
import Derived.Test.YtlikmkicmpppdaaP1
import Derived.Test.YtlikmkicmpppdaaFns
import Derived.Test.YtlikmkicmpppdaaK
import Derived.Test.YtlikmkicmpppdaaEvI
set_option linter.all false
namespace Go.Abs
set_option maxRecDepth 10000
def gb (l : List Bool) (i : Nat) : Bool := l.getD (i % l.length) false
def begs (l : List Bool) (i : Nat) : Bool := gb l i != gb l (i + l.length - 1)
def lenT (l : List Bool) (i : Nat) : Nat := 1 + (List.range l.length).findIdx fun k => gb l (i + 1 + k) != gb l i
theorem gb_mod (l : List Bool) (i : Nat) : gb l (i % l.length) = gb l i := by
 unfold gb; rw [Nat.mod_mod]
theorem gb_add (l : List Bool) (i : Nat) : gb l (i + l.length) = gb l i := by
 unfold gb; rw [Nat.add_mod_right]
theorem gb_get {l : List Bool} {i : Nat} (h : 0 < l.length) : l[i % l.length]? = some (gb l i) := by
 have := Nat.mod_lt i h;unfold gb;rw [List.getD_eq_getElem?_getD, List.getElem?_eq_getElem this]; rfl
structure LenIs (l : List Bool) (i n : Nat) : Prop where
 pos : 1 ≤ n
 lt : n < l.length
 same : ∀ k, k < n → gb l (i + k) = gb l i
 other : gb l (i + n) ≠ gb l i
theorem lenT_is {l : List Bool} {i : Nat} (h : begs l i = true) : LenIs l i (lenT l i) := by
 have hb : gb l i ≠ gb l (i + l.length - 1) := by simpa [begs] using h
 have h2 : 2 ≤ l.length := by
  rcases Nat.lt_or_ge 1 l.length with h | h
  ·exact h
  ·exfalso; apply hb
   unfold gb;have : l.length = 0 ∨ l.length = 1 := by omega
   rcases this with h' | h'
   ·rw [List.length_eq_zero_iff.1 h']; simp
   ·rw [h', Nat.mod_one, Nat.mod_one]
 have hex : ∃ k ∈ List.range l.length, (gb l (i + 1 + k) != gb l i) = true := ⟨l.length - 2, List.mem_range.2 (by omega), by
  rw [show i + 1 + (l.length - 2) = i + l.length - 1 by omega]
  simpa using fun e => hb e.symm⟩
 have hlt := List.findIdx_lt_length_of_exists hex;have hle : (List.range l.length).findIdx (fun k => gb l (i + 1 + k) != gb l i) ≤ l.length - 2 := by
  rw [List.length_range] at hlt;rcases Nat.lt_or_ge (l.length - 2) ((List.range l.length).findIdx (fun k => gb l (i + 1 + k) != gb l i)) with h3 | h3
  ·exfalso
   have := List.not_of_lt_findIdx h3;simp only [List.getElem_range, bne_eq_false_iff_eq, Bool.not_eq_true, Bool.not_eq_true'] at this;rw [show i + 1 + (l.length - 2) = i + l.length - 1 by omega] at this
   exact hb this.symm
  ·exact h3
 have hf := List.findIdx_getElem (w := hlt);refine ⟨by unfold lenT; omega, by unfold lenT; omega, fun k hk => ?_, ?_⟩
 ·match k with
  | 0 => rfl
  | k + 1 =>
   unfold lenT at hk;have := List.not_of_lt_findIdx (show k < (List.range l.length).findIdx (fun k => gb l (i + 1 + k) != gb l i) by omega)
   simp at this;rw [show i + (k + 1) = i + 1 + k by omega]; exact this
 ·simp at hf
  unfold lenT;rw [← Nat.add_assoc]; exact hf
theorem LenIs.eq {l : List Bool} {i n m : Nat} (h : LenIs l i n) (h' : LenIs l i m) : n = m := by
 rcases Nat.lt_trichotomy n m with h1 | h1 | h1
 ·exact absurd (h'.same n h1) h.other
 ·exact h1
 ·exact absurd (h.same m h1) h'.other
theorem LenIs.begs {l : List Bool} {i n : Nat} (h : LenIs l i n) : ∀ k, 1 ≤ k → k < n → Go.Abs.begs l (i + k) = false := fun k h1 h2 => by
 have a := h.same k h2;have b := h.same (k - 1) (by omega)
 have e : gb l (i + k + l.length - 1) = gb l (i + (k - 1)) := by
  rw [show i + k + l.length - 1 = i + (k - 1) + l.length by omega, gb_add]
 unfold Go.Abs.begs;rw [e, a, b]; simp
theorem LenIs.end {l : List Bool} {i n : Nat} (h : LenIs l i n) : Go.Abs.begs l (i + n) = true := by
 have b := h.same (n - 1) (by have := h.pos; omega)
 have e : gb l (i + n + l.length - 1) = gb l (i + (n - 1)) := by
  have := h.pos;rw [show i + n + l.length - 1 = i + (n - 1) + l.length by omega, gb_add]
 unfold Go.Abs.begs;rw [e, b];simpa using h.other
theorem begs_mod (l : List Bool) (i : Nat) : begs l (i % l.length) = begs l i := by
 rcases Nat.eq_zero_or_pos l.length with h | h
 ·rw [h, Nat.mod_zero]
 have hd := Nat.div_add_mod i l.length;unfold begs;rw [gb_mod]
 congr 1
 unfold gb
 congr 1
 conv => rhs; rw [← hd]
 rw [show l.length * (i / l.length) + i % l.length + l.length - 1 = (i % l.length + l.length - 1) + l.length * (i / l.length) by omega, Nat.add_mul_mod_self_left]
theorem endless_iff {l : List Bool} (h : 0 < l.length) : ((List.range l.length).any (begs l)) = false ↔ ∀ i, gb l i = gb l 0 := by
 constructor
 ·intro hn
  have hs : ∀ i, i < l.length → gb l i = gb l 0 := by
   intro i;induction i with
   | zero => intro _; rfl
   | succ i ih =>
    intro hi;rw [List.any_eq_false] at hn;have := hn (i + 1) (List.mem_range.2 hi);unfold begs at this;rw [show i + 1 + l.length - 1 = i + l.length by omega, gb_add] at this
    simp at this;rw [this]; exact ih (by omega)
  intro i;rw [← gb_mod l i];exact hs _ (Nat.mod_lt _ h)
 ·intro hs
  rw [List.any_eq_false];intro i _;unfold begs;rw [hs i, hs (i + l.length - 1)]; simp
structure RunT where
 first : Nat
 len : Nat
 up : Bool
def RunT.av (x : RunT) : AV := .agg [iv (x.first : Int), iv (x.len : Int), .bool x.up]
def runAt (l : List Bool) (i : Nat) : RunT := ⟨i, lenT l i, gb l i⟩
def runsTo (l : List Bool) (i : Nat) : List RunT := ((List.range i).filter (begs l)).map (runAt l)
def runsFrom (l : List Bool) (i : Nat) : List RunT := ((List.range' i (l.length - i)).filter (begs l)).map (runAt l)
def anyTo (l : List Bool) (i : Nat) : Bool := (List.range i).any (begs l)
def lastT (l : List Bool) : List RunT := if anyTo l l.length then [] else [⟨0, 1000, gb l 0⟩]
def runsT (l : List Bool) : List RunT := runsTo l l.length ++ lastT l
theorem runsTo_succ (l : List Bool) (i : Nat) : runsTo l (i + 1) = runsTo l i ++ if begs l i then [runAt l i] else [] := by
 unfold runsTo;rw [List.range_succ, List.filter_append, List.map_append];cases h : begs l i <;> simp [h]
theorem anyTo_succ (l : List Bool) (i : Nat) : anyTo l (i + 1) = (anyTo l i || begs l i) := by
 unfold anyTo;rw [List.range_succ, List.any_append]; simp
theorem runsFrom_step {l : List Bool} {i : Nat} (h : i < l.length) : runsFrom l i = (if begs l i then [runAt l i] else []) ++ runsFrom l (i + 1) := by
 unfold runsFrom;rw [show l.length - i = (l.length - (i + 1)) + 1 by omega, List.range'_succ]
 cases hb : begs l i <;> simp [hb]
theorem runsFrom_end (l : List Bool) : runsFrom l l.length = [] := by
 unfold runsFrom; rw [Nat.sub_self]; rfl
theorem runsFrom_zero (l : List Bool) : runsFrom l 0 = runsTo l l.length := by
 unfold runsFrom runsTo; rw [List.range_eq_range', Nat.sub_zero]
end Go.Abs
set_option linter.all false
namespace Go.Abs
set_option maxRecDepth 10000
def rowTo (g : Nat → Bool) : Nat → Nat
 | 0 => 0
 | n + 1 => rowTo g n ||| (if g n then 2 ^ n else 0)
theorem row_eq {a b n : Nat} (ha : a < 2 ^ n) (hb : b < 2 ^ n) (h : ∀ j, j < n → a.testBit j = b.testBit j) : a = b := by
 apply Nat.eq_of_testBit_eq;intro j;by_cases hj : j < n
 ·exact h j hj
 ·have hp : 2 ^ n ≤ 2 ^ j := Nat.pow_le_pow_right (by omega) (by omega)
  rw [Nat.testBit_lt_two_pow (Nat.lt_of_lt_of_le ha hp), Nat.testBit_lt_two_pow (Nat.lt_of_lt_of_le hb hp)]
def rowOf (l : List Bool) : Nat := l.foldr (fun b a => a * 2 + if b then 1 else 0) 0
end Go.Abs
set_option linter.all false
namespace Go.Abs
set_option maxRecDepth 10000
def perAt (n : Nat) (P : Nat → Bool) (by' : Nat) : Bool := decide (1 ≤ by') && decide (n % by' = 0) && P by'
def perT (n : Nat) (P : Nat → Bool) : Nat := ((List.range n).find? (perAt n P)).getD n
theorem perT_at {n : Nat} {P : Nat → Bool} {i : Nat} (h : i < n) (hi : perAt n P i = true) (hn : ∀ j, j < i → perAt n P j = false) : perT n P = i := by
 unfold perT;rw [show (List.range n).find? (perAt n P) = some i from ?_]
 ·rfl
 rw [List.find?_eq_some_iff_getElem];refine ⟨hi, i, by simpa using h, by simp, fun j hj => ?_⟩
 have := hn j hj;simpa using this
theorem perT_no {n : Nat} {P : Nat → Bool} (hn : ∀ j, j < n → perAt n P j = false) : perT n P = n := by
 unfold perT;rw [show (List.range n).find? (perAt n P) = none from ?_]
 ·rfl
 rw [List.find?_eq_none];intro j hj;rw [hn j (List.mem_range.1 hj)]; simp
theorem find_congr {α : Type} {l : List α} {p q : α → Bool} (h : ∀ x ∈ l, p x = q x) : l.find? p = l.find? q := by
 induction l with
 | nil => rfl
 | cons a l ih => rw [List.find?_cons, List.find?_cons, h a (by simp), ih fun x hx => h x (by simp [hx])]
theorem perT_congr {n : Nat} {P Q : Nat → Bool} (h : ∀ k, 1 ≤ k → k < n → n % k = 0 → P k = Q k) : perT n P = perT n Q := by
 unfold perT
 congr 1
 apply find_congr;intro k hk;have hk := List.mem_range.1 hk;unfold perAt;by_cases h1 : 1 ≤ k
 ·by_cases h2 : n % k = 0
  ·rw [h k h1 hk h2]
  ·rw [decide_eq_false h2]; simp
 ·rw [decide_eq_false h1]; simp
theorem period_iff {α : Type} {f : Nat → α} {n k : Nat} (hk : 1 ≤ k) (hn : k < n) : (∀ i, i < n - k → f (i + k) = f i) ↔ ∀ i, i < n → f i = f (i % k) := by
 constructor
 ·intro h i
  induction i using Nat.strongRecOn with
  | ind i ih =>
   intro hi;rcases Nat.lt_or_ge i k with h1 | h1
   ·rw [Nat.mod_eq_of_lt h1]
   ·have := h (i - k) (by omega)
    rw [show i - k + k = i by omega] at this
    rw [this, ih (i - k) (by omega) (by omega), Nat.mod_eq_sub_mod h1]
 ·intro h i hi
  rw [h (i + k) (by omega), h i (by omega), Nat.add_mod_right]
end Go.Abs
set_option linter.all false
namespace Go.Abs
set_option maxRecDepth 10000
set_option maxHeartbeats 8000000
structure FloatT where
 pick : Int
 hook : Int
 len : Int
 up : Bool
def FloatT.av (f : FloatT) : AV := .agg [iv f.pick, iv f.hook, iv f.len, .bool f.up]
def mxStep (b : Bool) (m : Int) (f : FloatT) : Int := if f.up = b then max m f.len else m
def mxF (b : Bool) (l : List FloatT) : Int := l.foldl (mxStep b) 0
theorem mxF_take {b : Bool} {l : List FloatT} {i : Nat} (h : i < l.length) : mxF b (l.take (i + 1)) = mxStep b (mxF b (l.take i)) l[i] := by
 unfold mxF;rw [List.take_succ_eq_append_getElem h, List.foldl_append]; rfl
def keyI : AV → Int
 | .int _ n => n
 | _ => 0
def e1L : AV × AV := (iv 1, .agg [.ptr 128 0 0, .ptr 128 0 1])
def e2L : AV × AV := (iv 2, .agg [.ptr 128 0 3, .ptr 128 0 2])
theorem longest_of (hk np : Int) (rows : List AV) (fw fh : List FloatT)
  (hc : lim F 64 [.agg [iv hk, .list 1 rows]] = some (iv 0, []))
  (h1 : lim F 72 [.agg [iv hk, .list 1 rows], iv 1] = some (.func 116 [.iptr (.agg [iv np]) 0, .iptr (.agg [.meth 114 (.agg [iv hk, .list 1 rows])]) 0, .iptr (.agg [iv 1]) 0], []))
  (h2 : lim F 72 [.agg [iv hk, .list 1 rows], iv 2] = some (.func 116 [.iptr (.agg [iv hk]) 0, .iptr (.agg [.meth 115 (.agg [iv hk, .list 1 rows])]) 0, .iptr (.agg [iv 2]) 0], []))
  (g1 : lim F 116 [.ylog none [], .iptr (.agg [iv np]) 0, .iptr (.agg [.meth 114 (.agg [iv hk, .list 1 rows])]) 0, .iptr (.agg [iv 1]) 0] = some (.tuple [], [.ylog none (fw.map fun f => [f.av])]))
  (g2 : lim F 116 [.ylog none [], .iptr (.agg [iv hk]) 0, .iptr (.agg [.meth 115 (.agg [iv hk, .list 1 rows])]) 0, .iptr (.agg [iv 2]) 0] = some (.tuple [], [.ylog none (fh.map fun f => [f.av])]))
  (k1 : lim F 116 [.ylog (some 0) (fw.map fun f => [f.av]), .iptr (.agg [iv np]) 0, .iptr (.agg [.meth 114 (.agg [iv hk, .list 1 rows])]) 0, .iptr (.agg [iv 1]) 0] = some (.tuple [], [.ylog (some 0) []]))
  (k2 : lim F 116 [.ylog (some 0) (fh.map fun f => [f.av]), .iptr (.agg [iv hk]) 0, .iptr (.agg [.meth 115 (.agg [iv hk, .list 1 rows])]) 0, .iptr (.agg [iv 2]) 0] = some (.tuple [], [.ylog (some 0) []])) :
  lim F 32 [.agg [iv hk, .list 1 rows]] = some (.tuple [.agg [iv (mxF false fw), iv (mxF true fw), iv (mxF true fh), iv (mxF false fh)], iv 0], []) := by
 have hN : (Value.pointer none).oneCell' = true := rfl;refine lim_by (fn := a32) (k := 1) (res := [.cell 2 4 true, .tmp 3]) rfl rfl rfl (by simp -implicitDefEqProofs (maxSteps := 2000000) (disch := first | exact tt_rfl rfl | omega | (simp only [go_sem] <;> omega) | fail) only [go_sem]) ?_
 try delta mvA
 try delta opA
 try delta tA
 simp -implicitDefEqProofs (maxSteps := 2000000) (disch := first | exact tt_rfl rfl | omega | (simp only [go_sem] <;> omega) | fail) only [go_sem]
 repeat (first | apply Wp.seqA | apply Wp.skipS | apply Wp.blockS | ((first | apply Wp.regS | apply Wp.condV | apply Wp.reg | apply Wp.condW | apply fin_ret); simp -implicitDefEqProofs (maxSteps := 2000000) (disch := first | exact tt_rfl rfl | omega | (simp only [go_sem] <;> omega) | fail) only [go_sem, hc] <;> try with_reducible rfl) | apply Wp.block | apply Wp.exitS | apply Wp.retS | apply Wp.exit | apply Wp.ret | apply Wp.skip)
 refine Wp.rangeM (fun l => ⟨[(1, .ptr 64 0 0), (2, .ptr 128 0 0), (23, .itT 1472)], [(64, .box [iv hk, .list 1 rows]), (128, .box [iv (if l.any (fun p => decide (keyI p.1 = 1)) then 0 else mxF false fw), iv (if l.any (fun p => decide (keyI p.1 = 1)) then 0 else mxF true fw), iv (if l.any (fun p => decide (keyI p.1 = 2)) then 0 else mxF true fh), iv (if l.any (fun p => decide (keyI p.1 = 2)) then 0 else mxF false fh)]), (1472, .iter l none)], [], 10000000⟩)
  (fun l => l = [e1L, e2L] ∨ l = [e1L] ∨ l = [e2L] ∨ l = []) [e1L, e2L] (id := 1472) ?_ (.inl rfl) (fun l _ => rfl) ?_ (.inr (.inr (.inr rfl))) ?_
 ·simp -implicitDefEqProofs (maxSteps := 2000000) (disch := first | exact tt_rfl rfl | omega | (simp only [go_sem] <;> omega) | fail) only [go_sem, norm_eq, Ok.some]
  simp [e1L, e2L, keyI]
 ·rintro l (rfl | rfl | rfl | rfl) i x hx
  ·match i, hx with
   | 0, hx =>
    cases hx;refine ⟨.inr (.inr (.inl rfl)), ?_⟩;rw [takeIt_eq];dsimp only [e1L, e2L, keyI, List.eraseIdx, List.any, Option.isSome];repeat (first | apply Wp.seqA | apply Wp.skipS | apply Wp.blockS | ((first | apply Wp.regS | apply Wp.condV | apply Wp.reg | apply Wp.condW | apply fin_ret); simp -implicitDefEqProofs (maxSteps := 2000000) (disch := first | exact tt_rfl rfl | omega | (simp only [go_sem] <;> omega) | fail) only [go_sem, h1, hN] <;> try with_reducible rfl) | apply Wp.block | apply Wp.exitS | apply Wp.retS | apply Wp.exit | apply Wp.ret | apply Wp.skip)
    refine Wp.rangeF (fun i fr => fr = ⟨[(1, .ptr 64 0 0), (2, .ptr 128 0 0), (6, .ptr 384 0 0), (23, .itT 1472)], [(64, .box [iv hk, .list 1 rows]), (128, .box [iv (mxF false (fw.take i)), iv (mxF true (fw.take i)), iv 0, iv 0]), (384, .box [.ptr 128 0 0, .ptr 128 0 1]), (1472, .iter [(iv 2, .agg [.ptr 128 0 3, .ptr 128 0 2])] none)], [], 10000000⟩) rfl rfl g1 k1 ?_ ?_ ?_
    ·simp -implicitDefEqProofs (maxSteps := 2000000) (disch := first | exact tt_rfl rfl | omega | (simp only [go_sem] <;> omega) | fail) only [go_sem, norm_eq, Ok.some]
     simp [mxF]
    ·rintro i x fr hx rfl
     have hlt : i < fw.length := by
      rcases Nat.lt_or_ge i fw.length with h | h
      ·exact h
      ·rw [List.getElem?_eq_none (by simpa using h)] at hx; cases hx
     have ex : x = [fw[i].av] := by
      rw [List.getElem?_map, List.getElem?_eq_getElem hlt] at hx;cases hx; rfl
     subst ex;refine ⟨_, rfl, ?_⟩;have m0 := mxF_take (b := false) hlt;have m1 := mxF_take (b := true) hlt;generalize mxF false (fw.take i) = a0 at *;generalize mxF true (fw.take i) = a1 at *;unfold FloatT.av;cases hup : fw[i].up
     ·repeat (first | apply Wp.seqA | apply Wp.skipS | apply Wp.blockS | ((first | apply Wp.regS | apply Wp.condV | apply Wp.reg | apply Wp.condW | apply fin_ret); simp -implicitDefEqProofs (maxSteps := 2000000) (disch := first | exact tt_rfl rfl | omega | (simp only [go_sem] <;> omega) | fail) only [go_sem, hup] <;> try with_reducible rfl) | apply Wp.block | apply Wp.exitS | apply Wp.retS | apply Wp.exit | apply Wp.ret | apply Wp.skip)
      apply block_norm;apply round_next
      ·simp -implicitDefEqProofs (maxSteps := 2000000) (disch := first | exact tt_rfl rfl | omega | (simp only [go_sem] <;> omega) | fail) only [go_sem, norm_eq, Ok.some]; with_reducible rfl
      rw [m0, m1];simp [mxStep, hup]
     ·repeat (first | apply Wp.seqA | apply Wp.skipS | apply Wp.blockS | ((first | apply Wp.regS | apply Wp.condV | apply Wp.reg | apply Wp.condW | apply fin_ret); simp -implicitDefEqProofs (maxSteps := 2000000) (disch := first | exact tt_rfl rfl | omega | (simp only [go_sem] <;> omega) | fail) only [go_sem, hup] <;> try with_reducible rfl) | apply Wp.block | apply Wp.exitS | apply Wp.retS | apply Wp.exit | apply Wp.ret | apply Wp.skip)
      apply block_norm;apply round_next
      ·simp -implicitDefEqProofs (maxSteps := 2000000) (disch := first | exact tt_rfl rfl | omega | (simp only [go_sem] <;> omega) | fail) only [go_sem, norm_eq, Ok.some]; with_reducible rfl
      rw [m0, m1];simp [mxStep, hup]
    ·rintro fr rfl
     rw [show fw.take (fw.map fun f => [f.av]).length = fw by simp]
     repeat (first | apply Wp.seqA | apply Wp.skipS | apply Wp.blockS | ((first | apply Wp.regS | apply Wp.condV | apply Wp.reg | apply Wp.condW | apply fin_ret); simp -implicitDefEqProofs (maxSteps := 2000000) (disch := first | exact tt_rfl rfl | omega | (simp only [go_sem] <;> omega) | fail) only [go_sem] <;> try with_reducible rfl) | apply Wp.block | apply Wp.exitS | apply Wp.retS | apply Wp.exit | apply Wp.ret | apply Wp.skip)
     refine ⟨rfl, ?_⟩;simp -implicitDefEqProofs (maxSteps := 2000000) (disch := first | exact tt_rfl rfl | omega | (simp only [go_sem] <;> omega) | fail) only [go_sem, norm_eq, Ok.some]
     try simp
   | 1, hx =>
    cases hx;refine ⟨.inr (.inl rfl), ?_⟩;rw [takeIt_eq];dsimp only [e1L, e2L, keyI, List.eraseIdx, List.any, Option.isSome];repeat (first | apply Wp.seqA | apply Wp.skipS | apply Wp.blockS | ((first | apply Wp.regS | apply Wp.condV | apply Wp.reg | apply Wp.condW | apply fin_ret); simp -implicitDefEqProofs (maxSteps := 2000000) (disch := first | exact tt_rfl rfl | omega | (simp only [go_sem] <;> omega) | fail) only [go_sem, h2, hN] <;> try with_reducible rfl) | apply Wp.block | apply Wp.exitS | apply Wp.retS | apply Wp.exit | apply Wp.ret | apply Wp.skip)
    refine Wp.rangeF (fun i fr => fr = ⟨[(1, .ptr 64 0 0), (2, .ptr 128 0 0), (6, .ptr 384 0 0), (23, .itT 1472)], [(64, .box [iv hk, .list 1 rows]), (128, .box [iv 0, iv 0, iv (mxF true (fh.take i)), iv (mxF false (fh.take i))]), (384, .box [.ptr 128 0 3, .ptr 128 0 2]), (1472, .iter [(iv 1, .agg [.ptr 128 0 0, .ptr 128 0 1])] none)], [], 10000000⟩) rfl rfl g2 k2 ?_ ?_ ?_
    ·simp -implicitDefEqProofs (maxSteps := 2000000) (disch := first | exact tt_rfl rfl | omega | (simp only [go_sem] <;> omega) | fail) only [go_sem, norm_eq, Ok.some]
     simp [mxF]
    ·rintro i x fr hx rfl
     have hlt : i < fh.length := by
      rcases Nat.lt_or_ge i fh.length with h | h
      ·exact h
      ·rw [List.getElem?_eq_none (by simpa using h)] at hx; cases hx
     have ex : x = [fh[i].av] := by
      rw [List.getElem?_map, List.getElem?_eq_getElem hlt] at hx;cases hx; rfl
     subst ex;refine ⟨_, rfl, ?_⟩;have m0 := mxF_take (b := false) hlt;have m1 := mxF_take (b := true) hlt;generalize mxF false (fh.take i) = a0 at *;generalize mxF true (fh.take i) = a1 at *;unfold FloatT.av;cases hup : fh[i].up
     ·repeat (first | apply Wp.seqA | apply Wp.skipS | apply Wp.blockS | ((first | apply Wp.regS | apply Wp.condV | apply Wp.reg | apply Wp.condW | apply fin_ret); simp -implicitDefEqProofs (maxSteps := 2000000) (disch := first | exact tt_rfl rfl | omega | (simp only [go_sem] <;> omega) | fail) only [go_sem, hup] <;> try with_reducible rfl) | apply Wp.block | apply Wp.exitS | apply Wp.retS | apply Wp.exit | apply Wp.ret | apply Wp.skip)
      apply block_norm;apply round_next
      ·simp -implicitDefEqProofs (maxSteps := 2000000) (disch := first | exact tt_rfl rfl | omega | (simp only [go_sem] <;> omega) | fail) only [go_sem, norm_eq, Ok.some]; with_reducible rfl
      rw [m0, m1];simp [mxStep, hup]
     ·repeat (first | apply Wp.seqA | apply Wp.skipS | apply Wp.blockS | ((first | apply Wp.regS | apply Wp.condV | apply Wp.reg | apply Wp.condW | apply fin_ret); simp -implicitDefEqProofs (maxSteps := 2000000) (disch := first | exact tt_rfl rfl | omega | (simp only [go_sem] <;> omega) | fail) only [go_sem, hup] <;> try with_reducible rfl) | apply Wp.block | apply Wp.exitS | apply Wp.retS | apply Wp.exit | apply Wp.ret | apply Wp.skip)
      apply block_norm;apply round_next
      ·simp -implicitDefEqProofs (maxSteps := 2000000) (disch := first | exact tt_rfl rfl | omega | (simp only [go_sem] <;> omega) | fail) only [go_sem, norm_eq, Ok.some]; with_reducible rfl
      rw [m0, m1];simp [mxStep, hup]
    ·rintro fr rfl
     rw [show fh.take (fh.map fun f => [f.av]).length = fh by simp]
     repeat (first | apply Wp.seqA | apply Wp.skipS | apply Wp.blockS | ((first | apply Wp.regS | apply Wp.condV | apply Wp.reg | apply Wp.condW | apply fin_ret); simp -implicitDefEqProofs (maxSteps := 2000000) (disch := first | exact tt_rfl rfl | omega | (simp only [go_sem] <;> omega) | fail) only [go_sem] <;> try with_reducible rfl) | apply Wp.block | apply Wp.exitS | apply Wp.retS | apply Wp.exit | apply Wp.ret | apply Wp.skip)
     refine ⟨rfl, ?_⟩;simp -implicitDefEqProofs (maxSteps := 2000000) (disch := first | exact tt_rfl rfl | omega | (simp only [go_sem] <;> omega) | fail) only [go_sem, norm_eq, Ok.some]
     try simp
  ·match i, hx with
   | 0, hx =>
    cases hx;refine ⟨.inr (.inr (.inr rfl)), ?_⟩;rw [takeIt_eq];dsimp only [e1L, e2L, keyI, List.eraseIdx, List.any, Option.isSome];repeat (first | apply Wp.seqA | apply Wp.skipS | apply Wp.blockS | ((first | apply Wp.regS | apply Wp.condV | apply Wp.reg | apply Wp.condW | apply fin_ret); simp -implicitDefEqProofs (maxSteps := 2000000) (disch := first | exact tt_rfl rfl | omega | (simp only [go_sem] <;> omega) | fail) only [go_sem, h1, hN] <;> try with_reducible rfl) | apply Wp.block | apply Wp.exitS | apply Wp.retS | apply Wp.exit | apply Wp.ret | apply Wp.skip)
    refine Wp.rangeF (fun i fr => fr = ⟨[(1, .ptr 64 0 0), (2, .ptr 128 0 0), (6, .ptr 384 0 0), (23, .itT 1472)], [(64, .box [iv hk, .list 1 rows]), (128, .box [iv (mxF false (fw.take i)), iv (mxF true (fw.take i)), iv (mxF true fh), iv (mxF false fh)]), (384, .box [.ptr 128 0 0, .ptr 128 0 1]), (1472, .iter [] none)], [], 10000000⟩) rfl rfl g1 k1 ?_ ?_ ?_
    ·simp -implicitDefEqProofs (maxSteps := 2000000) (disch := first | exact tt_rfl rfl | omega | (simp only [go_sem] <;> omega) | fail) only [go_sem, norm_eq, Ok.some]
     simp [mxF]
    ·rintro i x fr hx rfl
     have hlt : i < fw.length := by
      rcases Nat.lt_or_ge i fw.length with h | h
      ·exact h
      ·rw [List.getElem?_eq_none (by simpa using h)] at hx; cases hx
     have ex : x = [fw[i].av] := by
      rw [List.getElem?_map, List.getElem?_eq_getElem hlt] at hx;cases hx; rfl
     subst ex;refine ⟨_, rfl, ?_⟩;have m0 := mxF_take (b := false) hlt;have m1 := mxF_take (b := true) hlt;generalize mxF false (fw.take i) = a0 at *;generalize mxF true (fw.take i) = a1 at *;unfold FloatT.av;cases hup : fw[i].up
     ·repeat (first | apply Wp.seqA | apply Wp.skipS | apply Wp.blockS | ((first | apply Wp.regS | apply Wp.condV | apply Wp.reg | apply Wp.condW | apply fin_ret); simp -implicitDefEqProofs (maxSteps := 2000000) (disch := first | exact tt_rfl rfl | omega | (simp only [go_sem] <;> omega) | fail) only [go_sem, hup] <;> try with_reducible rfl) | apply Wp.block | apply Wp.exitS | apply Wp.retS | apply Wp.exit | apply Wp.ret | apply Wp.skip)
      apply block_norm;apply round_next
      ·simp -implicitDefEqProofs (maxSteps := 2000000) (disch := first | exact tt_rfl rfl | omega | (simp only [go_sem] <;> omega) | fail) only [go_sem, norm_eq, Ok.some]; with_reducible rfl
      rw [m0, m1];simp [mxStep, hup]
     ·repeat (first | apply Wp.seqA | apply Wp.skipS | apply Wp.blockS | ((first | apply Wp.regS | apply Wp.condV | apply Wp.reg | apply Wp.condW | apply fin_ret); simp -implicitDefEqProofs (maxSteps := 2000000) (disch := first | exact tt_rfl rfl | omega | (simp only [go_sem] <;> omega) | fail) only [go_sem, hup] <;> try with_reducible rfl) | apply Wp.block | apply Wp.exitS | apply Wp.retS | apply Wp.exit | apply Wp.ret | apply Wp.skip)
      apply block_norm;apply round_next
      ·simp -implicitDefEqProofs (maxSteps := 2000000) (disch := first | exact tt_rfl rfl | omega | (simp only [go_sem] <;> omega) | fail) only [go_sem, norm_eq, Ok.some]; with_reducible rfl
      rw [m0, m1];simp [mxStep, hup]
    ·rintro fr rfl
     rw [show fw.take (fw.map fun f => [f.av]).length = fw by simp]
     repeat (first | apply Wp.seqA | apply Wp.skipS | apply Wp.blockS | ((first | apply Wp.regS | apply Wp.condV | apply Wp.reg | apply Wp.condW | apply fin_ret); simp -implicitDefEqProofs (maxSteps := 2000000) (disch := first | exact tt_rfl rfl | omega | (simp only [go_sem] <;> omega) | fail) only [go_sem] <;> try with_reducible rfl) | apply Wp.block | apply Wp.exitS | apply Wp.retS | apply Wp.exit | apply Wp.ret | apply Wp.skip)
     refine ⟨rfl, ?_⟩;simp -implicitDefEqProofs (maxSteps := 2000000) (disch := first | exact tt_rfl rfl | omega | (simp only [go_sem] <;> omega) | fail) only [go_sem, norm_eq, Ok.some]
     try simp
  ·match i, hx with
   | 0, hx =>
    cases hx;refine ⟨.inr (.inr (.inr rfl)), ?_⟩;rw [takeIt_eq];dsimp only [e1L, e2L, keyI, List.eraseIdx, List.any, Option.isSome];repeat (first | apply Wp.seqA | apply Wp.skipS | apply Wp.blockS | ((first | apply Wp.regS | apply Wp.condV | apply Wp.reg | apply Wp.condW | apply fin_ret); simp -implicitDefEqProofs (maxSteps := 2000000) (disch := first | exact tt_rfl rfl | omega | (simp only [go_sem] <;> omega) | fail) only [go_sem, h2, hN] <;> try with_reducible rfl) | apply Wp.block | apply Wp.exitS | apply Wp.retS | apply Wp.exit | apply Wp.ret | apply Wp.skip)
    refine Wp.rangeF (fun i fr => fr = ⟨[(1, .ptr 64 0 0), (2, .ptr 128 0 0), (6, .ptr 384 0 0), (23, .itT 1472)], [(64, .box [iv hk, .list 1 rows]), (128, .box [iv (mxF false fw), iv (mxF true fw), iv (mxF true (fh.take i)), iv (mxF false (fh.take i))]), (384, .box [.ptr 128 0 3, .ptr 128 0 2]), (1472, .iter [] none)], [], 10000000⟩) rfl rfl g2 k2 ?_ ?_ ?_
    ·simp -implicitDefEqProofs (maxSteps := 2000000) (disch := first | exact tt_rfl rfl | omega | (simp only [go_sem] <;> omega) | fail) only [go_sem, norm_eq, Ok.some]
     simp [mxF]
    ·rintro i x fr hx rfl
     have hlt : i < fh.length := by
      rcases Nat.lt_or_ge i fh.length with h | h
      ·exact h
      ·rw [List.getElem?_eq_none (by simpa using h)] at hx; cases hx
     have ex : x = [fh[i].av] := by
      rw [List.getElem?_map, List.getElem?_eq_getElem hlt] at hx;cases hx; rfl
     subst ex;refine ⟨_, rfl, ?_⟩;have m0 := mxF_take (b := false) hlt;have m1 := mxF_take (b := true) hlt;generalize mxF false (fh.take i) = a0 at *;generalize mxF true (fh.take i) = a1 at *;unfold FloatT.av;cases hup : fh[i].up
     ·repeat (first | apply Wp.seqA | apply Wp.skipS | apply Wp.blockS | ((first | apply Wp.regS | apply Wp.condV | apply Wp.reg | apply Wp.condW | apply fin_ret); simp -implicitDefEqProofs (maxSteps := 2000000) (disch := first | exact tt_rfl rfl | omega | (simp only [go_sem] <;> omega) | fail) only [go_sem, hup] <;> try with_reducible rfl) | apply Wp.block | apply Wp.exitS | apply Wp.retS | apply Wp.exit | apply Wp.ret | apply Wp.skip)
      apply block_norm;apply round_next
      ·simp -implicitDefEqProofs (maxSteps := 2000000) (disch := first | exact tt_rfl rfl | omega | (simp only [go_sem] <;> omega) | fail) only [go_sem, norm_eq, Ok.some]; with_reducible rfl
      rw [m0, m1];simp [mxStep, hup]
     ·repeat (first | apply Wp.seqA | apply Wp.skipS | apply Wp.blockS | ((first | apply Wp.regS | apply Wp.condV | apply Wp.reg | apply Wp.condW | apply fin_ret); simp -implicitDefEqProofs (maxSteps := 2000000) (disch := first | exact tt_rfl rfl | omega | (simp only [go_sem] <;> omega) | fail) only [go_sem, hup] <;> try with_reducible rfl) | apply Wp.block | apply Wp.exitS | apply Wp.retS | apply Wp.exit | apply Wp.ret | apply Wp.skip)
      apply block_norm;apply round_next
      ·simp -implicitDefEqProofs (maxSteps := 2000000) (disch := first | exact tt_rfl rfl | omega | (simp only [go_sem] <;> omega) | fail) only [go_sem, norm_eq, Ok.some]; with_reducible rfl
      rw [m0, m1];simp [mxStep, hup]
    ·rintro fr rfl
     rw [show fh.take (fh.map fun f => [f.av]).length = fh by simp]
     repeat (first | apply Wp.seqA | apply Wp.skipS | apply Wp.blockS | ((first | apply Wp.regS | apply Wp.condV | apply Wp.reg | apply Wp.condW | apply fin_ret); simp -implicitDefEqProofs (maxSteps := 2000000) (disch := first | exact tt_rfl rfl | omega | (simp only [go_sem] <;> omega) | fail) only [go_sem] <;> try with_reducible rfl) | apply Wp.block | apply Wp.exitS | apply Wp.retS | apply Wp.exit | apply Wp.ret | apply Wp.skip)
     refine ⟨rfl, ?_⟩;simp -implicitDefEqProofs (maxSteps := 2000000) (disch := first | exact tt_rfl rfl | omega | (simp only [go_sem] <;> omega) | fail) only [go_sem, norm_eq, Ok.some]
     try simp
  ·simp at hx
 ·rw [takeIt_eq]
  dsimp only [e1L, e2L, keyI, List.eraseIdx, List.any, Option.isSome];repeat (first | apply Wp.seqA | apply Wp.skipS | apply Wp.blockS | ((first | apply Wp.regS | apply Wp.condV | apply Wp.reg | apply Wp.condW | apply fin_ret); simp -implicitDefEqProofs (maxSteps := 2000000) (disch := first | exact tt_rfl rfl | omega | (simp only [go_sem] <;> omega) | fail) only [go_sem] <;> try with_reducible rfl) | apply Wp.block | apply Wp.exitS | apply Wp.retS | apply Wp.exit | apply Wp.ret | apply Wp.skip)
  refine ⟨by simp, ?_⟩
  repeat (first | apply Wp.seqA | apply Wp.skipS | apply Wp.blockS | ((first | apply Wp.regS | apply Wp.condV | apply Wp.reg | apply Wp.condW | apply fin_ret); simp -implicitDefEqProofs (maxSteps := 2000000) (disch := first | exact tt_rfl rfl | omega | (simp only [go_sem] <;> omega) | fail) only [go_sem] <;> try with_reducible rfl) | apply Wp.block | apply Wp.exitS | apply Wp.retS | apply Wp.exit | apply Wp.ret | apply Wp.skip)
end Go.Abs
set_option linter.all false
namespace Go.Abs
set_option maxRecDepth 10000
def lengthT (l : List Bool) (a : Nat) : Nat := if begs l a then lenT l a else if anyTo l l.length then 0 else if a = 0 then 1000 else 0
def refTo (l : List Bool) (b : Int) (k : Nat) : List RunT := ((List.range k).filter fun k => decide (lengthT l k ≠ 0) && decide (b < lengthT l k)).map fun k => ⟨k, lengthT l k, gb l k⟩
def floatW (i : Nat) (x : RunT) : FloatT := ⟨i, x.first, x.len, x.up⟩
def floatH (i : Nat) (x : RunT) : FloatT := ⟨x.first, i, x.len, x.up⟩
def pickR (d : DesN) (i : Nat) : List Bool := (List.range d.hk).map fun h => (d.rows.getD i 0).testBit h
def hookR (d : DesN) (h : Nat) : List Bool := d.rows.map fun r => r.testBit h
theorem pickR_len (d : DesN) (i : Nat) : (pickR d i).length = d.hk := by simp [pickR]
theorem hookR_len (d : DesN) (i : Nat) : (hookR d i).length = d.rows.length := by simp [hookR]
def flTo (R : Nat → List Bool) (mk : Nat → RunT → FloatT) (i : Nat) : List FloatT := (List.range i).flatMap fun i => (runsT (R i)).map (mk i)
theorem flTo_succ (R : Nat → List Bool) (mk : Nat → RunT → FloatT) (i : Nat) : flTo R mk (i + 1) = flTo R mk i ++ (runsT (R i)).map (mk i) := by
 unfold flTo; rw [List.range_succ, List.flatMap_append]; simp
def flFrom (R : Nat → List Bool) (mk : Nat → RunT → FloatT) (i n : Nat) : List FloatT := (List.range' i (n - i)).flatMap fun i => (runsT (R i)).map (mk i)
theorem flFrom_step {R : Nat → List Bool} {mk : Nat → RunT → FloatT} {i n : Nat} (h : i < n) : flFrom R mk i n = (runsT (R i)).map (mk i) ++ flFrom R mk (i + 1) n := by
 unfold flFrom;rw [show n - i = (n - (i + 1)) + 1 by omega, List.range'_succ, List.flatMap_cons]
theorem flFrom_zero (R : Nat → List Bool) (mk : Nat → RunT → FloatT) (n : Nat) : flFrom R mk 0 n = flTo R mk n := by
 unfold flFrom flTo; rw [List.range_eq_range', Nat.sub_zero]
theorem flFrom_end (R : Nat → List Bool) (mk : Nat → RunT → FloatT) (n : Nat) : flFrom R mk n n = [] := by
 unfold flFrom; rw [Nat.sub_self]; rfl
def weftF (d : DesN) : List FloatT := flTo (pickR d) floatW d.rows.length
def warpF (d : DesN) : List FloatT := flTo (hookR d) floatH d.hk
end Go.Abs
set_option linter.all false
namespace Go.Abs
set_option maxRecDepth 10000
def sameP (d : DesN) (k : Nat) : Bool := decide (d.rows.drop k = d.rows.take (d.rows.length - k))
def sameRow (hk k r : Nat) : Bool := decide (r >>> k = r &&& (2 ^ (hk - k) - 1))
def sameH (d : DesN) (k : Nat) : Bool := d.rows.all (sameRow d.hk k)
def leastP (d : DesN) : Nat := perT d.rows.length (sameP d)
def leastH (d : DesN) : Nat := perT d.hk (sameH d)
def wholeR (R : Nat → List Bool) (n k : Nat) : Bool := (List.range n).all fun i => decide (R i = R (i % k))
theorem wholeR_iff {R : Nat → List Bool} {n k : Nat} : wholeR R n k = true ↔ ∀ i, i < n → R i = R (i % k) := by
 unfold wholeR;simp
theorem whole_self (R : Nat → List Bool) (n : Nat) : wholeR R n n = true := wholeR_iff.2 fun i hi => by rw [Nat.mod_eq_of_lt hi]
theorem rows_get {d : DesN} {i : Nat} (h : i < d.rows.length) : d.rows.getD i 0 = d.rows[i] := by
 rw [List.getD_eq_getElem?_getD, List.getElem?_eq_getElem h]; rfl
theorem pickR_get {d : DesN} {i h : Nat} (hh : h < d.hk) : (pickR d i)[h]'(by rw [pickR_len]; exact hh) = (d.rows.getD i 0).testBit h := by
 simp [pickR]
theorem hookR_get {d : DesN} {i h : Nat} (hi : i < d.rows.length) : (hookR d h)[i]'(by rw [hookR_len]; exact hi) = (d.rows.getD i 0).testBit h := by
 simp [hookR, List.getElem?_eq_getElem hi]
theorem pickR_inj {d : DesN} (hd : d.Ok) {i j : Nat} (hi : i < d.rows.length) (hj : j < d.rows.length) : pickR d i = pickR d j ↔ d.rows[i] = d.rows[j] := by
 constructor
 ·intro h
  have h1 := hd.lt _ (List.getElem_mem hi);have h2 := hd.lt _ (List.getElem_mem hj);refine row_eq h1 h2 fun k hk => ?_
  have e1 := pickR_get (d := d) (i := i) hk;have e2 := pickR_get (d := d) (i := j) hk;rw [rows_get hi] at e1;rw [rows_get hj] at e2;rw [← e1, ← e2]
  congr 1
 ·intro h
  unfold pickR;rw [rows_get hi, rows_get hj, h]
theorem sameP_iff {d : DesN} (hd : d.Ok) {k : Nat} (h1 : 1 ≤ k) (hk : k < d.rows.length) : sameP d k = wholeR (pickR d) d.rows.length k := by
 have key : sameP d k = true ↔ wholeR (pickR d) d.rows.length k = true := by
  rw [wholeR_iff, ← period_iff h1 hk];unfold sameP;rw [decide_eq_true_eq];constructor
  ·intro h i hi
   have e : (d.rows.drop k)[i]? = (d.rows.take (d.rows.length - k))[i]? := by rw [h]
   rw [List.getElem?_drop, List.getElem?_take, if_pos hi, List.getElem?_eq_getElem (by omega), List.getElem?_eq_getElem (by omega), Option.some.injEq] at e
   rw [pickR_inj hd (by omega) (by omega), ← e]
   congr 1; omega
  ·intro h
   apply List.ext_getElem
   ·simp
   ·intro i hi1 hi2
    rw [List.getElem_drop, List.getElem_take];simp at hi1;have := (pickR_inj hd (i := i + k) (j := i) (by omega) (by omega)).1 (h i (by omega))
    rw [← this]
    congr 1; omega
 cases h : sameP d k <;> cases h' : wholeR (pickR d) d.rows.length k <;> simp_all
theorem leastP_eq {d : DesN} (hd : d.Ok) : leastP d = perT d.rows.length (wholeR (pickR d) d.rows.length) :=
 perT_congr fun k h1 h2 _ => sameP_iff hd h1 h2
theorem sameRow_iff {hk k r : Nat} (hr : r < 2 ^ hk) (hlt : k < hk) : sameRow hk k r = true ↔ ∀ j, j < hk - k → r.testBit (j + k) = r.testBit j := by
 unfold sameRow;rw [decide_eq_true_eq];constructor
 ·intro h j hj
  have := congrArg (fun x => Nat.testBit x j) h
  simp only [Nat.testBit_shiftRight, Nat.testBit_and, Nat.testBit_two_pow_sub_one, decide_eq_true hj, Bool.and_true] at this;rw [Nat.add_comm]; exact this
 ·intro h
  apply Nat.eq_of_testBit_eq;intro j;rw [Nat.testBit_shiftRight, Nat.testBit_and, Nat.testBit_two_pow_sub_one];by_cases hj : j < hk - k
  ·rw [decide_eq_true hj, Bool.and_true, Nat.add_comm]; exact h j hj
  ·rw [decide_eq_false hj, Bool.and_false]
   have hp : 2 ^ hk ≤ 2 ^ (k + j) := Nat.pow_le_pow_right (by omega) (by omega)
   exact Nat.testBit_lt_two_pow (Nat.lt_of_lt_of_le hr hp)
theorem sameH_iff {d : DesN} (hd : d.Ok) {k : Nat} (h1 : 1 ≤ k) (hk : k < d.hk) : sameH d k = wholeR (hookR d) d.hk k := by
 have key : sameH d k = true ↔ wholeR (hookR d) d.hk k = true := by
  rw [wholeR_iff, ← period_iff h1 hk];unfold sameH;rw [List.all_eq_true];constructor
  ·intro h j hj
   unfold hookR;exact List.map_congr_left fun r hr => (sameRow_iff (hd.lt r hr) hk).1 (h r hr) j hj
  ·intro h r hr
   refine (sameRow_iff (hd.lt r hr) hk).2 fun j hj => ?_
   have := h j hj;unfold hookR at this;exact List.map_inj_left.1 this r hr
 cases h : sameH d k <;> cases h' : wholeR (hookR d) d.hk k <;> simp_all
theorem leastH_eq {d : DesN} (hd : d.Ok) : leastH d = perT d.hk (wholeR (hookR d) d.hk) :=
 perT_congr fun k h1 h2 _ => sameH_iff hd h1 h2
end Go.Abs
set_option linter.all false
namespace Go.Abs
set_option maxRecDepth 10000
set_option maxHeartbeats 2000000
def largeT (l : List DesA) : Bool := l.any fun d => decide (70 < d.rows.length)
def likeT (a b : DesA) : Bool := decide (a.hk = b.hk) && decide (a.rows.length = b.rows.length)
def sameT (a b : DesA) : Bool := decide (a.hk = b.hk) && decide (a.rows = b.rows)
end Go.Abs
set_option linter.all false
namespace Go.Abs
set_option maxRecDepth 10000
set_option maxHeartbeats 2000000
def ringV (l : List Bool) : AV := .list 1 (l.map fun b => .bool b)
def tabV (t : List (List Bool)) : List AV := t.map ringV
@[go_sem] theorem bool_plain (l : List Bool) : (l.map fun b => AV.bool b).all AV.plain = true := by
 simp [AV.plain, AV.plain1]
def ptsT (r n : Nat) : List Bool := (List.range n).map fun h => r.testBit h
def tabN (d : DesN) (k : Nat) : List (List Bool) := (d.rows.take k).map fun r => ptsT r d.hk
def overT (t : List (List Bool)) (n : Nat) : List (List Bool) := (List.range n).map fun h => t.map fun l => l.getD h false
def wholeT (t : List (List Bool)) (k : Nat) : Bool := decide (t.length % k = 0) && wholeR (fun i => t.getD i []) t.length k
end Go.Abs
set_option linter.all false
namespace Go.Abs
set_option maxRecDepth 10000
set_option maxHeartbeats 2000000
theorem ring_get {l : List Bool} {i : Nat} (h : 0 < l.length) : (l.map fun b => AV.bool b)[i % l.length]? = some (.bool (gb l i)) := by
 rw [List.getElem?_map, gb_get h]; rfl
theorem ring_at {l : List Bool} {i : Nat} (h : i < l.length) : (l.map fun b => AV.bool b)[i]? = some (.bool (gb l i)) := by
 have := ring_get (l := l) (i := i) (by omega)
 rwa [Nat.mod_eq_of_lt h] at this
theorem begins_ok (l : List Bool) (i : Nat) (hi : i < l.length) (hl : l.length ≤ 1000) : lim F 150 [iv (i : Int), .iptr (.agg [ringV l]) 0] = some (.bool (begs l i), []) := by
 have g1 := ring_at hi;have g2 := ring_get (l := l) (i := i + l.length - 1) (by omega)
 have e : Int.tmod ((i : Int) + l.length - 1) (l.length : Int) = (((i + l.length - 1) % l.length : Nat) : Int) := by
  rw [show (i : Int) + l.length - 1 = ((i + l.length - 1 : Nat) : Int) by omega, Int.tmod_eq_emod_of_nonneg (Int.natCast_nonneg _)]; simp
 have hm := Nat.mod_lt (i + l.length - 1) (show 0 < l.length by omega)
 have hlen : (l.map fun b => AV.bool b).length = l.length := by simp
 have hb : begs l i = (gb l i != gb l (i + l.length - 1)) := rfl;unfold ringV;rw [hb];generalize l.map (fun b => AV.bool b) = es at *
 generalize (i + l.length - 1) % l.length = m at *;generalize gb l i = x at *;generalize gb l (i + l.length - 1) = y at *;refine lim_by (fn := a150) (k := 2) (res := [.tmp 3]) rfl rfl rfl (by simp -implicitDefEqProofs (maxSteps := 2000000) (disch := first | exact tt_rfl rfl | omega | (simp only [go_sem] <;> omega) | fail) only [go_sem]) ?_
 try delta mvA
 try delta opA
 try delta tA
 simp -implicitDefEqProofs (maxSteps := 2000000) (disch := first | exact tt_rfl rfl | omega | (simp only [go_sem] <;> omega) | fail) only [go_sem]
 repeat (first | apply Wp.seqA | apply Wp.skipS | apply Wp.blockS | ((first | apply Wp.regS | apply Wp.condV | apply Wp.reg | apply Wp.condW | apply fin_ret); simp -implicitDefEqProofs (maxSteps := 2000000) (disch := first | exact tt_rfl rfl | omega | (simp only [go_sem] <;> omega) | fail) only [go_sem, hlen, g1, g2, e, Int.toNat_natCast, show (l.length : Int) ≠ 0 by omega] <;> try with_reducible rfl) | apply Wp.block | apply Wp.exitS | apply Wp.retS | apply Wp.exit | apply Wp.ret | apply Wp.skip)
 cases x <;> cases y <;> rfl
def runV (x : RunT) : List AV := [x.av]
theorem run_beq (x : RunT) : AV.beqL [x.av] [x.av] = true := by
 unfold RunT.av;simp [AV.beqL, AV.beq]
theorem runs_guess (l : List Bool) (h0 : 0 < l.length) (hl : l.length ≤ 1000) : lim F 117 [ringV l, .ylog none []] = some (.tuple [], [.ylog none ((runsT l).map runV)]) := by
 have hlen : (l.map fun b => AV.bool b).length = l.length := by simp
 have hB := fun (i : Nat) (hi : i < l.length) => begins_ok l i hi hl
 have hA := fun (i : Nat) (hi : i < l.length) => ring_at hi
 have hz : anyTo l 0 = false := rfl;have eT : runsT l = runsTo l l.length ++ lastT l := rfl;unfold ringV at *;generalize l.map (fun b => AV.bool b) = es at *
 refine lim_by (fn := a117) (k := 2) (res := []) rfl rfl rfl (by simp -implicitDefEqProofs (maxSteps := 2000000) (disch := first | exact tt_rfl rfl | omega | (simp only [go_sem] <;> omega) | fail) only [go_sem]) ?_
 try delta mvA
 try delta opA
 try delta tA
 simp -implicitDefEqProofs (maxSteps := 2000000) (disch := first | exact tt_rfl rfl | omega | (simp only [go_sem] <;> omega) | fail) only [go_sem]
 repeat (first | apply Wp.seqA | apply Wp.skipS | apply Wp.blockS | ((first | apply Wp.regS | apply Wp.condV | apply Wp.reg | apply Wp.condW | apply fin_ret); simp -implicitDefEqProofs (maxSteps := 2000000) (disch := first | exact tt_rfl rfl | omega | (simp only [go_sem] <;> omega) | fail) only [go_sem, hlen] <;> try with_reducible rfl) | apply Wp.block | apply Wp.exitS | apply Wp.retS | apply Wp.exit | apply Wp.ret | apply Wp.skip)
 apply Wp.loopF l.length (fun i => ⟨[(1, .yieldT 200000), (2, .ptr 128 0 0), (4, .func 150 [.ptr 128 0 0]), (5, .bool (!anyTo l i)), (10, iv (l.length : Int)), (11, iv (i : Int))], [(128, .box [.list 1 es]), (200000, .num 3500000), (3500000, .log none ((runsTo l i).map runV))], [(200000, none)], 10000000⟩) (fun _ => True)
 ·simp -implicitDefEqProofs (maxSteps := 2000000) (disch := first | exact tt_rfl rfl | omega | (simp only [go_sem] <;> omega) | fail) only [go_sem, norm_eq, Ok.some]
  rfl
 ·trivial
 intro i hi _;by_cases h : i < l.length
 ·have hb := hB i h
  have ha := hA i h;have hs := anyTo_succ l i;have hr := runsTo_succ l i;cases hbe : begs l i with
  | false =>
   rw [hbe] at hb hs hr;rw [Bool.or_false] at hs;rw [if_neg (by simp)] at hr
   repeat (first | apply Wp.seqA | apply Wp.skipS | apply Wp.blockS | ((first | apply Wp.regS | apply Wp.condV | apply Wp.reg | apply Wp.condW | apply fin_ret); simp -implicitDefEqProofs (maxSteps := 2000000) (disch := first | exact tt_rfl rfl | omega | (simp only [go_sem] <;> omega) | fail) only [go_sem, h, Int.ofNat_lt, hb] <;> try with_reducible rfl) | apply Wp.block | apply Wp.exitS | apply Wp.retS | apply Wp.exit | apply Wp.ret | apply Wp.skip)
   apply round_next
   ·simp -implicitDefEqProofs (maxSteps := 2000000) (disch := first | exact tt_rfl rfl | omega | (simp only [go_sem] <;> omega) | fail) only [go_sem, norm_eq, Ok.some]; with_reducible rfl
   refine ⟨h, ?_, trivial⟩;rw [hs, hr, List.append_nil];simp
  | true =>
   have hL := lenT_is hbe;have hpos := hL.pos;have hlt := hL.lt;have hbs := hL.begs;have hbe' := hL.end;rw [hbe] at hb hs hr;rw [Bool.or_true] at hs;rw [if_pos rfl] at hr;have ex : runAt l i = ⟨i, lenT l i, gb l i⟩ := rfl;generalize hn : lenT l i = n at *;generalize hup : gb l i = up at *;repeat (first | apply Wp.seqA | apply Wp.skipS | apply Wp.blockS | ((first | apply Wp.regS | apply Wp.condV | apply Wp.reg | apply Wp.condW | apply fin_ret); simp -implicitDefEqProofs (maxSteps := 2000000) (disch := first | exact tt_rfl rfl | omega | (simp only [go_sem] <;> omega) | fail) only [go_sem, h, Int.ofNat_lt, hb, ha] <;> try with_reducible rfl) | apply Wp.block | apply Wp.exitS | apply Wp.retS | apply Wp.exit | apply Wp.ret | apply Wp.skip)
   apply Wp.loopF (n - 1) (fun k => ⟨[(1, .yieldT 200000), (2, .ptr 128 0 0), (4, .func 150 [.ptr 128 0 0]), (5, .bool false), (6, iv (i : Int)), (7, .ptr 448 0 0), (10, iv (l.length : Int)), (11, iv (i : Int))], [(128, .box [.list 1 es]), (448, .box [iv (i : Int), iv ((k + 1 : Nat) : Int), .bool up]), (200000, .num 3500000), (3500000, .log none ((runsTo l i).map runV))], [(200000, none)], 10000000⟩) (fun _ => True)
   ·simp -implicitDefEqProofs (maxSteps := 2000000) (disch := first | exact tt_rfl rfl | omega | (simp only [go_sem] <;> omega) | fail) only [go_sem, norm_eq, Ok.some]
    rfl
   ·trivial
   intro k hk _;have hm := Nat.mod_lt (i + (k + 1)) h0;have hb2 := hB _ hm;rw [begs_mod] at hb2;have e : Int.tmod ((i : Int) + ((k + 1 : Nat) : Int)) (l.length : Int) = (((i + (k + 1)) % l.length : Nat) : Int) := by
    rw [show (i : Int) + ((k + 1 : Nat) : Int) = ((i + (k + 1) : Nat) : Int) by omega, Int.tmod_eq_emod_of_nonneg (Int.natCast_nonneg _)]; simp
   by_cases hkn : k < n - 1
   ·rw [hbs (k + 1) (by omega) (by omega)] at hb2
    generalize (i + (k + 1)) % l.length = m at *;repeat (first | apply Wp.seqA | apply Wp.skipS | apply Wp.blockS | ((first | apply Wp.regS | apply Wp.condV | apply Wp.reg | apply Wp.condW | apply fin_ret); simp -implicitDefEqProofs (maxSteps := 2000000) (disch := first | exact tt_rfl rfl | omega | (simp only [go_sem] <;> omega) | fail) only [go_sem, hlen, e, hb2, show (l.length : Int) ≠ 0 by omega] <;> try with_reducible rfl) | apply Wp.block | apply Wp.exitS | apply Wp.retS | apply Wp.exit | apply Wp.ret | apply Wp.skip)
    apply block_norm;apply round_next
    ·simp -implicitDefEqProofs (maxSteps := 2000000) (disch := first | exact tt_rfl rfl | omega | (simp only [go_sem] <;> omega) | fail) only [go_sem, norm_eq, Ok.some]; with_reducible rfl
    exact ⟨hkn, by simp, trivial⟩
   ·obtain rfl : k = n - 1 := by omega
    rw [show n - 1 + 1 = n by omega] at *
    rw [hbe'] at hb2;generalize (i + n) % l.length = m at *;rw [ex] at hr
    
    repeat (first | apply Wp.seqA | apply Wp.skipS | apply Wp.blockS | ((first | apply Wp.regS | apply Wp.condV | apply Wp.reg | apply Wp.condW | apply fin_ret); simp -implicitDefEqProofs (maxSteps := 2000000) (disch := first | exact tt_rfl rfl | omega | (simp only [go_sem] <;> omega) | fail) only [go_sem, hlen, e, hb2, show (l.length : Int) ≠ 0 by omega] <;> try with_reducible rfl) | apply Wp.block | apply Wp.exitS | apply Wp.retS | apply Wp.exit | apply Wp.ret | apply Wp.skip)
    apply round_next
    ·simp -implicitDefEqProofs (maxSteps := 2000000) (disch := first | exact tt_rfl rfl | omega | (simp only [go_sem] <;> omega) | fail) only [go_sem, norm_eq, Ok.some]; with_reducible rfl
    refine ⟨h, ?_, trivial⟩;rw [hs, hr];simp [runV, RunT.av]
 ·obtain rfl : i = l.length := by omega
  cases ha : anyTo l l.length with
  | true =>
   have el : lastT l = [] := by unfold lastT; rw [ha, if_pos rfl]
   rw [el] at eT;rw [List.append_nil] at eT;repeat (first | apply Wp.seqA | apply Wp.skipS | apply Wp.blockS | ((first | apply Wp.regS | apply Wp.condV | apply Wp.reg | apply Wp.condW | apply fin_ret); simp -implicitDefEqProofs (maxSteps := 2000000) (disch := first | exact tt_rfl rfl | omega | (simp only [go_sem] <;> omega) | fail) only [go_sem, Int.lt_irrefl, hlen, ha] <;> try with_reducible rfl) | apply Wp.block | apply Wp.exitS | apply Wp.retS | apply Wp.exit | apply Wp.ret | apply Wp.skip)
   rw [eT]
  | false =>
   have el : lastT l = [⟨0, 1000, gb l 0⟩] := by unfold lastT; rw [ha, if_neg (by simp)]
   have g0 := hA 0 h0;rw [el] at eT
   
   generalize gb l 0 = up at *;repeat (first | apply Wp.seqA | apply Wp.skipS | apply Wp.blockS | ((first | apply Wp.regS | apply Wp.condV | apply Wp.reg | apply Wp.condW | apply fin_ret); simp -implicitDefEqProofs (maxSteps := 2000000) (disch := first | exact tt_rfl rfl | omega | (simp only [go_sem] <;> omega) | fail) only [go_sem, Int.lt_irrefl, hlen, ha, g0] <;> try with_reducible rfl) | apply Wp.block | apply Wp.exitS | apply Wp.retS | apply Wp.exit | apply Wp.ret | apply Wp.skip)
   rw [eT];simp [runV, RunT.av]
theorem runs_check (l : List Bool) (h0 : 0 < l.length) (hl : l.length ≤ 1000) : lim F 117 [ringV l, .ylog (some 0) ((runsT l).map runV)] = some (.tuple [], [.ylog (some 0) []]) := by
 have hlen : (l.map fun b => AV.bool b).length = l.length := by simp
 have hB := fun (i : Nat) (hi : i < l.length) => begins_ok l i hi hl
 have hA := fun (i : Nat) (hi : i < l.length) => ring_at hi
 have hz : anyTo l 0 = false := rfl;have eT : runsT l = runsTo l l.length ++ lastT l := rfl;unfold ringV at *;generalize l.map (fun b => AV.bool b) = es at *
 refine lim_by (fn := a117) (k := 2) (res := []) rfl rfl rfl (by simp -implicitDefEqProofs (maxSteps := 2000000) (disch := first | exact tt_rfl rfl | omega | (simp only [go_sem] <;> omega) | fail) only [go_sem]) ?_
 try delta mvA
 try delta opA
 try delta tA
 simp -implicitDefEqProofs (maxSteps := 2000000) (disch := first | exact tt_rfl rfl | omega | (simp only [go_sem] <;> omega) | fail) only [go_sem]
 repeat (first | apply Wp.seqA | apply Wp.skipS | apply Wp.blockS | ((first | apply Wp.regS | apply Wp.condV | apply Wp.reg | apply Wp.condW | apply fin_ret); simp -implicitDefEqProofs (maxSteps := 2000000) (disch := first | exact tt_rfl rfl | omega | (simp only [go_sem] <;> omega) | fail) only [go_sem, hlen] <;> try with_reducible rfl) | apply Wp.block | apply Wp.exitS | apply Wp.retS | apply Wp.exit | apply Wp.ret | apply Wp.skip)
 apply Wp.loopF l.length (fun i => ⟨[(1, .yieldT 200000), (2, .ptr 128 0 0), (4, .func 150 [.ptr 128 0 0]), (5, .bool (!anyTo l i)), (10, iv (l.length : Int)), (11, iv (i : Int))], [(128, .box [.list 1 es]), (200000, .num 3500000), (3500000, .log (some 0) ((runsFrom l i ++ lastT l).map runV))], [(200000, none)], 10000000⟩) (fun _ => True)
 ·simp -implicitDefEqProofs (maxSteps := 2000000) (disch := first | exact tt_rfl rfl | omega | (simp only [go_sem] <;> omega) | fail) only [go_sem, norm_eq, Ok.some]
  rw [runsFrom_zero]; rfl
 ·trivial
 intro i hi _;by_cases h : i < l.length
 ·have hb := hB i h
  have ha := hA i h;have hs := anyTo_succ l i;have hr := runsFrom_step h;cases hbe : begs l i with
  | false =>
   rw [hbe] at hb hs hr;rw [Bool.or_false] at hs;rw [if_neg (by simp)] at hr
   repeat (first | apply Wp.seqA | apply Wp.skipS | apply Wp.blockS | ((first | apply Wp.regS | apply Wp.condV | apply Wp.reg | apply Wp.condW | apply fin_ret); simp -implicitDefEqProofs (maxSteps := 2000000) (disch := first | exact tt_rfl rfl | omega | (simp only [go_sem] <;> omega) | fail) only [go_sem, h, Int.ofNat_lt, hb] <;> try with_reducible rfl) | apply Wp.block | apply Wp.exitS | apply Wp.retS | apply Wp.exit | apply Wp.ret | apply Wp.skip)
   apply round_next
   ·simp -implicitDefEqProofs (maxSteps := 2000000) (disch := first | exact tt_rfl rfl | omega | (simp only [go_sem] <;> omega) | fail) only [go_sem, norm_eq, Ok.some]; with_reducible rfl
   refine ⟨h, ?_, trivial⟩;rw [hs, hr, List.nil_append];simp
  | true =>
   have hL := lenT_is hbe;have hpos := hL.pos;have hlt := hL.lt;have hbs := hL.begs;have hbe' := hL.end;rw [hbe] at hb hs hr;rw [Bool.or_true] at hs;rw [if_pos rfl] at hr;have ex : runAt l i = ⟨i, lenT l i, gb l i⟩ := rfl;generalize hn : lenT l i = n at *;generalize hup : gb l i = up at *;repeat (first | apply Wp.seqA | apply Wp.skipS | apply Wp.blockS | ((first | apply Wp.regS | apply Wp.condV | apply Wp.reg | apply Wp.condW | apply fin_ret); simp -implicitDefEqProofs (maxSteps := 2000000) (disch := first | exact tt_rfl rfl | omega | (simp only [go_sem] <;> omega) | fail) only [go_sem, h, Int.ofNat_lt, hb, ha] <;> try with_reducible rfl) | apply Wp.block | apply Wp.exitS | apply Wp.retS | apply Wp.exit | apply Wp.ret | apply Wp.skip)
   apply Wp.loopF (n - 1) (fun k => ⟨[(1, .yieldT 200000), (2, .ptr 128 0 0), (4, .func 150 [.ptr 128 0 0]), (5, .bool false), (6, iv (i : Int)), (7, .ptr 448 0 0), (10, iv (l.length : Int)), (11, iv (i : Int))], [(128, .box [.list 1 es]), (448, .box [iv (i : Int), iv ((k + 1 : Nat) : Int), .bool up]), (200000, .num 3500000), (3500000, .log (some 0) ((runsFrom l i ++ lastT l).map runV))], [(200000, none)], 10000000⟩) (fun _ => True)
   ·simp -implicitDefEqProofs (maxSteps := 2000000) (disch := first | exact tt_rfl rfl | omega | (simp only [go_sem] <;> omega) | fail) only [go_sem, norm_eq, Ok.some]
    rfl
   ·trivial
   intro k hk _;have hm := Nat.mod_lt (i + (k + 1)) h0;have hb2 := hB _ hm;rw [begs_mod] at hb2;have e : Int.tmod ((i : Int) + ((k + 1 : Nat) : Int)) (l.length : Int) = (((i + (k + 1)) % l.length : Nat) : Int) := by
    rw [show (i : Int) + ((k + 1 : Nat) : Int) = ((i + (k + 1) : Nat) : Int) by omega, Int.tmod_eq_emod_of_nonneg (Int.natCast_nonneg _)]; simp
   by_cases hkn : k < n - 1
   ·rw [hbs (k + 1) (by omega) (by omega)] at hb2
    generalize (i + (k + 1)) % l.length = m at *;repeat (first | apply Wp.seqA | apply Wp.skipS | apply Wp.blockS | ((first | apply Wp.regS | apply Wp.condV | apply Wp.reg | apply Wp.condW | apply fin_ret); simp -implicitDefEqProofs (maxSteps := 2000000) (disch := first | exact tt_rfl rfl | omega | (simp only [go_sem] <;> omega) | fail) only [go_sem, hlen, e, hb2, show (l.length : Int) ≠ 0 by omega] <;> try with_reducible rfl) | apply Wp.block | apply Wp.exitS | apply Wp.retS | apply Wp.exit | apply Wp.ret | apply Wp.skip)
    apply block_norm;apply round_next
    ·simp -implicitDefEqProofs (maxSteps := 2000000) (disch := first | exact tt_rfl rfl | omega | (simp only [go_sem] <;> omega) | fail) only [go_sem, norm_eq, Ok.some]; with_reducible rfl
    exact ⟨hkn, by simp, trivial⟩
   ·obtain rfl : k = n - 1 := by omega
    rw [show n - 1 + 1 = n by omega] at *
    rw [hbe'] at hb2;generalize (i + n) % l.length = m at *;rw [ex] at hr;rw [hr, List.append_assoc, List.cons_append, List.map_cons];have hq := run_beq ⟨i, n, up⟩;unfold runV RunT.av at *;rw [List.nil_append];dsimp only at *;repeat (first | apply Wp.seqA | apply Wp.skipS | apply Wp.blockS | ((first | apply Wp.regS | apply Wp.condV | apply Wp.reg | apply Wp.condW | apply fin_ret); simp -implicitDefEqProofs (maxSteps := 2000000) (disch := first | exact tt_rfl rfl | omega | (simp only [go_sem] <;> omega) | fail) only [go_sem, hlen, e, hb2, show (l.length : Int) ≠ 0 by omega, hq] <;> try with_reducible rfl) | apply Wp.block | apply Wp.exitS | apply Wp.retS | apply Wp.exit | apply Wp.ret | apply Wp.skip)
    apply round_next
    ·simp -implicitDefEqProofs (maxSteps := 2000000) (disch := first | exact tt_rfl rfl | omega | (simp only [go_sem] <;> omega) | fail) only [go_sem, norm_eq, Ok.some]; with_reducible rfl
    refine ⟨h, ?_, trivial⟩;rw [hs];simp [runV, RunT.av]
 ·obtain rfl : i = l.length := by omega
  cases ha : anyTo l l.length with
  | true =>
   have el : lastT l = [] := by unfold lastT; rw [ha, if_pos rfl]
   rw [el] at eT;rw [runsFrom_end, el];repeat (first | apply Wp.seqA | apply Wp.skipS | apply Wp.blockS | ((first | apply Wp.regS | apply Wp.condV | apply Wp.reg | apply Wp.condW | apply fin_ret); simp -implicitDefEqProofs (maxSteps := 2000000) (disch := first | exact tt_rfl rfl | omega | (simp only [go_sem] <;> omega) | fail) only [go_sem, Int.lt_irrefl, hlen, ha] <;> try with_reducible rfl) | apply Wp.block | apply Wp.exitS | apply Wp.retS | apply Wp.exit | apply Wp.ret | apply Wp.skip)
   
  | false =>
   have el : lastT l = [⟨0, 1000, gb l 0⟩] := by unfold lastT; rw [ha, if_neg (by simp)]
   have g0 := hA 0 h0;rw [el] at eT;rw [runsFrom_end, el];have hq : AV.beqL [.agg [iv 0, iv 1000, .bool (gb l 0)]] [.agg [iv 0, iv 1000, .bool (gb l 0)]] = true := by simp [AV.beqL, AV.beq]
   simp only [List.nil_append, List.map_cons, List.map_nil];unfold runV RunT.av at *;dsimp only at *;rw [show ((0 : Nat) : Int) = 0 from rfl, show ((1000 : Nat) : Int) = 1000 from rfl]
   generalize gb l 0 = up at *;repeat (first | apply Wp.seqA | apply Wp.skipS | apply Wp.blockS | ((first | apply Wp.regS | apply Wp.condV | apply Wp.reg | apply Wp.condW | apply fin_ret); simp -implicitDefEqProofs (maxSteps := 2000000) (disch := first | exact tt_rfl rfl | omega | (simp only [go_sem] <;> omega) | fail) only [go_sem, Int.lt_irrefl, hlen, ha, g0, hq] <;> try with_reducible rfl) | apply Wp.block | apply Wp.exitS | apply Wp.retS | apply Wp.exit | apply Wp.ret | apply Wp.skip)
   
end Go.Abs
set_option linter.all false
namespace Go.Abs
set_option maxRecDepth 10000
set_option maxHeartbeats 2000000
abbrev natsV (l : List Nat) : List AV := l.map fun n : Nat => iv (n : Int)
theorem nats_at {l : List Nat} {i : Nat} (h : i < l.length) : (natsV l)[i]? = some (iv ((l.getD i 0 : Nat) : Int)) := by
 unfold natsV;rw [List.getElem?_map, List.getElem?_eq_getElem h, List.getD_eq_getElem?_getD, List.getElem?_eq_getElem h]; rfl
theorem bit_eq (r h : Nat) : decide (((r >>> h &&& 1 : Nat) : Int) = 1) = r.testBit h := by
 rw [shr_and1];cases r.testBit h <;> simp
theorem pick_ok (d : DesN) (hd : d.Ok) (p : Nat) (hp : p < d.rows.length) : lim F 114 [d.av, iv (p : Int)] = some (.own 1 ((pickR d p).map fun b => .bool b), []) := by
 have h24 := hd.h24;have p1 : 2 ^ d.hk ≤ 2 ^ 24 := Nat.pow_le_pow_right (by omega) (by omega)
 have hlt := hd.lt _ (List.getElem_mem hp);rw [← rows_get hp] at hlt;have hg := nats_at hp;unfold DesN.av;change lim F _ [.agg [_, .list 1 (natsV d.rows)], _] = _;have hR : ∀ n, ((List.range n).map fun h => AV.bool ((d.rows.getD p 0).testBit h)).length = n := fun n => by simp
 have hpl : ∀ n, ((List.range n).map fun h => AV.bool ((d.rows.getD p 0).testBit h)).all AV.plain = true := fun n => by simp [AV.plain, AV.plain1]
 have eR : (pickR d p).map (fun b => AV.bool b) = (List.range d.hk).map fun h => AV.bool ((d.rows.getD p 0).testBit h) := by unfold pickR; rw [List.map_map]; rfl
 rw [eR];generalize d.rows.getD p 0 = r at *;refine lim_by (fn := a114) (k := 2) (res := [.tmp 4]) rfl rfl rfl (by simp -implicitDefEqProofs (maxSteps := 2000000) (disch := first | exact tt_rfl rfl | omega | (simp only [go_sem] <;> omega) | fail) only [go_sem]) ?_
 try delta mvA
 try delta opA
 try delta tA
 simp -implicitDefEqProofs (maxSteps := 2000000) (disch := first | exact tt_rfl rfl | omega | (simp only [go_sem] <;> omega) | fail) only [go_sem]
 repeat (first | apply Wp.seqA | apply Wp.skipS | apply Wp.blockS | ((first | apply Wp.regS | apply Wp.condV | apply Wp.reg | apply Wp.condW | apply fin_ret); simp -implicitDefEqProofs (maxSteps := 2000000) (disch := first | exact tt_rfl rfl | omega | (simp only [go_sem] <;> omega) | fail) only [go_sem] <;> try with_reducible rfl) | apply Wp.block | apply Wp.exitS | apply Wp.retS | apply Wp.exit | apply Wp.ret | apply Wp.skip)
 apply Wp.loopF d.hk (fun i => ⟨[(1, iv (p : Int)), (2, .ptr 128 0 0), (4, .slice 256 0 i), (8, iv (d.hk : Int)), (9, iv (i : Int))], [(128, .box [iv (d.hk : Int), .list 1 (natsV d.rows)]), (256, .arr 1 ((List.range i).map fun h => .bool (r.testBit h)))], [], 10000000⟩) (fun _ => True)
 ·simp -implicitDefEqProofs (maxSteps := 2000000) (disch := first | exact tt_rfl rfl | omega | (simp only [go_sem] <;> omega) | fail) only [go_sem, norm_eq, Ok.some]
  rfl
 ·trivial
 intro i hi _;by_cases h : i < d.hk
 ·have s1 := w_shr r i (by omega)
  have sb : r >>> i < 9223372036854775808 := by rw [Nat.shiftRight_eq_div_pow]; have := Nat.div_le_self r (2 ^ i); omega
  have s2 := w_and1 (r >>> i) sb;have eb := bit_eq r i;have hl := hR i;have e3 : (List.range (i + 1)).map (fun h => AV.bool (r.testBit h)) = (List.range i).map (fun h => AV.bool (r.testBit h)) ++ [.bool (r.testBit i)] := by rw [List.range_succ]; simp
  generalize (List.range i).map (fun h => AV.bool (r.testBit h)) = es at *
  generalize r.testBit i = b at *;generalize r >>> i &&& 1 = y at *;generalize r >>> i = z at *;repeat (first | apply Wp.seqA | apply Wp.skipS | apply Wp.blockS | ((first | apply Wp.regS | apply Wp.condV | apply Wp.reg | apply Wp.condW | apply fin_ret); simp -implicitDefEqProofs (maxSteps := 2000000) (disch := first | exact tt_rfl rfl | omega | (simp only [go_sem] <;> omega) | fail) only [go_sem, h, Int.ofNat_lt, hg, s1, s2, eb, hl, Int.toNat_natCast] <;> try with_reducible rfl) | apply Wp.block | apply Wp.exitS | apply Wp.retS | apply Wp.exit | apply Wp.ret | apply Wp.skip)
  apply round_next
  ·simp -implicitDefEqProofs (maxSteps := 2000000) (disch := first | exact tt_rfl rfl | omega | (simp only [go_sem] <;> omega) | fail) only [go_sem, norm_eq, Ok.some]; with_reducible rfl
  refine ⟨h, ?_, trivial⟩;rw [e3];simp
 ·obtain rfl : i = d.hk := by omega
  have hl := hR d.hk;have etk : ((List.range d.hk).map fun h => AV.bool (r.testBit h)).take d.hk = (List.range d.hk).map fun h => AV.bool (r.testBit h) := List.take_of_length_le (by omega)
  have hp' := hpl d.hk;generalize (List.range d.hk).map (fun h => AV.bool (r.testBit h)) = es at *
  repeat (first | apply Wp.seqA | apply Wp.skipS | apply Wp.blockS | ((first | apply Wp.regS | apply Wp.condV | apply Wp.reg | apply Wp.condW | apply fin_ret); simp -implicitDefEqProofs (maxSteps := 2000000) (disch := first | exact tt_rfl rfl | omega | (simp only [go_sem] <;> omega) | fail) only [go_sem, Int.lt_irrefl, hl, etk, hp'] <;> try with_reducible rfl) | apply Wp.block | apply Wp.exitS | apply Wp.retS | apply Wp.exit | apply Wp.ret | apply Wp.skip)
theorem hook_ok (d : DesN) (hd : d.Ok) (p : Nat) (hp : p < d.hk) : lim F 115 [d.av, iv (p : Int)] = some (.own 1 ((hookR d p).map fun b => .bool b), []) := by
 have h24 := hd.h24;have hr60 := hd.r60;have p1 : 2 ^ d.hk ≤ 2 ^ 24 := Nat.pow_le_pow_right (by omega) (by omega)
 have hln : (natsV d.rows).length = d.rows.length := by simp
 unfold DesN.av;change lim F _ [.agg [_, .list 1 (natsV d.rows)], _] = _;have eR : (hookR d p).map (fun b => AV.bool b) = d.rows.map fun r => AV.bool (r.testBit p) := by unfold hookR; rw [List.map_map]; rfl
 rw [eR];refine lim_by (fn := a115) (k := 2) (res := [.tmp 4]) rfl rfl rfl (by simp -implicitDefEqProofs (maxSteps := 2000000) (disch := first | exact tt_rfl rfl | omega | (simp only [go_sem] <;> omega) | fail) only [go_sem]) ?_
 try delta mvA
 try delta opA
 try delta tA
 simp -implicitDefEqProofs (maxSteps := 2000000) (disch := first | exact tt_rfl rfl | omega | (simp only [go_sem] <;> omega) | fail) only [go_sem]
 repeat (first | apply Wp.seqA | apply Wp.skipS | apply Wp.blockS | ((first | apply Wp.regS | apply Wp.condV | apply Wp.reg | apply Wp.condW | apply fin_ret); simp -implicitDefEqProofs (maxSteps := 2000000) (disch := first | exact tt_rfl rfl | omega | (simp only [go_sem] <;> omega) | fail) only [go_sem, hln] <;> try with_reducible rfl) | apply Wp.block | apply Wp.exitS | apply Wp.retS | apply Wp.exit | apply Wp.ret | apply Wp.skip)
 apply Wp.loopF d.rows.length (fun i => ⟨[(1, iv (p : Int)), (4, .slice 256 0 i), (9, .list 1 (natsV d.rows)), (10, iv (d.rows.length : Int)), (11, iv (i : Int))], [(256, .arr 1 ((d.rows.take i).map fun r => .bool (r.testBit p)))], [], 10000000⟩) (fun _ => True)
 ·simp -implicitDefEqProofs (maxSteps := 2000000) (disch := first | exact tt_rfl rfl | omega | (simp only [go_sem] <;> omega) | fail) only [go_sem, norm_eq, Ok.some]
  rfl
 ·trivial
 intro i hi _;by_cases h : i < d.rows.length
 ·have hg := nats_at h
  have hlt := hd.lt _ (List.getElem_mem h);have hl : ((d.rows.take i).map fun r => AV.bool (r.testBit p)).length = i := by simp; omega
  have e3 : (d.rows.take (i + 1)).map (fun r => AV.bool (r.testBit p)) = (d.rows.take i).map (fun r => AV.bool (r.testBit p)) ++ [.bool ((d.rows.getD i 0).testBit p)] := by
   rw [List.take_succ_eq_append_getElem h, rows_get h, List.map_append]; rfl
  rw [← rows_get h] at hlt;generalize d.rows.getD i 0 = r at *;have s1 := w_shr r p (by omega)
  have sb : r >>> p < 9223372036854775808 := by rw [Nat.shiftRight_eq_div_pow]; have := Nat.div_le_self r (2 ^ p); omega
  have s2 := w_and1 (r >>> p) sb;have eb := bit_eq r p;generalize (d.rows.take i).map (fun r => AV.bool (r.testBit p)) = es at *
  generalize r.testBit p = b at *;generalize r >>> p &&& 1 = y at *;generalize r >>> p = z at *;repeat (first | apply Wp.seqA | apply Wp.skipS | apply Wp.blockS | ((first | apply Wp.regS | apply Wp.condV | apply Wp.reg | apply Wp.condW | apply fin_ret); simp -implicitDefEqProofs (maxSteps := 2000000) (disch := first | exact tt_rfl rfl | omega | (simp only [go_sem] <;> omega) | fail) only [go_sem, h, Int.ofNat_lt, hg, hln, s1, s2, eb, hl, Int.toNat_natCast] <;> try with_reducible rfl) | apply Wp.block | apply Wp.exitS | apply Wp.retS | apply Wp.exit | apply Wp.ret | apply Wp.skip)
  apply round_next
  ·simp -implicitDefEqProofs (maxSteps := 2000000) (disch := first | exact tt_rfl rfl | omega | (simp only [go_sem] <;> omega) | fail) only [go_sem, norm_eq, Ok.some]; with_reducible rfl
  refine ⟨h, ?_, trivial⟩;rw [e3];simp
 ·obtain rfl : i = d.rows.length := by omega
  have hl : (d.rows.map fun r => AV.bool (r.testBit p)).length = d.rows.length := by simp
  have etk : (d.rows.map fun r => AV.bool (r.testBit p)).take d.rows.length = d.rows.map fun r => AV.bool (r.testBit p) := List.take_of_length_le (by omega)
  have etk2 : (d.rows.take d.rows.length).map (fun r => AV.bool (r.testBit p)) = d.rows.map fun r => AV.bool (r.testBit p) := by rw [List.take_length]
  rw [etk2];generalize d.rows.map (fun r => AV.bool (r.testBit p)) = es at *
  repeat (first | apply Wp.seqA | apply Wp.skipS | apply Wp.blockS | ((first | apply Wp.regS | apply Wp.condV | apply Wp.reg | apply Wp.condW | apply fin_ret); simp -implicitDefEqProofs (maxSteps := 2000000) (disch := first | exact tt_rfl rfl | omega | (simp only [go_sem] <;> omega) | fail) only [go_sem, Int.lt_irrefl, hl, etk] <;> try with_reducible rfl) | apply Wp.block | apply Wp.exitS | apply Wp.retS | apply Wp.exit | apply Wp.ret | apply Wp.skip)
end Go.Abs
set_option linter.all false
namespace Go.Abs
set_option maxRecDepth 10000
set_option maxHeartbeats 4000000
def atN (d : DesN) (p h : Nat) : Bool := (d.rows.getD (p % d.rows.length) 0).testBit (h % d.hk)
theorem atN_hook {d : DesN} (hd : d.Ok) {p h : Nat} (hh : h < d.hk) : gb (hookR d h) p = atN d p h := by
 unfold gb atN;have := hd.r1;have hm := Nat.mod_lt p (show 0 < d.rows.length by omega)
 rw [hookR_len, List.getD_eq_getElem?_getD, List.getElem?_eq_getElem (by rw [hookR_len]; exact hm), hookR_get hm, Nat.mod_eq_of_lt hh]; rfl
def desV (d : DesN) : AV := .agg [iv (d.hk : Int), .list 1 (natsV d.rows)]
end Go.Abs
