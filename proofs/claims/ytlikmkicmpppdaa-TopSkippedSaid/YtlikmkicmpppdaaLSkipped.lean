/-
 TopSkipped: a length that was woven with faults, and the next one. No condition beyond those that each theorem names.
-/
import Derived.Test.YtlikmkicmpppdaaCS
import Derived.Test.YtlikmkicmpppdaaZS27
set_option linter.all false
namespace Go.Abs
set_option maxRecDepth 10000
set_option maxHeartbeats 8000000
def stepN (b : Nat) : Nat := [1, 1, 1, 1, 1, 1, 0, 2].getD (b % 8) 0
theorem stepN_le (b : Nat) : stepN b ≤ 2 := by
 unfold stepN;have h := Nat.mod_lt b (show 0 < 8 by omega)
 generalize b % 8 = q at *
 match q, h with
 | 0, _ | 1, _ | 2, _ | 3, _ | 4, _ | 5, _ | 6, _ | 7, _ => decide
def stepsN (l : List ByteB) (i : Nat) : List Nat := (l.take i).map fun b => stepN b.1
theorem posW_sum {n : Nat} (h : 0 < n) : ∀ (s : List Nat) (i : Nat), i ≤ s.length → posW n 0 s i = (s.take i).sum % n
 | s, 0, _ => by simp [posW]
 | s, i + 1, hi => by
  rw [posW, posW_sum h s i (by omega), List.take_succ_eq_append_getElem (by omega), List.sum_append, List.getElem?_eq_getElem (by omega)]
  simp [Nat.mod_add_mod]
theorem posW_ones {n f : Nat} (hf : f < n) (k : Nat) : ∀ i, i ≤ k → posW n f (List.replicate k 1) i = (f + i) % n
 | 0, _ => by simp [posW, Nat.mod_eq_of_lt hf]
 | i + 1, hi => by
  rw [posW, posW_ones hf k i (by omega), List.getElem?_replicate, if_pos (by omega)]
  simp only [Option.getD_some, Nat.mod_add_mod]
  congr 1
open Seam in
theorem cut_one {at' n : Nat} (hn : 1 ≤ n) (hn1 : n ≤ 100) (ha : at' < n) : lim F 23 [iv (n : Int), .list 1 [], .list 2 [.agg [iv (at' : Int), iv (n : Int)]]] = some (.tuple [.own 1 [iv (at' : Int)], iv ((at' + n : Nat) : Int), iv 0], []) := by
 have hv : CutsOk (n : Int) [] [⟨(at' : Int), (n : Int)⟩] := ⟨by omega, by simp, by simp, by simp, fun c hc => by
  rw [List.mem_singleton.1 hc]; exact ⟨by simp only; omega, by simp only; omega⟩⟩
 have he : cutsE (n : Int) [] [⟨(at' : Int), (n : Int)⟩] = 0 := by
  unfold cutsE;rw [if_neg (by omega), if_neg (by simp), if_neg (by simp), if_neg, if_neg]
  ·rintro ⟨i, h, _⟩
   simp at h
  ·rw [Bool.not_eq_true, List.any_eq_false]
   intro c hc;have := hv.cc c hc;simp only [decide_eq_true_eq, CutBad];omega
 obtain ⟨q, h1, st, need, rfl, ⟨⟨o, ho, hco⟩, _⟩, hf⟩ := Cut_ok (n : Int) [] [⟨(at' : Int), (n : Int)⟩] he;have hs : startF (n : Int) [] ⟨(at' : Int), (n : Int)⟩ 0 = (at' : Int) := by
  have h2 := (start_spec (r := (n : Int)) (bad := []) (c := ⟨(at' : Int), (n : Int)⟩) (by omega) (by simp) (by simp only; omega) (f := 0) (by omega)).1
  refine h2.uniq ⟨by omega, ⟨Int.emod_eq_of_lt (by omega) (by omega), fun b hb => by cases hb⟩, fun x x0 x1 hx => ?_⟩
  have := hx.1;rw [Int.emod_eq_of_lt x0 (by omega)] at this
  simp only at this;omega
 have hneed : need = (at' : Int) + n := by
  have h0 : (0 : Nat) ∈ o := (ho.2 0).2 ⟨by simp, rfl⟩
  have h1 : ∀ i ∈ o, i = 0 := fun i hi => by have := ((ho.2 i).1 hi).1; simp at this; exact this
  have h2 : o = [0] := by
   match o, h0, h1, ho.1 with
   | [a], _, h1, _ => rw [h1 a (by simp)]
   | a :: b :: o, _, h1, hd =>
    have e1 := h1 a (by simp)
    have e2 := h1 b (by simp)
    subst e1 e2;simp at hd
  rw [← hco, h2];show startF (n : Int) [] (cutAt [⟨(at' : Int), (n : Int)⟩] 0) 0 + (cutAt [⟨(at' : Int), (n : Int)⟩] 0).p = _
  rw [show cutAt [⟨(at' : Int), (n : Int)⟩] 0 = ⟨(at' : Int), (n : Int)⟩ from rfl, hs]
 have hst : st = [(at' : Int)] := by
  obtain ⟨i, hi, htop⟩ := hf.top (by simp)
  have hl := hf.len;simp at hi hl;subst hi
  match st, hl with
  | [y], _ =>
   have e : y + (n : Int) = need := htop;rw [show y = (at' : Int) by omega]
 rw [hst, hneed] at h1;simpa [Cut.av] using h1
theorem skipped_main (ka : lim F 25 [] = some (.bool true, [])) (ks : lim F 26 [] = some (.bool true, [])) (x : LoomB) (st : List ByteB) : lim F 4 [x.av, .list 1 (bytesV st)] = some (.bool true, []) := by
 have hd := arm_ok x;have hrw := arm_rows x;have hD := armDesign_ok x;unfold LoomB.av at *;generalize bytesV x.warps = ws at *;generalize wordsV x.rows = es at *;generalize bytesV x.cards = cs at *;generalize (x.hooks.1 : Int) = hk0 at *;generalize armN x = d at *;have hO := armOwn_ok d (by omega)
 have hP := Punch_ok d hd;have hb := punch_ok d hd;have hflat := punch_flat d;have hrow := punch_row d;have hbl := punch_len d;have hB := armBelt_ok (d.hk : Int) (punchN d).cards (by omega)
 have hR := armRound_ok d.rows.length 1 (by omega)
 rw [Nat.mul_one] at hR;have hM20 : (stepsN st (min st.length 20)).length = min st.length 20 := by simp [stepsN]
 have hI := armInts_ok (natsV (stepsN st (min st.length 20))) (nat_plain _) (by simp only [natsV, List.length_map, hM20]; omega)
 have hW1 := Weave_ok (punchN d) hb hflat 0 (by omega) (stepsN st (min st.length 20)) (by omega) (fun s hs => by
  obtain ⟨b, _, rfl⟩ := List.mem_map.1 hs;exact stepN_le _)
 have hat := posW_sum (show 0 < d.rows.length by omega) (stepsN st (min st.length 20)) (min st.length 20) (by omega)
 rw [List.take_of_length_le (by omega)] at hat
 rw [hbl, hM20, hat] at hW1;generalize hsum : (stepsN st (min st.length 20)).sum = sum at *;have hlt := Nat.mod_lt sum (show 0 < d.rows.length by omega)
 have hW2 := Weave_ok (punchN d) hb hflat (sum % d.rows.length) (by omega) (List.replicate d.rows.length 1) (by simp; omega) (fun s hs => by rw [List.eq_of_mem_replicate hs]; omega)
 have hC := cut_one (at' := sum % d.rows.length) (n := d.rows.length) (by omega) (by omega) hlt
 have g2 : ∀ i : Nat, i < d.rows.length → (natsV (wovenW (punchN d) (sum % d.rows.length) (List.replicate d.rows.length 1)))[i]? = some (iv ((d.rows.getD ((sum % d.rows.length + i) % d.rows.length) 0 : Nat) : Int)) := fun i hi => by
  unfold natsV wovenW;rw [List.getElem?_map, List.getElem?_map, List.length_replicate, List.getElem?_range hi];simp only [Option.map_some];rw [hbl, posW_ones hlt _ i (by omega), hrow]
 have l2 : (natsV (wovenW (punchN d) (sum % d.rows.length) (List.replicate d.rows.length 1))).length = d.rows.length := by simp [natsV, wovenW]
 have l1 : (natsV (wovenW (punchN d) 0 (stepsN st (min st.length 20)))).length = min st.length 20 := by simp [natsV, wovenW, hM20]
 have gd : ∀ i : Nat, i < d.rows.length → (natsV d.rows)[i]? = some (iv ((d.rows.getD i 0 : Nat) : Int)) := fun i h => by
  unfold natsV;rw [List.getElem?_map, List.getD_eq_getElem?_getD, List.getElem?_eq_getElem h]; rfl
 have ld : (natsV d.rows).length = d.rows.length := by simp
 have lc : ((punchN d).cards.map CardN.av).length = d.rows.length := by rw [List.length_map, hbl]
 rw [show ((0 : Nat) : Int) = 0 from rfl] at hW1
 rw [show ((1 : Nat) : Int) = 1 from rfl] at hR
 have pw1 : (natsV (wovenW (punchN d) 0 (stepsN st (min st.length 20)))).all AV.plain = true := nat_plain _;have pw2 : (natsV (wovenW (punchN d) (sum % d.rows.length) (List.replicate d.rows.length 1))).all AV.plain = true := nat_plain _;have po : (natsV (List.replicate d.rows.length 1)).all AV.plain = true := nat_plain _;have lo : (natsV (List.replicate d.rows.length 1)).length = d.rows.length := by simp [natsV]
 have tw2 : (natsV (wovenW (punchN d) (sum % d.rows.length) (List.replicate d.rows.length 1))).take d.rows.length = natsV (wovenW (punchN d) (sum % d.rows.length) (List.replicate d.rows.length 1)) := List.take_of_length_le (by omega)
 have to : (natsV (List.replicate d.rows.length 1)).take d.rows.length = natsV (List.replicate d.rows.length 1) := List.take_of_length_le (by omega)
 have td : (natsV d.rows).take d.rows.length = natsV d.rows := List.take_of_length_le (by omega)
 have tc : ((punchN d).cards.map CardN.av).take d.rows.length = (punchN d).cards.map CardN.av := List.take_of_length_le (by omega)
 have pc := card_plain (punchN d).cards;have pd : (natsV d.rows).all AV.plain = true := nat_plain _;have hgs : ∀ i (h : i < st.length), (bytesV st)[i]? = some (.int .u8 (st[i].1 : Int)) := fun i h => by
  unfold bytesV;rw [List.getElem?_map, List.getElem?_eq_getElem h]; rfl
 have lst : (bytesV st).length = st.length := by simp
 have hs1 : ∀ i (h : i < st.length), natsV (stepsN st (i + 1)) = natsV (stepsN st i) ++ [iv ((stepN st[i].1 : Nat) : Int)] := fun i h => by
  unfold natsV stepsN;rw [List.take_succ_eq_append_getElem h, List.map_append, List.map_append]; rfl
 have hs2 : ∀ i (h : i < st.length), (((stepsN st (i + 1)).sum : Nat) : Int) = ((stepsN st i).sum : Int) + ((stepN st[i].1 : Nat) : Int) := fun i h => by
  unfold stepsN;rw [List.take_succ_eq_append_getElem h, List.map_append, List.sum_append]; simp
 have hsl : ∀ i, i ≤ st.length → (natsV (stepsN st i)).length = i := fun i h => by simp [natsV, stepsN]; omega
 have hsp : ∀ i, (natsV (stepsN st i)).all AV.plain = true := fun i => nat_plain _
 have hsb : ∀ i, (stepsN st i).sum ≤ 2 * i := fun i => by
  unfold stepsN;have key : ∀ l : List ByteB, (l.map fun b => stepN b.1).sum ≤ 2 * l.length := by
   intro l;induction l with
   | nil => simp
   | cons a l ih => have := stepN_le a.1; simp only [List.map_cons, List.sum_cons, List.length_cons]; omega
  have := key (st.take i);rw [List.length_take] at this;omega
 generalize wovenW (punchN d) 0 (stepsN st (min st.length 20)) = w1 at *;generalize wovenW (punchN d) (sum % d.rows.length) (List.replicate d.rows.length 1) = w2 at *;generalize natsV w1 = wv1 at *;generalize natsV w2 = wv2 at *;generalize posW (punchN d).cards.length (sum % d.rows.length) (List.replicate d.rows.length 1) (List.replicate d.rows.length 1).length = pz at *;unfold BeltN.av DesN.av at *;dsimp only [punchN] at hW1 hW2 hP hB lc tc pc;change lim F _ [.agg [_, .list 1 (natsV d.rows)]] = _ at hP;generalize (d.rows.zipIdx.map fun p => (⟨p.2, p.1, false⟩ : CardN)).map CardN.av = cv at *
 generalize natsV d.rows = rv at *;generalize natsV (List.replicate d.rows.length 1) = ov at *;generalize hn : d.rows.length = n at *;refine lim_by (fn := a4) (k := 2) (res := [.tmp 4]) rfl rfl rfl (by simp -implicitDefEqProofs (maxSteps := 2000000) (disch := first | exact tt_rfl rfl | omega | (simp only [go_sem] <;> omega) | fail) only [go_sem]) ?_
 try delta mvA
 try delta opA
 try delta tA
 simp -implicitDefEqProofs (maxSteps := 2000000) (disch := first | exact tt_rfl rfl | omega | (simp only [go_sem] <;> omega) | fail) only [go_sem]
 repeat (first | apply Wp.seqA | apply Wp.skipS | apply Wp.blockS | ((first | apply Wp.regS | apply Wp.condV | apply Wp.reg | apply Wp.condW | apply fin_ret); simp -implicitDefEqProofs (maxSteps := 2000000) (disch := first | exact tt_rfl rfl | omega | (simp only [go_sem] <;> omega) | fail) only [go_sem, hD, hO, hP, ld, lc, td, tc, pd, pc] <;> try with_reducible rfl) | apply Wp.block | apply Wp.exitS | apply Wp.retS | apply Wp.exit | apply Wp.ret | apply Wp.skip)
 generalize hM : min st.length 20 = M at *;have hM0 : M ≤ st.length ∧ M ≤ 20 := by omega
 apply Wp.loopF M (fun i => ⟨[(1, .list 1 (bytesV st)), (5, .ptr 320 0 0), (6, iv (n : Int)), (7, .ptr 448 0 0), (9, .slice 576 0 i), (10, iv ((stepsN st i).sum : Int)), (11, iv (i : Int))], [(320, .box [iv (d.hk : Int), .slice 305121 0 n]), (448, .box [iv (d.hk : Int), .slice 307169 0 n]), (576, .arr 1 (natsV (stepsN st i))), (305121, .arr 1 rv), (307169, .arr 3 cv)], [], 10000000⟩) (fun _ => True)
 ·simp -implicitDefEqProofs (maxSteps := 2000000) (disch := first | exact tt_rfl rfl | omega | (simp only [go_sem] <;> omega) | fail) only [go_sem, norm_eq, Ok.some]
  rfl
 ·trivial
 intro i hi _;have n1 := hsl i (by omega)
 have P1 := hsp i;have t1 : (natsV (stepsN st i)).take i = natsV (stepsN st i) := List.take_of_length_le (by omega)
 have sb := hsb i;by_cases h' : i < M
 ·have hi1 : i < st.length := by omega
  have a1 := hgs i hi1;have a2 := hs1 i hi1;have a3 := hs2 i hi1;rw [a2, a3];generalize natsV (stepsN st i) = L at *;generalize (stepsN st i).sum = S at *;generalize st[i].1 = b at *;have e0 : Int.tmod (b : Int) 8 = ((b % 8 : Nat) : Int) := by rw [Int.tmod_eq_emod_of_nonneg (Int.natCast_nonneg _)]; rfl
  have hq := Nat.mod_lt b (show 0 < 8 by omega)
  have hsn : stepN b = [1, 1, 1, 1, 1, 1, 0, 2].getD (b % 8) 0 := rfl;rw [hsn];generalize b % 8 = q at *;clear hsn a2 a3 hs1 hs2 hgs hsl hsp hsb g2 gd
  match q, hq with
  | 0, _ | 1, _ | 2, _ | 3, _ | 4, _ | 5, _ | 6, _ | 7, _ =>
   repeat (first | apply Wp.seqA | apply Wp.skipS | apply Wp.blockS | ((first | apply Wp.regS | apply Wp.condV | apply Wp.reg | apply Wp.condW | apply fin_ret); simp -implicitDefEqProofs (maxSteps := 2000000) (disch := first | exact tt_rfl rfl | omega | (simp only [go_sem] <;> omega) | fail) only [go_sem, hi1, Int.ofNat_lt, lst, show (i : Int) < 20 by omega, a1, e0, n1, t1, Int.toNat_natCast] <;> try with_reducible rfl) | apply Wp.block | apply Wp.exitS | apply Wp.retS | apply Wp.exit | apply Wp.ret | apply Wp.skip)
   apply round_next
   ·simp -implicitDefEqProofs (maxSteps := 2000000) (disch := first | exact tt_rfl rfl | omega | (simp only [go_sem] <;> omega) | fail) only [go_sem, norm_eq, Ok.some]; with_reducible rfl
   exact ⟨h', by simp, trivial⟩
 ·obtain rfl : i = M := by omega
  have hx : ¬ (i : Int) < st.length ∨ ((i : Int) < st.length ∧ ¬ (i : Int) < 20) := by omega
  clear hs1 hs2 hgs;have et : Int.tmod ((stepsN st i).sum : Int) (n : Int) = ((sum % n : Nat) : Int) := by rw [hsum, Int.tmod_eq_emod_of_nonneg (Int.natCast_nonneg _)]; rfl
  rw [hsum] at et ⊢;generalize natsV (stepsN st i) = L at *;repeat (first | apply Wp.seqA | apply Wp.skipS | apply Wp.blockS | ((first | apply Wp.regS | apply Wp.condV | apply Wp.reg | apply Wp.condW | apply fin_ret); simp -implicitDefEqProofs (maxSteps := 2000000) (disch := first | exact tt_rfl rfl | omega | (simp only [go_sem] <;> omega) | fail) only [go_sem] <;> try with_reducible rfl) | apply Wp.block | apply Wp.exitS | apply Wp.retS | apply Wp.exit | apply Wp.ret | apply Wp.skip)
  ·refine (?_ : _ = some (⟨[(1, .list 1 (bytesV st)), (5, .ptr 320 0 0), (6, iv (n : Int)), (7, .ptr 448 0 0), (9, .slice 576 0 i), (10, iv (sum : Int)), (11, iv (i : Int)), (51, .bool false)], [(320, .box [iv (d.hk : Int), .slice 305121 0 n]), (448, .box [iv (d.hk : Int), .slice 307169 0 n]), (576, .arr 1 L), (305121, .arr 1 rv), (307169, .arr 3 cv)], [], 10000256⟩ : Fr))
   rcases hx with h | ⟨h, h2⟩
   ·simp -implicitDefEqProofs (maxSteps := 2000000) (disch := first | exact tt_rfl rfl | omega | (simp only [go_sem] <;> omega) | fail) only [go_sem, h, lst]
   ·simp -implicitDefEqProofs (maxSteps := 2000000) (disch := first | exact tt_rfl rfl | omega | (simp only [go_sem] <;> omega) | fail) only [go_sem, h, h2, lst]
  generalize hA : sum % n = A at *;have e2 : ((A + n : Nat) : Int) = (A : Int) + n := by omega
  repeat (first | apply Wp.seqA | apply Wp.skipS | apply Wp.blockS | ((first | apply Wp.regS | apply Wp.condV | apply Wp.reg | apply Wp.condW | apply fin_ret); simp -implicitDefEqProofs (maxSteps := 2000000) (disch := first | exact tt_rfl rfl | omega | (simp only [go_sem] <;> omega) | fail) only [go_sem, hB, hI, hW1, hC, hR, hW2, lc, tc, pc, n1, t1, P1, l1, l2, et, e2, pw1, pw2, po, lo, to, show ¬ (n : Int) = 0 by omega] <;> try with_reducible rfl) | apply Wp.block | apply Wp.exitS | apply Wp.retS | apply Wp.exit | apply Wp.ret | apply Wp.skip)
  apply Wp.loopF n (fun j => ⟨[(5, .ptr 320 0 0), (6, iv (n : Int)), (14, iv (A : Int)), (19, .slice 1216 0 n), (22, iv (j : Int))], [(320, .box [iv (d.hk : Int), .slice 305121 0 n]), (1216, .arr 1 wv2), (305121, .arr 1 rv)], [], 10000000⟩) (fun _ => True)
  ·simp -implicitDefEqProofs (maxSteps := 2000000) (disch := first | exact tt_rfl rfl | omega | (simp only [go_sem] <;> omega) | fail) only [go_sem, norm_eq, Ok.some]
  ·trivial
  intro j hj _;by_cases h2 : j < n
  ·have b1 := g2 j h2
   have hm := Nat.mod_lt (A + j) (show 0 < n by omega)
   have b2 := gd ((A + j) % n) hm;have b3 : Int.tmod ((A : Int) + j) (n : Int) = (((A + j) % n : Nat) : Int) := by rw [Int.tmod_eq_emod_of_nonneg (by omega)]; rfl
   clear g2 gd hsl hsp hsb;generalize (A + j) % n = y at *;repeat (first | apply Wp.seqA | apply Wp.skipS | apply Wp.blockS | ((first | apply Wp.regS | apply Wp.condV | apply Wp.reg | apply Wp.condW | apply fin_ret); simp -implicitDefEqProofs (maxSteps := 2000000) (disch := first | exact tt_rfl rfl | omega | (simp only [go_sem] <;> omega) | fail) only [go_sem, h2, Int.ofNat_lt, b1, b2, b3, l2, ld, hm, Int.toNat_natCast, show ¬ (n : Int) = 0 by omega] <;> try with_reducible rfl) | apply Wp.block | apply Wp.exitS | apply Wp.retS | apply Wp.exit | apply Wp.ret | apply Wp.skip)
   apply round_next
   ·simp -implicitDefEqProofs (maxSteps := 2000000) (disch := first | exact tt_rfl rfl | omega | (simp only [go_sem] <;> omega) | fail) only [go_sem, norm_eq, Ok.some]; with_reducible rfl
   exact ⟨h2, by simp, trivial⟩
  ·obtain rfl : j = n := by omega
   clear g2 gd hsl hsp hsb;repeat (first | apply Wp.seqA | apply Wp.skipS | apply Wp.blockS | ((first | apply Wp.regS | apply Wp.condV | apply Wp.reg | apply Wp.condW | apply fin_ret); simp -implicitDefEqProofs (maxSteps := 2000000) (disch := first | exact tt_rfl rfl | omega | (simp only [go_sem] <;> omega) | fail) only [go_sem, h2, Int.ofNat_lt, ka, ks] <;> try with_reducible rfl) | apply Wp.block | apply Wp.exitS | apply Wp.retS | apply Wp.exit | apply Wp.ret | apply Wp.skip)
end Go.Abs
