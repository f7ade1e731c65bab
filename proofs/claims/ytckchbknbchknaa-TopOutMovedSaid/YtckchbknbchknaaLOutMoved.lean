/-
 TopOutMoved: no more cards are moved than warps are taken out, and all that stay ascend around. No condition beyond those that each theorem names.
-/
import Derived.Test.YtckchbknbchknaaOG
import Derived.Test.YtckchbknbchknaaOJ
import Derived.Test.YtckchbknbchknaaMX
set_option linter.all false
namespace Go.Abs
set_option maxRecDepth 10000
set_option maxHeartbeats 8000000
theorem armByteO_ok (by' : List ByteB) (i : Nat) (hi : i < 1000) : ∃ b : Nat, lim F 5 [.list 1 (bytesV by'), iv (i : Int)] = some (iv (b : Int), []) ∧ b < 256 := by
 have lbl : (bytesV by').length = by'.length := by simp [bytesV]
 by_cases c : by'.length = 0
 ·refine ⟨0, ?_, by omega⟩
  generalize bytesV by' = bs at *
  refine Yr (fn:=a5) (k:=2) (res:=[.tmp 4]) rfl rfl rfl (by simp -implicitDefEqProofs(maxSteps:=9^7)(disch:=first|exact Yo rfl|omega|(simp only[go_sem]<;>omega)|fail)only[go_sem]) ?_
  try delta mvA
  try delta opA
  try delta tA
  simp -implicitDefEqProofs(maxSteps:=9^7)(disch:=first|exact Yo rfl|omega|(simp only[go_sem]<;>omega)|fail)only[go_sem]
  repeat(first|apply Ya|apply Yb|apply Yc|((first|apply Yd|apply Ye|apply Yf|apply Yg|apply Yh);simp -implicitDefEqProofs(maxSteps:=9^7)(disch:=first|exact Yo rfl|omega|(simp only[go_sem]<;>omega)|fail)only[go_sem, lbl, c]<;>try with_reducible rfl)|apply Yi|apply Yj|apply Yk|apply Yl|apply Ym|apply Yn)
  rfl
 ·have hm := Nat.mod_lt i (show 0 < by'.length by omega)
  have hg : (bytesV by')[i % by'.length]? = some (.int .u8 ((by'[i % by'.length].1 : Nat) : Int)) := by
   unfold bytesV;rw [List.getElem?_map, List.getElem?_eq_getElem hm]; rfl
  have e : Int.tmod (i : Int) (by'.length : Int) = ((i % by'.length : Nat) : Int) := by rw [Int.tmod_eq_emod_of_nonneg (Int.natCast_nonneg _)]; rfl
  have hb := by'[i % by'.length].2
  refine ⟨by'[i % by'.length].1, ?_, hb⟩
  generalize by'[i % by'.length].1 = v at *
  generalize bytesV by' = bs at *
  generalize i % by'.length = k at *
  generalize by'.length = n at *
  refine Yr (fn:=a5) (k:=2) (res:=[.tmp 4]) rfl rfl rfl (by simp -implicitDefEqProofs(maxSteps:=9^7)(disch:=first|exact Yo rfl|omega|(simp only[go_sem]<;>omega)|fail)only[go_sem]) ?_
  try delta mvA
  try delta opA
  try delta tA
  simp -implicitDefEqProofs(maxSteps:=9^7)(disch:=first|exact Yo rfl|omega|(simp only[go_sem]<;>omega)|fail)only[go_sem]
  repeat(first|apply Ya|apply Yb|apply Yc|((first|apply Yd|apply Ye|apply Yf|apply Yg|apply Yh);simp -implicitDefEqProofs(maxSteps:=9^7)(disch:=first|exact Yo rfl|omega|(simp only[go_sem]<;>omega)|fail)only[go_sem, lbl, e, hg, hm, Int.ofNat_lt, Int.toNat_natCast, show ¬ (n : Int) = 0 by omega]<;>try with_reducible rfl)|apply Yi|apply Yj|apply Yk|apply Yl|apply Ym|apply Yn)
structure MixOk (n : Nat) (dr : List Int) : Prop where
 len : dr.length = n
 nd : dr.Nodup
 rng : ∀ e ∈ dr, 0 ≤ e ∧ e < n
theorem MixOk.id (n : Nat) : MixOk n (idN n) where
 len := by simp
 nd := by
  unfold idN;exact List.pairwise_map.2 (List.nodup_range.imp fun h e => h (by omega))
 rng := fun e he => by
  obtain ⟨w, hw, rfl⟩ := List.mem_map.1 he;have := List.mem_range.1 hw;omega
theorem MixOk.swap {n i k : Nat} {dr : List Int} (h : MixOk n dr) (hi : i < n) (hk : k < n) : MixOk n ((dr.set i (drAt dr k)).set k (drAt dr i)) := by
 have hl := h.len;have e : ∀ j, (hj : j < dr.length) → drAt dr j = dr[j] := fun j hj => by
  unfold drAt;rw [List.getD_eq_getElem?_getD, List.getElem?_eq_getElem hj]; rfl
 rw [e k (by omega), e i (by omega)]
 have hp := @List.set_set_perm _ dr i k (by omega) (by omega)
 exact ⟨by simp [hl], hp.nodup_iff.2 h.nd, fun x hx => h.rng x (hp.mem_iff.1 hx)⟩
theorem open_num (l : List Int) (h1 : 1 ≤ l.length) (h2 : l.length ≤ 60) (h3 : ∀ e ∈ l, 0 ≤ e ∧ e ≤ 59) : lim F 26 [.agg [iv 1, .list 3 (numV l)]] = some (.tuple [.agg [iv 1, .list 3 (numV l), iv 1], iv 0], []) := by
 have h := open_ok ⟨1, l.map fun e => ⟨e.toNat, 0, false⟩⟩ ⟨by simp, by simp, by simpa using h1, by simpa using h2, fun c hc => by
  obtain ⟨e, he, rfl⟩ := List.mem_map.1 hc;have := h3 e he;exact ⟨by dsimp only; omega, by simp⟩⟩
 have e : (l.map fun e => (⟨e.toNat, 0, false⟩ : CardN)).map CardN.av = numV l := by
  rw [List.map_map];unfold numV;apply List.map_congr_left;intro x hx;have := h3 x hx;simp only [Function.comp, CardN.av];rw [show ((x.toNat : Nat) : Int) = x by omega]; rfl
 unfold BeltN.av at h;dsimp only at h;rw [e] at h;exact h
theorem num_snoc (l : List Int) (i : Nat) (h : i < l.length) : numV (l.take (i + 1)) = numV (l.take i) ++ [.agg [iv (drAt l i), iv 0, .bool false]] := by
 unfold numV drAt;rw [List.take_succ_eq_append_getElem h, List.map_append, List.getD_eq_getElem?_getD, List.getElem?_eq_getElem h]; rfl
theorem outmoved_main (kc : lim F 9 [] = some (.bool true, [])) (ke : lim F 10 [] = some (.bool true, [])) (by' : List ByteB) (mn : Nat) (hmn : mn < 256) :
  lim F 3 [.list 1 (bytesV by'), .int .u8 (mn : Int)] = some (.bool true, []) := by
 have hB := armByteO_ok by'
 have e30 : Int.tmod (mn : Int) 30 = ((mn % 30 : Nat) : Int) := by rw [Int.tmod_eq_emod_of_nonneg (Int.natCast_nonneg _)]; rfl
 have m30 := Nat.mod_lt mn (show 0 < 30 by omega)
 have hMx := armMixed_nil (1 + mn % 30) (by omega)
 rw [show ((1 + mn % 30 : Nat) : Int) = 1 + ((mn % 30 : Nat) : Int) by omega] at hMx
 generalize bytesV by' = bs at *
 generalize mn % 30 = q at *;obtain ⟨n, hn⟩ : ∃ n, n = 1 + q := ⟨_, rfl⟩;have hli : (intsV (idN n)).length = n := by simp [intsV]
 have hpi := ints_plain (idN n);rw [show (1 : Int) + (q : Int) = (n : Int) by omega, ← hn] at hMx
 have eq1 : (1 : Int) + (q : Int) = (n : Int) := by omega
 refine Yr (fn:=a3) (k:=2) (res:=[.tmp 4]) rfl rfl rfl (by simp -implicitDefEqProofs(maxSteps:=9^7)(disch:=first|exact Yo rfl|omega|(simp only[go_sem]<;>omega)|fail)only[go_sem]) ?_
 try delta mvA
 try delta opA
 try delta tA
 simp -implicitDefEqProofs(maxSteps:=9^7)(disch:=first|exact Yo rfl|omega|(simp only[go_sem]<;>omega)|fail)only[go_sem]
 repeat(first|apply Ya|apply Yb|apply Yc|((first|apply Yd|apply Ye|apply Yf|apply Yg|apply Yh);simp -implicitDefEqProofs(maxSteps:=9^7)(disch:=first|exact Yo rfl|omega|(simp only[go_sem]<;>omega)|fail)only[go_sem, e30, eq1, hMx, hli, hpi]<;>try with_reducible rfl)|apply Yi|apply Yj|apply Yk|apply Yl|apply Ym|apply Yn)
 apply Yu (n - 1) (fun j fr => ∃ dr, fr = ⟨[(0, .list 1 bs), (5, iv (n : Int)), (6, .slice 384 0 n), (7, iv ((n - 1 - j : Nat) : Int))], [(384, .arr 1 (intsV dr))], [], 10000000⟩ ∧ MixOk n dr)
 ·simp -implicitDefEqProofs(maxSteps:=9^7)(disch:=first|exact Yo rfl|omega|(simp only[go_sem]<;>omega)|fail)only[go_sem, norm_eq, Ok.some]
  refine ⟨idN n, ?_, MixOk.id n⟩;simp;omega
 rintro j fr hj ⟨dr, rfl, hd⟩;have hld : (intsV dr).length = n := by simp [intsV, hd.len]
 by_cases h' : 0 < n - 1 - j
 ·obtain ⟨i, hi⟩ : ∃ i, i = n - 1 - j := ⟨_, rfl⟩
  rw [← hi] at h';rw [← hi, show n - 1 - (j + 1) = i - 1 by omega]
  obtain ⟨b, hb, hb2⟩ := hB i (by omega)
  have ei : Int.tmod (b : Int) ((i : Int) + 1) = ((b % (i + 1) : Nat) : Int) := by rw [Int.tmod_eq_emod_of_nonneg (Int.natCast_nonneg _)]; rfl
  have hk := Nat.mod_lt b (show 0 < i + 1 by omega)
  generalize b % (i + 1) = k at *;have d2 := hd.swap (i := i) (k := k) (by omega) (by omega)
  have g1 := dr_get (dr := dr) (w := i) (by have := hd.len; omega)
  have g2 := dr_get (dr := dr) (w := k) (by have := hd.len; omega)
  have s2 : ((intsV dr).set i (iv (drAt dr k))).set k (iv (drAt dr i)) = intsV ((dr.set i (drAt dr k)).set k (drAt dr i)) := by unfold intsV; rw [List.map_set, List.map_set]
  obtain ⟨z, g3⟩ : ∃ z, ((intsV dr).set i (iv (drAt dr k)))[k]? = some (iv z) := by
   by_cases c : i = k
   ·subst c; exact ⟨_, List.getElem?_set_self (by rw [hld]; omega)⟩
   ·rw [List.getElem?_set_ne c]; exact ⟨_, g2⟩
  have hin : i < n := by omega
  have hkn : k < n := by omega
  generalize drAt dr i = x at *;generalize drAt dr k = y at *;repeat(first|apply Ya|apply Yb|apply Yc|((first|apply Yd|apply Ye|apply Yf|apply Yg|apply Yh);simp -implicitDefEqProofs(maxSteps:=9^7)(disch:=first|exact Yo rfl|omega|(simp only[go_sem]<;>omega)|fail)only[go_sem, h', Int.ofNat_lt, hb, ei, hld, g1, g2, g3, s2, hin, hkn, Int.toNat_natCast, show (0 : Int) < (i : Int) by omega, show ¬ (i : Int) + 1 = 0 by omega]<;>try with_reducible rfl)|apply Yi|apply Yj|apply Yk|apply Yl|apply Ym|apply Yn)
  apply Ys
  ·simp -implicitDefEqProofs(maxSteps:=9^7)(disch:=first|exact Yo rfl|omega|(simp only[go_sem]<;>omega)|fail)only[go_sem, norm_eq, Ok.some]; with_reducible rfl
  refine ⟨by omega, _, ?_, d2⟩
  simp;omega
 ·have hj2 : n - 1 - j = 0 := by omega
  rw [hj2];clear hB hMx hli hpi;have hns := num_snoc dr;have hln : ∀ i, (numV (dr.take i)).length = min i n := fun i => by simp [numV, hd.len]
  repeat(first|apply Ya|apply Yb|apply Yc|((first|apply Yd|apply Ye|apply Yf|apply Yg|apply Yh);simp -implicitDefEqProofs(maxSteps:=9^7)(disch:=first|exact Yo rfl|omega|(simp only[go_sem]<;>omega)|fail)only[go_sem]<;>try with_reducible rfl)|apply Yi|apply Yj|apply Yk|apply Yl|apply Ym|apply Yn)
  apply Yt n (fun i => ⟨[(5, iv (n : Int)), (6, .slice 384 0 n), (11, .ptr 704 0 0), (12, iv (i : Int))], [(384, .arr 1 (intsV dr)), (704, .box [iv 1, .slice 311265 0 i]), (311265, .arr 3 (numV (dr.take i)))], [], 10000000⟩) (fun _ => True)
  ·simp -implicitDefEqProofs(maxSteps:=9^7)(disch:=first|exact Yo rfl|omega|(simp only[go_sem]<;>omega)|fail)only[go_sem, norm_eq, Ok.some]
   rfl
  ·trivial
  intro i hi _;have n1 := hln i;rw [Nat.min_eq_left hi] at n1;have t1 : (numV (dr.take i)).take i = numV (dr.take i) := List.take_of_length_le (by omega)
  by_cases h2 : i < n
  ·have g1 := dr_get (dr := dr) (w := i) (by have := hd.len; omega)
   have s1 := hns i (by have := hd.len; omega)
   rw [s1];generalize numV (dr.take i) = L at *;repeat(first|apply Ya|apply Yb|apply Yc|((first|apply Yd|apply Ye|apply Yf|apply Yg|apply Yh);simp -implicitDefEqProofs(maxSteps:=9^7)(disch:=first|exact Yo rfl|omega|(simp only[go_sem]<;>omega)|fail)only[go_sem, h2, Int.ofNat_lt, hld, g1, n1, t1, Int.toNat_natCast]<;>try with_reducible rfl)|apply Yi|apply Yj|apply Yk|apply Yl|apply Ym|apply Yn)
   apply Ys
   ·simp -implicitDefEqProofs(maxSteps:=9^7)(disch:=first|exact Yo rfl|omega|(simp only[go_sem]<;>omega)|fail)only[go_sem, norm_eq, Ok.some]; with_reducible rfl
   refine ⟨h2, ?_, trivial⟩;simp
  ·obtain rfl : n = i := by omega
   rw [show dr.take n = dr from List.take_of_length_le (by have := hd.len; omega)] at n1 t1 ⊢
   have hdl := hd.len;have hI := armInts_ok (intsV dr) (ints_plain _) (by omega)
   obtain ⟨q1, hO, os, ks, rfl, ho, hks⟩ := Out_ok dr (fun e he => by have := hd.rng e he; omega) (by omega) (by omega)
   obtain ⟨q2, hM, ms, rfl, hm⟩ := Moved_ok dr 1 (by omega) (by omega) hd.nd (fun e he => (hd.rng e he).1) (open_num dr (by omega) (by omega) fun e he => by have := hd.rng e he; omega)
   rw [hdl] at ho hm;have hk1 := Mo.list_kept (num := numAt dr) ho.asc ho.lt ho.num hks;have hk2 := Mo.stay_count hm.asc hm.lt;have hk3 := hm.all;have hk4 := hm.same;have hk5 := ho.sum;have hk6 : 0 < ks.length := List.length_pos_iff.2 hks;obtain ⟨u, hu⟩ := Mo.one_descent hm.pos hm.all;have hpd := ints_plain dr;have htd : (intsV dr).take n = intsV dr := List.take_of_length_le (by omega)
   have hlo : (natsV os).length = os.length := by simp
   have hlm : (natsV ms).length = ms.length := by simp
   have hpo : (natsV os).all AV.plain = true := nat_plain os;have hpm : (natsV ms).all AV.plain = true := nat_plain ms;have hgd := fun i (hi : i < n) => dr_get (dr := dr) (w := i) (by omega)
   have hgm := fun i (hi : i < ms.length) => nats_at (l := ms) hi
   have hmo : (Value.map none).oneCell' = true := rfl;have hmlt : ∀ i, i < ms.length → ms.getD i 0 < n := fun i hi => by
    rw [List.getD_eq_getElem?_getD, List.getElem?_eq_getElem hi];exact hm.lt _ (List.getElem_mem hi)
   have hmup : ∀ i, 0 < i → i < ms.length → ms.getD (i - 1) 0 < ms.getD i 0 := fun i h0 hi => by
    have h := List.pairwise_iff_getElem.1 hm.asc (i - 1) i (by omega) hi (by omega)
    rw [List.getD_eq_getElem?_getD, List.getElem?_eq_getElem (by omega), List.getD_eq_getElem?_getD, List.getElem?_eq_getElem hi]
    exact h
   have hmt : ∀ i, i < ms.length → ms.take (i + 1) = ms.take i ++ [ms.getD i 0] := fun i hi => by
    rw [List.take_succ_eq_append_getElem hi, List.getD_eq_getElem?_getD, List.getElem?_eq_getElem hi]; rfl
   clear hns hln;generalize hDV : intsV dr = DV at *;generalize numV dr = NV at *;generalize natsV os = OV at *;generalize natsV ms = MV at *;have hl1 : ¬ (os.length : Int) < (ms.length : Int) := by omega
   have hl2 : ¬ (n : Int) ≤ (os.length : Int) := by omega
   repeat(first|apply Ya|apply Yb|apply Yc|((first|apply Yd|apply Ye|apply Yf|apply Yg|apply Yh);simp -implicitDefEqProofs(maxSteps:=9^7)(disch:=first|exact Yo rfl|omega|(simp only[go_sem]<;>omega)|fail)only[go_sem, h2, Int.ofNat_lt, htd, hI, hO, hld, t1, hM, hlo, hlm, hpd, hpo, hpm, hl1, hl2, hmo]<;>try with_reducible rfl)|apply Yi|apply Yj|apply Yk|apply Yl|apply Ym|apply Yn)
   apply Yu ms.length (fun i fr => ∃ kv, fr = ⟨[(5, iv (n : Int)), (6, .slice 384 0 n), (15, .slice 960 0 ms.length), (17, .mapp 1088), (18, iv (i : Int))], [(384, .arr 1 DV), (960, .arr 1 MV), (1088, .mp .i64 kv)], [], 10000000⟩ ∧ ∀ x : Nat, kvGet (x : Int) kv = if x ∈ ms.take i then some (.bool true) else none)
   ·simp -implicitDefEqProofs(maxSteps:=9^7)(disch:=first|exact Yo rfl|omega|(simp only[go_sem]<;>omega)|fail)only[go_sem, norm_eq, Ok.some]
    exact ⟨[], rfl, fun x => by simp [kvGet]⟩
   rintro i fr hi ⟨kv, rfl, hkv⟩;by_cases h3 : i < ms.length
   ·have g1 := hgm i h3
    have b1 := hmlt i h3;have k2 : ∀ x : Nat, kvGet (x : Int) (kvSet ((ms.getD i 0 : Nat) : Int) (.bool true) kv) = if x ∈ ms.take (i + 1) then some (.bool true) else none := fun x => by
     rw [kvGet_setO, hkv x, hmt i h3];by_cases c : ((ms.getD i 0 : Nat) : Int) = (x : Int)
     ·rw [if_pos c, if_pos (by rw [show x = ms.getD i 0 by omega]; simp)]
     ·have c' : ¬ x = ms.getD i 0 := fun q => c (by rw [q])
      rw [if_neg c];simp only [List.mem_append, List.mem_singleton, c', or_false]
    by_cases c0 : i = 0
    ·subst c0
     generalize ms.getD 0 0 = v at *;repeat(first|apply Ya|apply Yb|apply Yc|((first|apply Yd|apply Ye|apply Yf|apply Yg|apply Yh);simp -implicitDefEqProofs(maxSteps:=9^7)(disch:=first|exact Yo rfl|omega|(simp only[go_sem]<;>omega)|fail)only[go_sem, h3, Int.ofNat_lt, hlm, g1, b1, Int.toNat_natCast, show ¬ (v : Int) < 0 by omega, show ¬ (n : Int) ≤ (v : Int) by omega, show ¬ (0 : Int) < ((0 : Nat) : Int) by simp]<;>try with_reducible rfl)|apply Yi|apply Yj|apply Yk|apply Yl|apply Ym|apply Yn)
     apply Ys
     ·simp -implicitDefEqProofs(maxSteps:=9^7)(disch:=first|exact Yo rfl|omega|(simp only[go_sem]<;>omega)|fail)only[go_sem, norm_eq, Ok.some]; with_reducible rfl
     exact ⟨h3, _, by simp, k2⟩
    ·have g2 := hgm (i - 1) (by omega)
     have b2 := hmup i (by omega) h3
     have e1 : ((i : Int) - 1).toNat = i - 1 := by omega
     generalize ms.getD i 0 = v at *;generalize ms.getD (i - 1) 0 = w at *;repeat(first|apply Ya|apply Yb|apply Yc|((first|apply Yd|apply Ye|apply Yf|apply Yg|apply Yh);simp -implicitDefEqProofs(maxSteps:=9^7)(disch:=first|exact Yo rfl|omega|(simp only[go_sem]<;>omega)|fail)only[go_sem, h3, Int.ofNat_lt, hlm, g1, g2, e1, b1, Int.toNat_natCast, show ¬ (v : Int) < 0 by omega, show ¬ (n : Int) ≤ (v : Int) by omega, show (0 : Int) < (i : Int) by omega, show ¬ (v : Int) ≤ (w : Int) by omega, show (0 : Int) ≤ (i : Int) - 1 by omega, show (i : Int) - 1 < (ms.length : Int) by omega]<;>try with_reducible rfl)|apply Yi|apply Yj|apply Yk|apply Yl|apply Ym|apply Yn)
     apply Ys
     ·simp -implicitDefEqProofs(maxSteps:=9^7)(disch:=first|exact Yo rfl|omega|(simp only[go_sem]<;>omega)|fail)only[go_sem, norm_eq, Ok.some]; with_reducible rfl
     exact ⟨h3, _, by simp, k2⟩
   ·obtain rfl : i = ms.length := by omega
    rw [List.take_of_length_le (Nat.le_refl _)] at hkv;have hpu : ∀ v : AV, Eff.pure v = ⟨v, [], []⟩ := fun v => id rfl
    clear hgm hmt hmup hmlt hO hM hI hm ho;have hss := Mo.stay_succ;have hkw : ∀ x : Nat, kvGet (x : Int) kv = if Mo.inL ms x = true then some (.bool true) else none := fun x => by
     rw [hkv x]; simp [Mo.inL]
    generalize Mo.inL ms = W at *;have hsl : ∀ i, (Mo.stay i W).length ≤ i := fun i => by
     have h9 := List.length_filter_le (fun i => !W i) (List.range i)
     rw [List.length_range] at h9;exact h9
    repeat(first|apply Ya|apply Yb|apply Yc|((first|apply Yd|apply Ye|apply Yf|apply Yg|apply Yh);simp -implicitDefEqProofs(maxSteps:=9^7)(disch:=first|exact Yo rfl|omega|(simp only[go_sem]<;>omega)|fail)only[go_sem, h3, Int.ofNat_lt, hlm]<;>try with_reducible rfl)|apply Yi|apply Yj|apply Yk|apply Yl|apply Ym|apply Yn)
    apply Yt n (fun i => ⟨[(5, iv (n : Int)), (6, .slice 384 0 n), (17, .mapp 1088), (19, .slice 1216 0 (Mo.stay i W).length), (20, iv (i : Int))], [(384, .arr 1 DV), (1088, .mp .i64 kv), (1216, .arr 1 (intsV ((Mo.stay i W).map (drAt dr))))], [], 10000000⟩) (fun _ => True)
    ·simp -implicitDefEqProofs(maxSteps:=9^7)(disch:=first|exact Yo rfl|omega|(simp only[go_sem]<;>omega)|fail)only[go_sem, norm_eq, Ok.some]
     rfl
    ·trivial
    intro i hi _;have n1 : (intsV ((Mo.stay i W).map (drAt dr))).length = (Mo.stay i W).length := by simp [intsV]
    have t1 : (intsV ((Mo.stay i W).map (drAt dr))).take (Mo.stay i W).length = intsV ((Mo.stay i W).map (drAt dr)) := List.take_of_length_le (by omega)
    have sl := hsl i;by_cases h4 : i < n
    ·have g1 := hgd i h4
     have k1 := hkw i;rw [hss i W];by_cases hw : W i = true
     ·rw [if_pos hw, List.append_nil]
      rw [if_pos hw] at k1;repeat(first|apply Ya|apply Yb|apply Yc|((first|apply Yd|apply Ye|apply Yf|apply Yg|apply Yh);simp -implicitDefEqProofs(maxSteps:=9^7)(disch:=first|exact Yo rfl|omega|(simp only[go_sem]<;>omega)|fail)only[go_sem, h4, Int.ofNat_lt, k1, hpu]<;>try with_reducible rfl)|apply Yi|apply Yj|apply Yk|apply Yl|apply Ym|apply Yn)
      apply Ys
      ·simp -implicitDefEqProofs(maxSteps:=9^7)(disch:=first|exact Yo rfl|omega|(simp only[go_sem]<;>omega)|fail)only[go_sem, norm_eq, Ok.some]; with_reducible rfl
      exact ⟨h4, by simp, trivial⟩
     ·rw [if_neg hw] at k1 ⊢
      have s1 : intsV ((Mo.stay i W ++ [i]).map (drAt dr)) = intsV ((Mo.stay i W).map (drAt dr)) ++ [iv (drAt dr i)] := by unfold intsV; rw [List.map_append, List.map_append]; rfl
      rw [s1, List.length_append];generalize intsV ((Mo.stay i W).map (drAt dr)) = SV at *;generalize (Mo.stay i W).length = sn at *;generalize drAt dr i = v at *;repeat(first|apply Ya|apply Yb|apply Yc|((first|apply Yd|apply Ye|apply Yf|apply Yg|apply Yh);simp -implicitDefEqProofs(maxSteps:=9^7)(disch:=first|exact Yo rfl|omega|(simp only[go_sem]<;>omega)|fail)only[go_sem, h4, Int.ofNat_lt, k1, hpu, g1, hld, n1, t1, Int.toNat_natCast]<;>try with_reducible rfl)|apply Yi|apply Yj|apply Yk|apply Yl|apply Ym|apply Yn)
      apply Ys
      ·simp -implicitDefEqProofs(maxSteps:=9^7)(disch:=first|exact Yo rfl|omega|(simp only[go_sem]<;>omega)|fail)only[go_sem, norm_eq, Ok.some]; with_reducible rfl
      exact ⟨h4, by simp, trivial⟩
    ·obtain rfl : n = i := by omega
     repeat(first|apply Ya|apply Yb|apply Yc|((first|apply Yd|apply Ye|apply Yf|apply Yg|apply Yh);simp -implicitDefEqProofs(maxSteps:=9^7)(disch:=first|exact Yo rfl|omega|(simp only[go_sem]<;>omega)|fail)only[go_sem, h4, Int.ofNat_lt]<;>try with_reducible rfl)|apply Yi|apply Yj|apply Yk|apply Yl|apply Ym|apply Yn)
     have hgs : ∀ i, i < (Mo.stay n W).length → (intsV ((Mo.stay n W).map (drAt dr)))[i]? = some (iv (drAt dr ((Mo.stay n W).getD i 0))) := fun i hi => by
      unfold intsV;rw [List.getElem?_map, List.getElem?_map, List.getElem?_eq_getElem hi, List.getD_eq_getElem?_getD, List.getElem?_eq_getElem hi]; rfl
     clear hss hkw hkv hgd;generalize intsV ((Mo.stay n W).map (drAt dr)) = SV at *;have hu' : ∀ i, i < (Mo.stay n W).length → i ≠ u → drAt dr ((Mo.stay n W).getD i 0) < drAt dr ((Mo.stay n W).getD ((i + 1) % (Mo.stay n W).length) 0) := hu;clear hu;obtain ⟨g, hg⟩ : ∃ g : Nat → Int, ∀ i, drAt dr ((Mo.stay n W).getD i 0) = g i := ⟨_, fun _ => rfl⟩
     simp only [hg] at hgs hu';have hm0 : 0 < (Mo.stay n W).length := by omega
     generalize (Mo.stay n W).length = m at *;apply Yu m (fun i fr => ∃ d : Nat, fr = ⟨[(19, .slice 1216 0 m), (21, iv (d : Int)), (22, iv (i : Int))], [(1216, .arr 1 SV)], [], 10000000⟩ ∧ d ≤ if u < i then 1 else 0)
     ·simp -implicitDefEqProofs(maxSteps:=9^7)(disch:=first|exact Yo rfl|omega|(simp only[go_sem]<;>omega)|fail)only[go_sem, norm_eq, Ok.some]
      exact ⟨0, rfl, by omega⟩
     rintro i fr hi ⟨d, rfl, hd1⟩;have d1 : d ≤ 1 := by split at hd1 <;> omega
     by_cases h5 : i < m
     ·have hmm := Nat.mod_lt (i + 1) hm0
      have e1 : Int.tmod ((i : Int) + 1) (m : Int) = (((i + 1) % m : Nat) : Int) := by rw [Int.tmod_eq_emod_of_nonneg (by omega)]; rfl
      have g1 := hgs i h5;have g2 := hgs _ hmm;have u1 := hu' i h5;generalize (i + 1) % m = k at *;generalize g i = x at *;generalize g k = y at *;by_cases c : y ≤ x
      ·have hiu : i = u := Classical.byContradiction fun h9 => by have := u1 h9; omega
       rw [if_neg (by omega)] at hd1
       repeat(first|apply Ya|apply Yb|apply Yc|((first|apply Yd|apply Ye|apply Yf|apply Yg|apply Yh);simp -implicitDefEqProofs(maxSteps:=9^7)(disch:=first|exact Yo rfl|omega|(simp only[go_sem]<;>omega)|fail)only[go_sem, h5, Int.ofNat_lt, n1, e1, g1, g2, c, hmm, Int.toNat_natCast, show ¬ (m : Int) = 0 by omega]<;>try with_reducible rfl)|apply Yi|apply Yj|apply Yk|apply Yl|apply Ym|apply Yn)
       apply Ys
       ·simp -implicitDefEqProofs(maxSteps:=9^7)(disch:=first|exact Yo rfl|omega|(simp only[go_sem]<;>omega)|fail)only[go_sem, norm_eq, Ok.some]; with_reducible rfl
       exact ⟨h5, d + 1, by simp, by rw [if_pos (by omega)]; omega⟩
      ·repeat(first|apply Ya|apply Yb|apply Yc|((first|apply Yd|apply Ye|apply Yf|apply Yg|apply Yh);simp -implicitDefEqProofs(maxSteps:=9^7)(disch:=first|exact Yo rfl|omega|(simp only[go_sem]<;>omega)|fail)only[go_sem, h5, Int.ofNat_lt, n1, e1, g1, g2, c, hmm, Int.toNat_natCast, show ¬ (m : Int) = 0 by omega]<;>try with_reducible rfl)|apply Yi|apply Yj|apply Yk|apply Yl|apply Ym|apply Yn)
       apply Ys
       ·simp -implicitDefEqProofs(maxSteps:=9^7)(disch:=first|exact Yo rfl|omega|(simp only[go_sem]<;>omega)|fail)only[go_sem, norm_eq, Ok.some]; with_reducible rfl
       exact ⟨h5, d, by simp, by split at hd1 <;> split <;> omega⟩
     ·repeat(first|apply Ya|apply Yb|apply Yc|((first|apply Yd|apply Ye|apply Yf|apply Yg|apply Yh);simp -implicitDefEqProofs(maxSteps:=9^7)(disch:=first|exact Yo rfl|omega|(simp only[go_sem]<;>omega)|fail)only[go_sem, h5, Int.ofNat_lt, kc, ke, show (d : Int) ≤ 1 by omega]<;>try with_reducible rfl)|apply Yi|apply Yj|apply Yk|apply Yl|apply Ym|apply Yn)
end Go.Abs
