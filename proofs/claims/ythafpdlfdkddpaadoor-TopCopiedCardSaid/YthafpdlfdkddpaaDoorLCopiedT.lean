/-
 Several texts: LCopied, LCopiedT.
-/
import Derived.Test.YthafpdlfdkddpaaDoorH3
import Derived.Test.YthafpdlfdkddpaaDoorKnP
import Derived.Test.YthafpdlfdkddpaaDoorKnS
set_option linter.all false
namespace Go.Abs
set_option maxRecDepth 10000
set_option maxHeartbeats 8000000
open Cp (SetsOk setV firstN)

theorem cpy_call (c : DesN) (hr : c.rows.length ≤ 1000) {hk : Nat} (e : c.hk = hk) : lim F 9 [.agg [iv (hk : Int), .list 1 (natsV c.rows)]] = some (.agg [iv (hk : Int), .own 1 (natsV c.rows)], []) := by
 subst e; exact copy_ok c hr
theorem mir_call {c : DesN} (hc : c.Ok) {hk : Nat} (e : c.hk = hk) : lim F 11 [.agg [iv (hk : Int), .list 1 (natsV c.rows)]] = some (.tuple [.agg [iv (hk : Int), .own 1 (natsV (mirrorN c).rows)], iv 0], []) := by
 subst e; exact Mirror_ok c hc
theorem bck_call {c : DesN} (hc : c.Ok) {hk : Nat} (e : c.hk = hk) : lim F 13 [.agg [iv (hk : Int), .list 1 (natsV c.rows)]] = some (.tuple [.agg [iv (hk : Int), .own 1 (natsV (backN c).rows)], iv 0], []) := by
 subst e; exact Back_ok c hc
theorem abv_call {a b : DesN} (ha : a.Ok) (hb : b.Ok) {hk : Nat} (e : a.hk = hk) (f : b.hk = hk) (hl : a.rows.length + b.rows.length ≤ 60) : lim F 12 [.agg [iv (hk : Int), .list 1 (natsV a.rows)], .agg [iv (hk : Int), .list 1 (natsV b.rows)]] = some (.tuple [.agg [iv (hk : Int), .own 1 (natsV (aboveN a b).rows)], iv 0], []) := by
 have := Above_ok a b ha hb (by rw [e, f]) hl
 unfold DesN.av DesN.out at this
 rw [show (aboveN a b).hk = a.hk from rfl, e, f] at this
 exact this
theorem dif_call {d c : DesN} (hd : d.Ok) (hc : c.Ok) {hk n : Nat} (e : d.hk = hk) (f : c.hk = hk) (g : d.rows.length = n) (g' : c.rows.length = n) : ∃ x y : Nat, lim F 10 [.agg [iv (hk : Int), .list 1 (natsV d.rows)], .agg [iv (hk : Int), .list 1 (natsV c.rows)]] = some (.tuple [iv ((manyT d c n : Nat) : Int), iv (x : Int), iv (y : Int), iv 0], []) := by
 have := Differ_ok d c hd hc (by rw [e, f]) (by rw [g, g'])
 unfold desV at this
 rw [e, f, g] at this
 exact ⟨_, _, this⟩
theorem mde_call {l : List DesN} {hk n : Nat} (h : SetsOk l hk n) {d c : DesN} (hd : d.Ok) (e : d.hk = hk) (g : d.rows.length = n) (hc : c ∈ l) (hs : ∀ q j, (c.rows.getD q 0).testBit j = true → (d.rows.getD q 0).testBit j = true) : lim F 8 [iv 1, .agg [iv (hk : Int), .list 1 (natsV d.rows)], .agg [iv (hk : Int), .list 1 (natsV c.rows)]] = some (.tuple [.bool true, iv ((manyT d c n : Nat) : Int), iv 0], []) := by
 have := Cp.Made_ok (pair_sets h hd e g hc) false
 rw [made_sub hs, made_many hs] at this
 unfold setV at this
 rw [e, h.hk c hc] at this
 exact this
theorem fst_call {l : List DesN} {hk n : Nat} (h : SetsOk l hk n) : lim F 6 [iv 1, .list 2 (l.map setV)] = some (.tuple [.agg [iv (hk : Int), .own 1 (natsV (firstN false hk n l).rows)], iv 0], []) := Cp.First_ok h false
theorem fst_mir {l : List DesN} {hk n : Nat} (h : SetsOk l hk n) : lim F 6 [iv 1, .list 2 ((l.map mirrorN).map setV)] = some (.tuple [.agg [iv (hk : Int), .own 1 (natsV (mirrorN (firstN false hk n l)).rows)], iv 0], []) := by
 rw [← first_mir h]; exact Cp.First_ok (sets_mir h) false
theorem fst_abv {l : List DesN} {hk n : Nat} (h : SetsOk l hk n) (h30 : n ≤ 30) {b : DesN} (hb : b ∈ l) : lim F 6 [iv 1, .list 2 ((l.map fun d => aboveN d b).map setV)] = some (.tuple [.agg [iv (hk : Int), .own 1 (natsV (aboveN (firstN false hk n l) b).rows)], iv 0], []) := by
 rw [← first_abv h h30 hb]; exact Cp.First_ok (sets_abv h h30 hb) false
theorem fst_bck {l : List DesN} {hk n : Nat} (h : SetsOk l hk n) : lim F 6 [iv 2, .list 2 ((l.map backN).map setV)] = some (.tuple [.agg [iv (hk : Int), .own 1 (natsV (backN (firstN false hk n l)).rows)], iv 0], []) := by
 rw [← first_bck h]; exact Cp.First_ok (sets_bck h) true
theorem alk_call (d : DesN) (hl : d.rows.length ≤ 1000) {hk : Nat} : lim F 14 [.agg [iv (hk : Int), .list 1 (natsV d.rows)], .agg [iv (hk : Int), .list 1 (natsV d.rows)]] = some (.bool true, []) := pubAlike_self ⟨hk, d.rows⟩ hl

theorem copied_main (kp : lim F 15 [] = some (.bool true, [])) (ks : lim F 16 [] = some (.bool true, [])) (a : Nat) (ha : a < 256) (l : List WordB) (by_ : List (List ByteB)) : lim F 3 [.int .u8 (a : Int), .list 1 (wordsV l), .list 1 (listsV by_)] = some (.bool true, []) := by
 obtain ⟨l', hl'⟩ : ∃ l', l' = if 12 < l.length then l.take 12 else l := ⟨_, rfl⟩
 have hd := pub_ok a l'
 have hrw := pub_rows a l'
 have hD := pubDesign_ok a ha l'
 have hwl : (wordsV l).length = l.length := by simp
 have hS := copies_ok hd by_
 have hsub := fun c (hc : c ∈ copiesN (pubN a l') by_) => copies_sub _ _ hc
 have hCs := copies_top (pubN a l') hd by_
 have hcl := copies_len (pubN a l') by_
 generalize copiesN (pubN a l') by_ = L at *
 have hSt := pubSets_ok L (by omega) (fun c hc => by rw [hS.rows c hc]; omega)
 have hF := fst_call hS
 have hFm := fst_mir hS
 have hFb := fst_bck hS
 obtain ⟨b, hb0⟩ : ∃ b, L[0]? = some b := ⟨L[0], List.getElem?_eq_getElem (by omega)⟩
 have hbm : b ∈ L := List.mem_of_getElem? hb0
 have hFa := fst_abv hS (by omega) hbm
 have fo := first_is hS false
 have fl := first_len false (pubN a l').hk (pubN a l').rows.length L
 have ek := fun c (hc : c ∈ L) => hS.hk c hc
 have er := fun c (hc : c ∈ L) => hS.rows c hc
 have eo := fun c (hc : c ∈ L) => hS.ok c hc
 have cd := cpy_call (pubN a l') (by omega) rfl
 have ckp := fun c (hc : c ∈ L) => cpy_call c (by rw [er c hc]; omega) (ek c hc)
 have cmd := fun c (hc : c ∈ L) => mde_call hS hd rfl rfl hc (hsub c hc)
 have cdf := fun c (hc : c ∈ L) => dif_call hd (eo c hc) rfl (ek c hc) rfl (er c hc)
 have cmi := fun c (hc : c ∈ L) => mir_call (eo c hc) (ek c hc)
 have cbk := fun c (hc : c ∈ L) => bck_call (eo c hc) (ek c hc)
 have cab := fun c (hc : c ∈ L) => abv_call (eo c hc) (eo b hbm) (ek c hc) (ek b hbm) (by rw [er c hc, er b hbm]; omega)
 have ffk : (firstN false (pubN a l').hk (pubN a l').rows.length L).hk = (pubN a l').hk := rfl
 generalize firstN false (pubN a l').hk (pubN a l').rows.length L = FD at *
 have fcp := cpy_call FD (by omega) ffk
 have fmi := mir_call fo ffk
 have fbk := bck_call fo ffk
 have fab := abv_call fo (eo b hbm) ffk (ek b hbm) (by rw [fl, er b hbm]; omega)
 have amo := alk_call (mirrorN FD) (by rw [mirrorN, made_len]; omega) (hk := (pubN a l').hk)
 have abo := alk_call (backN FD) (by rw [backN, made_len]; omega) (hk := (pubN a l').hk)
 have aab := alk_call (aboveN FD b) (by simp [aboveN, fl, er b hbm]; omega) (hk := (pubN a l').hk)
 have n0 : (natsV (pubN a l').rows).length = (pubN a l').rows.length := by simp
 have n1 : (natsV FD.rows).length = (pubN a l').rows.length := by simp [fl]
 have n2 : (natsV (mirrorN FD).rows).length = (pubN a l').rows.length := by simp [mirrorN, madeN, fl]
 have n3 : (natsV (backN FD).rows).length = (pubN a l').rows.length := by simp [backN, madeN, fl]
 have n4 : (natsV (aboveN FD b).rows).length = (pubN a l').rows.length + (pubN a l').rows.length := by simp [aboveN, fl, er b hbm]
 have n5 : (natsV b.rows).length = (pubN a l').rows.length := by simp [er b hbm]
 have m2 : ∀ c ∈ L, (natsV (mirrorN c).rows).length = (pubN a l').rows.length := fun c hc => by simp [mirrorN, madeN, er c hc]
 have m3 : ∀ c ∈ L, (natsV (backN c).rows).length = (pubN a l').rows.length := fun c hc => by simp [backN, madeN, er c hc]
 have m4 : ∀ c ∈ L, (natsV (aboveN c b).rows).length = (pubN a l').rows.length + (pubN a l').rows.length := fun c hc => by simp [aboveN, er c hc, er b hbm]
 have m5 : ∀ c ∈ L, (natsV c.rows).length = (pubN a l').rows.length := fun c hc => by simp [er c hc]
 have pD := Cp.nats_plain (pubN a l').rows
 generalize hd0 : natsV (pubN a l').rows = D at *
 generalize hn0 : (pubN a l').rows.length = n at *
 generalize hh0 : (pubN a l').hk = hk at *
 have hLl : (L.map setV).length = L.length := by simp
 have hlT : (L.map setT).length = L.length := by simp
 have hfe := setT_fe L
 have hat0 : (L.map setV)[0]? = some (.agg [iv (hk : Int), .list 1 (natsV b.rows)]) := by
  rw [List.getElem?_map, hb0]; simp [setV, ek b hbm]
 have hat : ∀ i (h : i < L.length), (L.map setV)[i]? = some (.agg [iv (hk : Int), .list 1 (natsV L[i].rows)]) := fun i h => by
  rw [setV_at h, ek _ (List.getElem_mem h)]
 have hm1 : ∀ (f : DesN → DesN), (∀ c, (f c).hk = c.hk) → ∀ i (h : i < L.length), (((L.take (i + 1)).map f).map setV) = ((L.take i).map f).map setV ++ [.agg [iv (hk : Int), .list 1 (natsV (f L[i]).rows)]] := fun f hf i h => by
  rw [List.take_succ, List.getElem?_eq_getElem h, List.map_append, List.map_append]
  simp [setV, hf, ek _ (List.getElem_mem h)]
 have hm0 : ∀ (f : DesN → DesN) i, i ≤ L.length → ((((L.take i).map f).map setV)).length = i := fun f i h => by simp; omega
 have tkD : D.take n = D := List.take_of_length_le (by omega)
 have e1 : wordsV (l.take 12) = (wordsV l).take 12 := by unfold wordsV; rw [List.map_take]
 refine lim_by (fn := a3) (k := 3) (res := [.tmp 6]) rfl rfl rfl (by simp -implicitDefEqProofs (maxSteps := 2000000) (disch := first | exact tt_rfl rfl | omega | (simp only [go_sem] <;> omega) | fail) only [go_sem]) ?_
 try delta mvA
 try delta opA
 try delta tA
 simp -implicitDefEqProofs (maxSteps := 2000000) (disch := first | exact tt_rfl rfl | omega | (simp only [go_sem] <;> omega) | fail) only [go_sem]
 by_cases h12 : 12 < l.length
 case' pos =>
  rw [if_pos h12] at hl'
  subst hl'
  rw [e1] at hD
  have h12' : (12 : Int) < l.length := by omega
  repeat (first | apply Wp.seqA | apply Wp.skipS | apply Wp.blockS | ((first | apply Wp.regS | apply Wp.condV | apply Wp.reg | apply Wp.condW | apply fin_ret); simp -implicitDefEqProofs (maxSteps := 2000000) (disch := first | exact tt_rfl rfl | omega | (simp only [go_sem] <;> omega) | fail) only [go_sem, hwl, h12', hD, hCs, n0, tkD, hSt, hF, n1, hLl, hlT, hfe, pD, ite_self] <;> try with_reducible rfl) | apply Wp.block | apply Wp.exitS | apply Wp.retS | apply Wp.exit | apply Wp.ret | apply Wp.skip)
 case' neg =>
  rw [if_neg h12] at hl'
  subst hl'
  have h12' : ¬ (12 : Int) < l'.length := by omega
  repeat (first | apply Wp.seqA | apply Wp.skipS | apply Wp.blockS | ((first | apply Wp.regS | apply Wp.condV | apply Wp.reg | apply Wp.condW | apply fin_ret); simp -implicitDefEqProofs (maxSteps := 2000000) (disch := first | exact tt_rfl rfl | omega | (simp only [go_sem] <;> omega) | fail) only [go_sem, hwl, h12', hD, hCs, n0, tkD, hSt, hF, n1, hLl, hlT, hfe, pD, ite_self] <;> try with_reducible rfl) | apply Wp.block | apply Wp.exitS | apply Wp.retS | apply Wp.exit | apply Wp.ret | apply Wp.skip)
 all_goals
  apply Wp.loopF L.length (fun i => ⟨[(7, .ptr 448 0 0), (8, .list 2 (L.map setV)), (9, iv 1), (10, .ptr 640 0 0), (12, .slice 768 0 i), (13, .slice 832 0 i), (14, .slice 896 0 i), (15, iv (i : Int))], [(448, .box [iv (hk : Int), .list 1 D]), (640, .box [iv (hk : Int), .slice 310241 0 n]), (768, .arr 2 (((L.take i).map mirrorN).map setV)), (832, .arr 2 (((L.take i).map fun c => aboveN c b).map setV)), (896, .arr 2 (((L.take i).map backN).map setV)), (310241, .arr 1 (natsV FD.rows))], [], 10000000⟩) (fun _ => True)
  ·simp -implicitDefEqProofs (maxSteps := 2000000) (disch := first | exact tt_rfl rfl | omega | (simp only [go_sem] <;> omega) | fail) only [go_sem, norm_eq, Ok.some]
   rfl
  ·trivial
  intro i hi _
  by_cases h' : i < L.length
  ·have hc := List.getElem_mem h'
   have a1 := hat i h'
   have k1 := ckp _ hc
   have k2 := cmd _ hc
   obtain ⟨x, y, k3⟩ := cdf _ hc
   have k4 := cmi _ hc
   have k5 := cbk _ hc
   have k6 := cab _ hc
   have kb := ckp _ hbm
   have l2 := m2 _ hc
   have l3 := m3 _ hc
   have l4 := m4 _ hc
   have l5 := m5 _ hc
   have t0 : (natsV L[i].rows).take n = natsV L[i].rows := List.take_of_length_le (by omega)
   have t2 : (natsV (mirrorN L[i]).rows).take n = natsV (mirrorN L[i]).rows := List.take_of_length_le (by omega)
   have t3 : (natsV (backN L[i]).rows).take n = natsV (backN L[i]).rows := List.take_of_length_le (by omega)
   have t4 : (natsV (aboveN L[i] b).rows).take (n + n) = natsV (aboveN L[i] b).rows := List.take_of_length_le (by omega)
   have t5 : (natsV b.rows).take n = natsV b.rows := List.take_of_length_le (by omega)
   have P0 := Cp.nats_plain L[i].rows
   have P2 := Cp.nats_plain (mirrorN L[i]).rows
   have P3 := Cp.nats_plain (backN L[i]).rows
   have P4 := Cp.nats_plain (aboveN L[i] b).rows
   have P5 := Cp.nats_plain b.rows
   have f1 := hm1 mirrorN (fun _ => rfl) i h'
   have f2 := hm1 (fun c => aboveN c b) (fun _ => rfl) i h'
   have f3 := hm1 backN (fun _ => rfl) i h'
   have z1 := hm0 mirrorN i hi
   have z2 := hm0 (fun c => aboveN c b) i hi
   have z3 := hm0 backN i hi
   rw [f1, f2, f3]
   clear f1 f2 f3 hm1 hm0 m2 m3 m4 m5 ckp cmd cdf cmi cbk cab hat hsub eo ek er
   dsimp only at z2 ⊢
   generalize ((L.take i).map mirrorN).map setV = M1 at *
   generalize ((L.take i).map fun c => aboveN c b).map setV = M2 at *
   generalize ((L.take i).map backN).map setV = M3 at *
   generalize natsV (mirrorN L[i]).rows = CM at *
   generalize natsV (backN L[i]).rows = CB at *
   generalize natsV (aboveN L[i] b).rows = CA at *
   generalize natsV L[i].rows = C at *
   generalize natsV b.rows = B at *
   generalize natsV FD.rows = FR at *
   repeat (first | apply Wp.seqA | apply Wp.skipS | apply Wp.blockS | ((first | apply Wp.regS | apply Wp.condV | apply Wp.reg | apply Wp.condW | apply fin_ret); simp -implicitDefEqProofs (maxSteps := 2000000) (disch := first | exact tt_rfl rfl | omega | (simp only [go_sem] <;> omega) | fail) only [go_sem, h', Int.ofNat_lt, hLl, a1, hat0, cd, k1, k2, k3, k4, k5, k6, kb, l2, l3, l4, l5, n5, n0, tkD, t0, t2, t3, t4, t5, P0, P2, P3, P4, P5, pD, z1, z2, z3, bne_self_eq_false, ite_self] <;> try with_reducible rfl) | apply Wp.block | apply Wp.exitS | apply Wp.retS | apply Wp.exit | apply Wp.ret | apply Wp.skip)
   apply round_next
   ·simp -implicitDefEqProofs (maxSteps := 2000000) (disch := first | exact tt_rfl rfl | omega | (simp only [go_sem] <;> omega) | fail) only [go_sem, norm_eq, Ok.some]; with_reducible rfl
   exact ⟨h', by simp, trivial⟩
  ·obtain rfl : i = L.length := by omega
   have hnn : ¬ ((L.length : Nat) : Int) < L.length := by omega
   rw [List.take_length]
   have z1 := hm0 mirrorN L.length (Nat.le_refl _)
   have z2 := hm0 (fun c => aboveN c b) L.length (Nat.le_refl _)
   have z3 := hm0 backN L.length (Nat.le_refl _)
   rw [List.take_length] at z1 z2 z3
   have kb := ckp _ hbm
   have t1 : (natsV FD.rows).take n = natsV FD.rows := List.take_of_length_le (by omega)
   have t2 : (natsV (mirrorN FD).rows).take n = natsV (mirrorN FD).rows := List.take_of_length_le (by omega)
   have t3 : (natsV (backN FD).rows).take n = natsV (backN FD).rows := List.take_of_length_le (by omega)
   have t4 : (natsV (aboveN FD b).rows).take (n + n) = natsV (aboveN FD b).rows := List.take_of_length_le (by omega)
   have t5 : (natsV b.rows).take n = natsV b.rows := List.take_of_length_le (by omega)
   have P1 := Cp.nats_plain FD.rows
   have P2 := Cp.nats_plain (mirrorN FD).rows
   have P3 := Cp.nats_plain (backN FD).rows
   have P4 := Cp.nats_plain (aboveN FD b).rows
   have P5 := Cp.nats_plain b.rows
   have y1 : ((L.map mirrorN).map setV).take L.length = (L.map mirrorN).map setV := List.take_of_length_le (by omega)
   have y2 : ((L.map fun c => aboveN c b).map setV).take L.length = (L.map fun c => aboveN c b).map setV := List.take_of_length_le (by omega)
   have y3 : ((L.map backN).map setV).take L.length = (L.map backN).map setV := List.take_of_length_le (by omega)
   clear hm1 hm0 m2 m3 m4 m5 ckp cmd cdf cmi cbk cab hat hsub eo ek er
   generalize (L.map mirrorN).map setV = M1 at *
   generalize (L.map fun c => aboveN c b).map setV = M2 at *
   generalize (L.map backN).map setV = M3 at *
   generalize natsV (mirrorN FD).rows = CM at *
   generalize natsV (backN FD).rows = CB at *
   generalize natsV (aboveN FD b).rows = CA at *
   generalize natsV b.rows = B at *
   generalize natsV FD.rows = FR at *
   repeat (first | apply Wp.seqA | apply Wp.skipS | apply Wp.blockS | ((first | apply Wp.regS | apply Wp.condV | apply Wp.reg | apply Wp.condW | apply fin_ret); simp -implicitDefEqProofs (maxSteps := 2000000) (disch := first | exact tt_rfl rfl | omega | (simp only [go_sem] <;> omega) | fail) only [go_sem, hnn, hLl, hat0, hFm, hFa, hFb, fcp, fmi, fbk, fab, amo, abo, aab, kb, kp, ks, n1, n2, n3, n4, n5, n0, t1, t2, t3, t4, t5, P1, P2, P3, P4, P5, y1, y2, y3, z1, z2, z3, bne_self_eq_false, ite_self] <;> try with_reducible rfl) | apply Wp.block | apply Wp.exitS | apply Wp.retS | apply Wp.exit | apply Wp.ret | apply Wp.skip)
end Go.Abs

set_option linter.all false
namespace Go.Abs
set_option maxRecDepth 10000
theorem topCopied_ok (x : Fin 256) (l : List (Fin 65536)) (b : List (List (Fin 256))) : lim F 3 [.int .u8 (x.1 : Int), .list 1 (l.map fun n => .int .u16 (n.1 : Int)), .list 1 (b.map fun b => .list 1 (b.map fun n => .int .u8 (n.1 : Int)))] = some (.bool true, []) :=
 copied_main pubPoint_ok pubSet_ok x.1 x.2 l b
end Go.Abs
