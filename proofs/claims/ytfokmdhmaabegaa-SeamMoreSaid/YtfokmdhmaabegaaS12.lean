/-
  Chapter 7: a truth with so much gain is filled in, pick by pick: the contract of fill.
-/
import Derived.Test.YtfokmdhmaabegaaS11
import Derived.Test.YtfokmdhmaabegaaWpE
set_option linter.all false
namespace Go.Abs
set_option maxRecDepth 10000
set_option maxHeartbeats 1000000

def fD (m : List Span) (q : Nat) (g : Int) (i : Nat) : Int := max (at' m i).lo (g - (dS m (i + 1) q).hi)
def gN (m : List Span) (p q : Nat) (g : Int) : Nat → Int
  | 0 => g
  | j + 1 => gN m p q g j - fD m q (gN m p q g j) (p + j)
def fA (wa wb m : List Span) (p q : Nat) (g : Int) (j : Nat) : Int := max (at' wa (p + j)).lo ((at' wb (p + j)).lo + fD m q (gN m p q g j) (p + j))
def fB (wa wb m : List Span) (p q : Nat) (g : Int) (j : Nat) : Int := fA wa wb m p q g j - fD m q (gN m p q g j) (p + j)

theorem dS_step {m : List Span} {i q : Nat} (hi : i < m.length) : dS m i q = ⟨(at' m i).lo + (dS m (i + 1) q).lo, (at' m i).hi + (dS m (i + 1) q).hi⟩ := by
  simp only [dS, pre_succ hi, Span.add, at'_get hi]
  congr 1 <;> omega
theorem dS_self {m : List Span} {i : Nat} : dS m i i = ⟨0, 0⟩ := by simp [dS]

theorem dS_ord {m : List Span} (ho : ∀ i, (at' m i).lo ≤ (at' m i).hi) {f : Nat} : ∀ {k : Nat}, f + k ≤ m.length → (dS m f (f + k)).lo ≤ (dS m f (f + k)).hi
  | 0, _ => by simp [dS]
  | k + 1, h => by
    have ih := dS_ord ho (f := f) (k := k) (by omega)
    have := ho (f + k)
    rw [at'_get (by omega)] at this
    simp only [dS, ← Nat.add_assoc, pre_succ (show f + k < m.length by omega), Span.add] at ih ⊢
    omega

theorem gN_bound {m : List Span} {p q : Nat} {g : Int} (ho : ∀ i, (at' m i).lo ≤ (at' m i).hi) (hq : q ≤ m.length) (hg : (dS m p q).lo ≤ g ∧ g ≤ (dS m p q).hi) : ∀ {j : Nat}, p + j ≤ q → (dS m (p + j) q).lo ≤ gN m p q g j ∧ gN m p q g j ≤ (dS m (p + j) q).hi
  | 0, _ => hg
  | j + 1, h => by
    have ih := gN_bound ho hq hg (j := j) (by omega)
    rw [dS_step (show p + j < m.length by omega)] at ih
    have := ho (p + j)
    have ho2 := dS_ord ho (f := p + j + 1) (k := q - (p + j + 1)) (by omega)
    rw [show p + j + 1 + (q - (p + j + 1)) = q by omega] at ho2
    simp only [gN, fD]
    rw [show p + (j + 1) = p + j + 1 by omega]
    dsimp only at ih
    omega

theorem gN_end {m : List Span} {p q : Nat} {g : Int} (ho : ∀ i, (at' m i).lo ≤ (at' m i).hi) (hp : p ≤ q) (hq : q ≤ m.length) (hg : (dS m p q).lo ≤ g ∧ g ≤ (dS m p q).hi) : gN m p q g (q - p) = 0 := by
  have := gN_bound ho hq hg (j := q - p) (by omega)
  rw [show p + (q - p) = q by omega, dS_self] at this
  dsimp only at this
  omega

theorem seg_at {m : List Span} {p q k : Nat} (hk : p + k < q) (hq : q ≤ m.length) : (sumsL (seg m p q))[k + 1]? = some (dS m p (p + k + 1)) := by
  simp only [sumsL, List.getElem?_map]
  rw [List.getElem?_range (by rw [seg_length (by omega) hq]; omega)]
  simp only [Option.map]
  rw [pre_seg (by omega) hq]; rfl

theorem fill_ok (wa wb m : List Span) (p q : Nat) (g : Int) (A B : List Int) (hsm : Small m) (hp : p ≤ q) (hq : q ≤ m.length) (ha : wa.length = m.length) (hb : wb.length = m.length) (wda : Wide wa) (wdb : Wide wb)
    (ho : ∀ i, (at' m i).lo ≤ (at' m i).hi) (hg : (dS m p q).lo ≤ g ∧ g ≤ (dS m p q).hi) (hA : A.length ≤ 1000) (hB : B.length ≤ 1000) :
    lim F 77 [.agg [.list 2 (wa.map Span.av), .list 2 (wb.map Span.av), .list 2 (m.map Span.av)], .bor [.own 1 (A.map fun n => iv n), .own 1 (B.map fun n => iv n)], iv p, iv q, iv g] =
      some (.tuple [], [.bor [.own 1 ((A ++ (List.range (q - p)).map (fA wa wb m p q g)).map fun n => iv n), .own 1 ((B ++ (List.range (q - p)).map (fB wa wb m p q g)).map fun n => iv n)]]) := by
  have hs := sums_small (seg m p q) (hsm.sub ((List.take_sublist _ _).trans (List.drop_sublist _ _)))
  have hlen : (seg m p q).length = q - p := seg_length hp hq
  have hm := hsm.1
  have hsl : (sumsL (seg m p q)).length = q - p + 1 := by simp [sumsL, hlen]
  have hse : (sumsL (seg m p q))[q - p]? = some (dS m p q) := by
    simp only [sumsL, List.getElem?_map]
    rw [List.getElem?_range (by omega)]
    simp only [Option.map]
    rw [pre_seg (by omega) hq]; congr 2; omega
  have hsk := fun k => seg_at (m := m) (p := p) (q := q) (k := k)
  have hdr : List.take (((q : Int) - p).toNat) (List.drop p (m.map Span.av)) = (seg m p q).map Span.av := by
    rw [seg, List.map_take, List.map_drop]; congr 1; omega
  have hbd := fun j (h : p + j ≤ q) => gN_bound ho hq hg (j := j) h
  have hds := fun f e (hf : f ≤ m.length) (he : e ≤ m.length) => dS_small hsm (e := e) (f := f) he hf
  have hbd2 := fun j (h : p + (j + 1) ≤ q) => gN_bound ho hq hg (j := j + 1) h
  generalize sumsL (seg m p q) = ss at *
  generalize seg m p q = sg at *
  refine lim_by (fn := a77) (k := 5) (res := []) rfl rfl rfl (by simp -implicitDefEqProofs (maxSteps := 2000000) (disch := first | exact tt_rfl rfl | omega | (simp only [go_sem] <;> omega) | fail) only [go_sem]) ?_
  simp -implicitDefEqProofs (maxSteps := 2000000) (disch := first | exact tt_rfl rfl | omega | (simp only [go_sem] <;> omega) | fail) only [go_sem]
  repeat (first | apply Wp.seqA | apply Wp.skipS | apply Wp.blockS | ((first | apply Wp.regS | apply Wp.condV | apply Wp.reg | apply Wp.condW | apply fin_ret); simp -implicitDefEqProofs (maxSteps := 2000000) (disch := first | exact tt_rfl rfl | omega | (simp only [go_sem] <;> omega) | fail) only [go_sem, hdr, hs, hse, hsl, hlen, List.getElem?_map, Option.map_some, Span.av.eq_1, show (p : Int) ≤ q by omega, show (((q - p + 1 : Nat) : Int) - 1).toNat = q - p by omega] <;> try with_reducible rfl) | apply Wp.block | apply Wp.exitS | apply Wp.retS | apply Wp.exit | apply Wp.ret | apply Wp.skip)
  apply Wp.loopF (q - p) (fun j => ⟨[(1, .ptr 45000 0 0), (2, iv p), (3, iv q), (4, iv (gN m p q g j)), (5, .ptr 320 0 0), (10, .slice 640 0 (q - p + 1)), (11, .ptr 704 0 0), (12, iv ((p + j : Nat) : Int))],
    [(45000, .box [.slice 770000 0 (A.length + j), .slice 770001 0 (B.length + j)]), (320, .box [.list 2 (wa.map Span.av), .list 2 (wb.map Span.av), .list 2 (m.map Span.av)]), (640, .arr 2 (ss.map Span.av)), (704, .box [iv (dS m p q).lo, iv (dS m p q).hi]),
     (770000, .arr 1 ((A ++ (List.range j).map (fA wa wb m p q g)).map fun n => iv n)), (770001, .arr 1 ((B ++ (List.range j).map (fB wa wb m p q g)).map fun n => iv n))], [(45000, none)], 1000000⟩) (fun _ => True)
  · simp -implicitDefEqProofs (maxSteps := 2000000) (disch := first | exact tt_rfl rfl | omega | (simp only [go_sem] <;> omega) | fail) only [go_sem, norm_eq, Ok.some]
    simp [gN, hsl]
  · trivial
  intro j hj _
  by_cases h : j < q - p
  · have xm : m[p + j]? = some (at' m (p + j)) := at'_eq (by omega)
    have xa : wa[p + j]? = some (at' wa (p + j)) := at'_eq (by omega)
    have xb : wb[p + j]? = some (at' wb (p + j)) := at'_eq (by omega)
    have xs := hsk j (by omega) hq
    have q1 := wda (p + j)
    have q2 := wdb (p + j)
    have b1 := hbd j (by omega)
    have d1 := hds p (p + j) (by omega) (by omega)
    have d2 := hds p q (by omega) hq
    have d3 := hds p (p + j + 1) (by omega) (by omega)
    have d4 := hds (p + j) q (by omega) (by omega)
    have d5 := hds (p + j + 1) q (by omega) (by omega)
    have e1 : (dS m p q).hi - (dS m p (p + j + 1)).hi = (dS m (p + j + 1) q).hi := by simp only [dS]; omega
    have m1 := hsm.2 (at' m (p + j)) (by rw [at'_get (by omega)]; exact List.getElem_mem _)
    have hlt : ((p + j : Nat) : Int) < q := by omega
    have e2 : (((p + j : Nat) : Int) - p + 1).toNat = j + 1 := by omega
    clear hds hbd hsk ho hs hdr hse
    have b2 := hbd2 j (by omega)
    have xD : max (at' m (p + j)).lo (gN m p q g j - (dS m (p + j + 1) q).hi) = fD m q (gN m p q g j) (p + j) := rfl
    have xW : max (at' wa (p + j)).lo ((at' wb (p + j)).lo + fD m q (gN m p q g j) (p + j)) = fA wa wb m p q g j := rfl
    have xG : gN m p q g j - fD m q (gN m p q g j) (p + j) = gN m p q g (j + 1) := rfl
    have xB : fA wa wb m p q g j - fD m q (gN m p q g j) (p + j) = fB wa wb m p q g j := rfl
    have b3 : -20000000 ≤ fD m q (gN m p q g j) (p + j) ∧ fD m q (gN m p q g j) (p + j) ≤ 20000000 := by rw [← xD]; omega
    have b4 : -40000000 ≤ fA wa wb m p q g j ∧ fA wa wb m p q g j ≤ 40000000 := by rw [← xW]; omega
    have b5 : -8000000 ≤ gN m p q g j ∧ gN m p q g j ≤ 8000000 := by omega
    clear b1 b2 hbd2
    have q3 := q2.1
    have q4 := q2.2.1
    have hpj : ((p + j : Nat) : Int) ≤ 200 := by omega
    have hp0 : (0 : Int) ≤ p ∧ (p : Int) ≤ ((p + j : Nat) : Int) := by omega
    have hj1 : j + 1 < q - p + 1 := by omega
    clear q1 q2 d1 d4 m1 hj ha hb wda wdb hg hlen hm hsl hp hq hsm
    generalize hGe : gN m p q g (j + 1) = g' at *
    generalize hBe : fB wa wb m p q g j = fb at *
    generalize hWe : fA wa wb m p q g j = fa at *
    generalize hDe : fD m q (gN m p q g j) (p + j) = D at *
    generalize gN m p q g j = gj at *
    repeat (first | apply Wp.seqA | apply Wp.skipS | apply Wp.blockS | ((first | apply Wp.regS | apply Wp.condV | apply Wp.reg | apply Wp.condW | apply fin_ret); simp -implicitDefEqProofs (maxSteps := 2000000) (disch := first | exact tt_rfl rfl | omega | (simp only [go_sem] <;> omega) | fail) only [go_sem, hlt, e2, xm, xa, xb, xs, e1, List.getElem?_map, Option.map_some, Span.av.eq_1, show (((p + j : Nat) : Int)).toNat = p + j by omega, xD, xW, xB, xG] <;> try with_reducible rfl) | apply Wp.block | apply Wp.exitS | apply Wp.retS | apply Wp.exit | apply Wp.ret | apply Wp.skip)
    apply round_next
    · simp -implicitDefEqProofs (maxSteps := 2000000) (disch := first | exact tt_rfl rfl | omega | (simp only [go_sem] <;> omega) | fail) only [go_sem, norm_eq, Ok.some]; with_reducible rfl
    refine ⟨h, ?_, trivial⟩
    simp [List.range_succ, hGe, hBe, hWe]
    try omega
  · obtain rfl : j = q - p := by omega
    have hlt : ¬ ((p + (q - p) : Nat) : Int) < q := by omega
    repeat (first | apply Wp.seqA | apply Wp.skipS | apply Wp.blockS | ((first | apply Wp.regS | apply Wp.condV | apply Wp.reg | apply Wp.condW | apply fin_ret); simp -implicitDefEqProofs (maxSteps := 2000000) (disch := first | exact tt_rfl rfl | omega | (simp only [go_sem] <;> omega) | fail) only [go_sem, hlt] <;> try with_reducible rfl) | apply Wp.block | apply Wp.exitS | apply Wp.retS | apply Wp.exit | apply Wp.ret | apply Wp.skip)
    try rfl
end Go.Abs
