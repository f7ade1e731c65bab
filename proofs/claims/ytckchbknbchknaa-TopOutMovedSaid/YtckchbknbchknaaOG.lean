/-
 Several texts: OC, OD, OE, OF, OG.
-/
import Derived.Test.YtckchbknbchknaaK
import Derived.Test.YtckchbknbchknaaFns
import Derived.Test.YtckchbknbchknaaEvI
import Derived.Test.YtckchbknbchknaaWpE
import Derived.Test.YtckchbknbchknaaMX
import Derived.Test.YtckchbknbchknaaV0
set_option linter.all false
namespace Go.Abs
set_option maxRecDepth 10000
set_option maxHeartbeats 4000000
def numV (l : List Int) : List AV := l.map fun n => .agg [iv n, iv 0, .bool false]
abbrev numAt (l : List Int) (i : Nat) : Int := l.getD i 0
theorem num_get {l : List Int} {i : Nat} (h : i < l.length) : (numV l)[i]? = some (.agg [iv (numAt l i), iv 0, .bool false]) := by
 unfold numV numAt;rw [List.getElem?_map, List.getElem?_eq_getElem h, List.getD_eq_getElem?_getD, List.getElem?_eq_getElem h]; rfl
@[simp] theorem num_len (l : List Int) : (numV l).length = l.length := by simp [numV]
theorem after_okO (l : List Int) (hk : Int) (i s : Nat) (h0 : 0 < l.length) (h : i < 1000) (hs : s < 1000) : lim F 30 [.agg [iv hk, .list 3 (numV l), iv hk], iv (i : Int), iv (s : Int)] = some (iv (((i + s) % l.length : Nat) : Int), []) := by
 have e : Int.tmod ((i : Int) + (s : Int)) (l.length : Int) = (((i + s) % l.length : Nat) : Int) := by rw [Int.tmod_eq_emod_of_nonneg (by omega)]; rfl
 have hl := num_len l;generalize numV l = es at *;refine Yr (fn:=a30) (k:=3) (res:=[.tmp 6]) rfl rfl rfl (by simp -implicitDefEqProofs(maxSteps:=9^7)(disch:=first|exact Yo rfl|omega|(simp only[go_sem]<;>omega)|fail)only[go_sem]) ?_
 try delta mvA
 try delta opA
 try delta tA
 simp -implicitDefEqProofs(maxSteps:=9^7)(disch:=first|exact Yo rfl|omega|(simp only[go_sem]<;>omega)|fail)only[go_sem]
 repeat(first|apply Ya|apply Yb|apply Yc|((first|apply Yd|apply Ye|apply Yf|apply Yg|apply Yh);simp -implicitDefEqProofs(maxSteps:=9^7)(disch:=first|exact Yo rfl|omega|(simp only[go_sem]<;>omega)|fail)only[go_sem, hl, e, show ¬ (l.length : Int) = 0 by omega]<;>try with_reducible rfl)|apply Yi|apply Yj|apply Yk|apply Yl|apply Ym|apply Yn)
theorem around_fun (l : List Int) (hk : Int) (f : Nat) : lim F 41 [.agg [iv hk, .list 3 (numV l), iv hk], iv (f : Int)] = some (.func 50 [.iptr (.agg [iv hk, .list 3 (numV l), iv hk]) 0, .iptr (.agg [iv (f : Int)]) 0], []) := by
 generalize numV l = es at *;refine Yr (fn:=a41) (k:=2) (res:=[.tmp 4]) rfl rfl rfl (by simp -implicitDefEqProofs(maxSteps:=9^7)(disch:=first|exact Yo rfl|omega|(simp only[go_sem]<;>omega)|fail)only[go_sem]) ?_
 try delta mvA
 try delta opA
 try delta tA
 simp -implicitDefEqProofs(maxSteps:=9^7)(disch:=first|exact Yo rfl|omega|(simp only[go_sem]<;>omega)|fail)only[go_sem]
 repeat(first|apply Ya|apply Yb|apply Yc|((first|apply Yd|apply Ye|apply Yf|apply Yg|apply Yh);simp -implicitDefEqProofs(maxSteps:=9^7)(disch:=first|exact Yo rfl|omega|(simp only[go_sem]<;>omega)|fail)only[go_sem]<;>try with_reducible rfl)|apply Yi|apply Yj|apply Yk|apply Yl|apply Ym|apply Yn)
def arL (n f i k : Nat) : List (List AV) := (List.range k).map fun j => [iv (((f + (i + j)) % n : Nat) : Int)]
theorem arL_snoc (n f k : Nat) : arL n f 0 (k + 1) = arL n f 0 k ++ [[iv (((f + k) % n : Nat) : Int)]] := by
 unfold arL;rw [List.range_succ, List.map_append];simp
theorem arL_cons (n f i k : Nat) : arL n f i (k + 1) = [iv (((f + i) % n : Nat) : Int)] :: arL n f (i + 1) k := by
 unfold arL;rw [List.range_succ_eq_map, List.map_cons, List.map_map]
 congr 1
 apply List.map_congr_left;intro j _;simp only [Function.comp];rw [show i + (j + 1) = i + 1 + j by omega]
theorem around_guess (l : List Int) (hk : Int) (f : Nat) (h0 : 0 < l.length) (hl : l.length ≤ 900) (hf : f < l.length) : lim F 50 [.ylog none [], .iptr (.agg [iv hk, .list 3 (numV l), iv hk]) 0, .iptr (.agg [iv (f : Int)]) 0] = some (.tuple [], [.ylog none (arL l.length f 0 l.length)]) := by
 have hln := num_len l;have ha := fun i (hi : i < l.length) => after_okO l hk f i h0 (by omega) (by omega)
 have hst := arL_snoc l.length f;generalize numV l = es at *;generalize l.length = n at *;refine Yr (fn:=a50) (k:=3) (res:=[]) rfl rfl rfl (by simp -implicitDefEqProofs(maxSteps:=9^7)(disch:=first|exact Yo rfl|omega|(simp only[go_sem]<;>omega)|fail)only[go_sem]) ?_
 try delta mvA
 try delta opA
 try delta tA
 simp -implicitDefEqProofs(maxSteps:=9^7)(disch:=first|exact Yo rfl|omega|(simp only[go_sem]<;>omega)|fail)only[go_sem]
 repeat(first|apply Ya|apply Yb|apply Yc|((first|apply Yd|apply Ye|apply Yf|apply Yg|apply Yh);simp -implicitDefEqProofs(maxSteps:=9^7)(disch:=first|exact Yo rfl|omega|(simp only[go_sem]<;>omega)|fail)only[go_sem, hln]<;>try with_reducible rfl)|apply Yi|apply Yj|apply Yk|apply Yl|apply Ym|apply Yn)
 apply Yt n (fun i => ⟨[(0, .yieldT 200000), (1, .iptr (.agg [iv hk, .list 3 es, iv hk]) 0), (2, .iptr (.agg [iv (f : Int)]) 0), (8, iv (n : Int)), (9, iv (i : Int))], [(200000, .num 3500000), (3500000, .log none (arL n f 0 i))], [(200000, none)], 10000000⟩) (fun _ => True)
 ·simp -implicitDefEqProofs(maxSteps:=9^7)(disch:=first|exact Yo rfl|omega|(simp only[go_sem]<;>omega)|fail)only[go_sem, norm_eq, Ok.some]
  simp [arL]
 ·trivial
 intro i hi _;by_cases h' : i < n
 ·have a1 := ha i h'
  have a2 := hst i;rw [a2];clear ha hst a2;generalize (f + i) % n = v at *;generalize arL n f 0 i = B at *;repeat(first|apply Ya|apply Yb|apply Yc|((first|apply Yd|apply Ye|apply Yf|apply Yg|apply Yh);simp -implicitDefEqProofs(maxSteps:=9^7)(disch:=first|exact Yo rfl|omega|(simp only[go_sem]<;>omega)|fail)only[go_sem, h', Int.ofNat_lt, a1, hln]<;>try with_reducible rfl)|apply Yi|apply Yj|apply Yk|apply Yl|apply Ym|apply Yn)
  apply Ys
  ·simp -implicitDefEqProofs(maxSteps:=9^7)(disch:=first|exact Yo rfl|omega|(simp only[go_sem]<;>omega)|fail)only[go_sem, norm_eq, Ok.some]; with_reducible rfl
  exact ⟨h', by simp, trivial⟩
 ·obtain rfl : i = n := by omega
  repeat(first|apply Ya|apply Yb|apply Yc|((first|apply Yd|apply Ye|apply Yf|apply Yg|apply Yh);simp -implicitDefEqProofs(maxSteps:=9^7)(disch:=first|exact Yo rfl|omega|(simp only[go_sem]<;>omega)|fail)only[go_sem, h', Int.ofNat_lt]<;>try with_reducible rfl)|apply Yi|apply Yj|apply Yk|apply Yl|apply Ym|apply Yn)
theorem around_check (l : List Int) (hk : Int) (f : Nat) (h0 : 0 < l.length) (hl : l.length ≤ 900) (hf : f < l.length) : lim F 50 [.ylog (some 0) (arL l.length f 0 l.length), .iptr (.agg [iv hk, .list 3 (numV l), iv hk]) 0, .iptr (.agg [iv (f : Int)]) 0] = some (.tuple [], [.ylog (some 0) []]) := by
 have hln := num_len l;have ha := fun i (hi : i < l.length) => after_okO l hk f i h0 (by omega) (by omega)
 have hst : ∀ i, i < l.length → arL l.length f i (l.length - i) = [iv (((f + i) % l.length : Nat) : Int)] :: arL l.length f (i + 1) (l.length - (i + 1)) := fun i hi => by
  rw [show l.length - i = l.length - (i + 1) + 1 by omega, arL_cons]
 generalize numV l = es at *;generalize l.length = n at *;refine Yr (fn:=a50) (k:=3) (res:=[]) rfl rfl rfl (by simp -implicitDefEqProofs(maxSteps:=9^7)(disch:=first|exact Yo rfl|omega|(simp only[go_sem]<;>omega)|fail)only[go_sem]) ?_
 try delta mvA
 try delta opA
 try delta tA
 simp -implicitDefEqProofs(maxSteps:=9^7)(disch:=first|exact Yo rfl|omega|(simp only[go_sem]<;>omega)|fail)only[go_sem]
 repeat(first|apply Ya|apply Yb|apply Yc|((first|apply Yd|apply Ye|apply Yf|apply Yg|apply Yh);simp -implicitDefEqProofs(maxSteps:=9^7)(disch:=first|exact Yo rfl|omega|(simp only[go_sem]<;>omega)|fail)only[go_sem, hln]<;>try with_reducible rfl)|apply Yi|apply Yj|apply Yk|apply Yl|apply Ym|apply Yn)
 apply Yt n (fun i => ⟨[(0, .yieldT 200000), (1, .iptr (.agg [iv hk, .list 3 es, iv hk]) 0), (2, .iptr (.agg [iv (f : Int)]) 0), (8, iv (n : Int)), (9, iv (i : Int))], [(200000, .num 3500000), (3500000, .log (some 0) (arL n f i (n - i)))], [(200000, none)], 10000000⟩) (fun _ => True)
 ·simp -implicitDefEqProofs(maxSteps:=9^7)(disch:=first|exact Yo rfl|omega|(simp only[go_sem]<;>omega)|fail)only[go_sem, norm_eq, Ok.some]
  simp
 ·trivial
 intro i hi _;by_cases h' : i < n
 ·have a1 := ha i h'
  have a2 := hst i h';rw [a2];clear ha hst a2;generalize (f + i) % n = v at *;generalize arL n f (i + 1) (n - (i + 1)) = B at *;have hq : AV.beqL [iv (v : Int)] [iv (v : Int)] = true := by simp [AV.beqL, AV.beq]
  repeat(first|apply Ya|apply Yb|apply Yc|((first|apply Yd|apply Ye|apply Yf|apply Yg|apply Yh);simp -implicitDefEqProofs(maxSteps:=9^7)(disch:=first|exact Yo rfl|omega|(simp only[go_sem]<;>omega)|fail)only[go_sem, h', Int.ofNat_lt, a1, hln, hq]<;>try with_reducible rfl)|apply Yi|apply Yj|apply Yk|apply Yl|apply Ym|apply Yn)
  apply Ys
  ·simp -implicitDefEqProofs(maxSteps:=9^7)(disch:=first|exact Yo rfl|omega|(simp only[go_sem]<;>omega)|fail)only[go_sem, norm_eq, Ok.some]; with_reducible rfl
  exact ⟨h', by simp, trivial⟩
 ·obtain rfl : i = n := by omega
  have ez : arL i f i (i - i) = [] := by simp [arL]
  rw [ez];repeat(first|apply Ya|apply Yb|apply Yc|((first|apply Yd|apply Ye|apply Yf|apply Yg|apply Yh);simp -implicitDefEqProofs(maxSteps:=9^7)(disch:=first|exact Yo rfl|omega|(simp only[go_sem]<;>omega)|fail)only[go_sem, h', Int.ofNat_lt]<;>try with_reducible rfl)|apply Yi|apply Yj|apply Yk|apply Yl|apply Ym|apply Yn)
end Go.Abs
set_option linter.all false
namespace Go.Abs
set_option maxRecDepth 10000
set_option maxHeartbeats 4000000
def runV' (n : Nat) (run : Nat → Nat) : List AV := (List.range n).map fun i => iv ((run i : Nat) : Int)
@[simp] theorem runV_len (n : Nat) (run : Nat → Nat) : (runV' n run).length = n := by simp [runV']
theorem runV_get {n : Nat} {run : Nat → Nat} {i : Nat} (h : i < n) : (runV' n run)[i]? = some (iv ((run i : Nat) : Int)) := by
 unfold runV';rw [List.getElem?_map, List.getElem?_range h]; rfl
theorem runV_set {n : Nat} {run : Nat → Nat} {i : Nat} (v : Nat) (h : i < n) : (runV' n run).set i (iv ((v : Nat) : Int)) = runV' n (fun k => if k = i then v else run k) := by
 apply List.ext_getElem?;intro k;by_cases hk : k < n
 ·rw [runV_get hk]
  by_cases e : i = k
  ·subst e
   rw [List.getElem?_set_self (by simpa using hk), if_pos rfl]
  ·rw [List.getElem?_set_ne e, runV_get hk, if_neg (fun q => e q.symm)]
 ·rw [List.getElem?_eq_none (by simp; omega), List.getElem?_eq_none (by simp; omega)]
def upTo (num : Nat → Int) (ok : Bool) (p : Nat) (run : Nat → Nat) (k : Nat) : Nat → Nat := fun i => if i = p then max (run p) (Mo.bestTo num ok p run k) else run i
theorem stage_le (n f : Nat) (num : Nat → Int) (W : Nat → Bool) : ∀ j i, Mo.stage n f num W j i ≤ j + 1
 | 0, i => by simp only [Mo.stage]; split <;> omega
 | j + 1, i => by
  rw [Mo.stage];dsimp only;have h1 := stage_le n f num W j i;split
  ·have h2 := (Mo.best_le (num := num) (ok := !W i) (p := i) (run := Mo.stage n f num W j) (B := j + 2) n).2 fun k _ _ _ _ => by
    have := stage_le n f num W j k;omega
   omega
  ·omega
theorem upTo_step {num : Nat → Int} {ok : Bool} {p : Nat} {run : Nat → Nat} {k : Nat} (hc : ¬ (0 < run k ∧ ok = true ∧ num k < num p)) : upTo num ok p run (k + 1) = upTo num ok p run k := by
 funext i;unfold upTo;rw [Mo.bestTo, if_neg hc];split
 ·omega
 ·rfl
theorem upTo_take {num : Nat → Int} {ok : Bool} {p : Nat} {run : Nat → Nat} {k : Nat} (hc : 0 < run k ∧ ok = true ∧ num k < num p) : (fun i => if i = p then max (upTo num ok p run k p) (run k + 1) else upTo num ok p run k i) = upTo num ok p run (k + 1) := by
 funext i;unfold upTo;rw [Mo.bestTo, if_pos hc];by_cases e : i = p
 ·subst e
  simp only [if_true];omega
 ·simp only [e, if_false]
theorem from_ok (l : List Int) (hk : Int) (f : Nat) (ks : List Int) (vs : List AV) (W : Nat → Bool) (hW : ∀ i : Nat, kvGet (i : Int) (ks.zip vs) = if W i = true then some (.bool true) else none) (h0 : 0 < l.length) (hl : l.length ≤ 60) (hf : f < l.length) :
  lim F 27 [.agg [iv hk, .list 3 (numV l), iv hk], iv (f : Int), .mapI .i64 ks vs] = some (iv ((Mo.fromTo l.length f (numAt l) W l.length : Nat) : Int), []) := by
 have hln := num_len l;have hA := around_fun l hk f;have hg := around_guess l hk f h0 (by omega) hf
 have hc := around_check l hk f h0 (by omega) hf
 have hnum := fun i (hi : i < l.length) => num_get (l := l) hi
 generalize hN : numAt l = num at *;generalize numV l = es at *;generalize l.length = n at *;have hr0 : (List.replicate n (iv 0))[f]? = some (iv 0) := by rw [List.getElem?_replicate, if_pos hf]
 have hr1 : (List.replicate n (iv 0)).set f (iv 1) = runV' n (Mo.stage n f num W 0) := by
  have e : List.replicate n (iv 0) = runV' n (fun _ => 0) := by
   apply List.ext_getElem?;intro k;by_cases hk : k < n
   ·rw [runV_get hk, List.getElem?_replicate, if_pos hk]; rfl
   ·rw [List.getElem?_eq_none (by simp; omega), List.getElem?_eq_none (by simp; omega)]
  have h1 := runV_set (n := n) (run := fun _ => 0) 1 hf
  rw [e];exact h1
 refine Yr (fn:=a27) (k:=3) (res:=[.cell 6 1 false]) rfl rfl rfl (by simp -implicitDefEqProofs(maxSteps:=9^7)(disch:=first|exact Yo rfl|omega|(simp only[go_sem]<;>omega)|fail)only[go_sem]) ?_
 try delta mvA
 try delta opA
 try delta tA
 simp -implicitDefEqProofs(maxSteps:=9^7)(disch:=first|exact Yo rfl|omega|(simp only[go_sem]<;>omega)|fail)only[go_sem]
 repeat(first|apply Ya|apply Yb|apply Yc|((first|apply Yd|apply Ye|apply Yf|apply Yg|apply Yh);simp -implicitDefEqProofs(maxSteps:=9^7)(disch:=first|exact Yo rfl|omega|(simp only[go_sem]<;>omega)|fail)only[go_sem, hln, hA, hr0, hr1, hf, Int.ofNat_lt, Int.toNat_natCast]<;>try with_reducible rfl)|apply Yi|apply Yj|apply Yk|apply Yl|apply Ym|apply Yn)
 refine Wp.rangeF (fun j fr => fr = ⟨[(3, .ptr 192 0 0), (5, .ptr 320 0 0), (6, .ptr 384 0 0), (7, .ptr 448 0 0)], [(192, .box [iv hk, .list 3 es, iv hk]), (320, .box [.mapI .i64 ks vs]), (384, .box [iv ((Mo.fromTo n f num W j : Nat) : Int)]), (448, .box [.slice 307168 0 n]), (307168, .arr 1 (runV' n (Mo.stage n f num W j)))], [], 10000000⟩) rfl rfl hg hc ?_ ?_ ?_
 ·simp -implicitDefEqProofs(maxSteps:=9^7)(disch:=first|exact Yo rfl|omega|(simp only[go_sem]<;>omega)|fail)only[go_sem, norm_eq, Ok.some]
  rfl
 ·rintro j x fr hx rfl
  have hj : j < n := by
   rcases Nat.lt_or_ge j n with h | h
   ·exact h
   ·rw [List.getElem?_eq_none (by simp [arL]; omega)] at hx; cases hx
  have ex : x = [iv (((f + j) % n : Nat) : Int)] := by
   unfold arL at hx;rw [List.getElem?_map, List.getElem?_range hj] at hx;simp only [Option.map_some, Option.some.injEq, Nat.zero_add] at hx;exact hx.symm
  subst ex;refine ⟨_, rfl, ?_⟩;have hp := Nat.mod_lt (f + j) h0;have hle := stage_le n f num W j;have hnext : Mo.stage n f num W (j + 1) = upTo num (!W ((f + j) % n)) ((f + j) % n) (Mo.stage n f num W j) n := by
   funext i;rw [Mo.stage];dsimp only;unfold upTo;by_cases e : i = (f + j) % n
   ·rw [if_pos e, if_pos e, e]
   ·rw [if_neg e, if_neg e]
  have hgot : Mo.got n f num W j = Mo.stage n f num W (j + 1) ((f + j) % n) := rfl;have hfr : Mo.fromTo n f num W (j + 1) = max (Mo.fromTo n f num W j) (Mo.got n f num W j) := rfl;have hWp := hW ((f + j) % n);have hnp := hnum _ hp;rw [hnext] at hgot;clear hA hg hc hr0 hr1 hW;generalize hpp : (f + j) % n = p at *;generalize hrun : Mo.stage n f num W j = run at *;generalize Mo.fromTo n f num W j = m at *;have hpu : ∀ v : AV, Eff.pure v = ⟨v, [], []⟩ := fun v => id rfl
  have hu0 : upTo num (!W p) p run 0 = run := by
   funext i;unfold upTo;by_cases e : i = p
   ·rw [if_pos e, e]; simp [Mo.bestTo]
   ·rw [if_neg e]
  have hub : ∀ k i, upTo num (!W p) p run k i ≤ n + 2 := fun k i => by
   unfold upTo;have h2 := (Mo.best_le (num := num) (ok := !W p) (p := p) (run := run) (B := n + 2) k).2 fun i _ _ _ _ => by
    have := hle i;omega
   have := hle p;have := hle i;split <;> omega
  repeat(first|apply Ya|apply Yb|apply Yc|((first|apply Yd|apply Ye|apply Yf|apply Yg|apply Yh);simp -implicitDefEqProofs(maxSteps:=9^7)(disch:=first|exact Yo rfl|omega|(simp only[go_sem]<;>omega)|fail)only[go_sem, hln]<;>try with_reducible rfl)|apply Yi|apply Yj|apply Yk|apply Yl|apply Ym|apply Yn)
  apply Yt n (fun k => ⟨[(3, .ptr 192 0 0), (5, .ptr 320 0 0), (6, .ptr 384 0 0), (7, .ptr 448 0 0), (8, iv (p : Int)), (23, .slice 1472 0 n), (24, iv (n : Int)), (25, iv (k : Int))], [(192, .box [iv hk, .list 3 es, iv hk]), (320, .box [.mapI .i64 ks vs]), (384, .box [iv (m : Int)]), (448, .box [.slice 1472 0 n]), (1472, .arr 1 (runV' n (upTo num (!W p) p run k)))], [], 10000000⟩) (fun _ => True)
  ·simp -implicitDefEqProofs(maxSteps:=9^7)(disch:=first|exact Yo rfl|omega|(simp only[go_sem]<;>omega)|fail)only[go_sem, norm_eq, Ok.some]
   rw [hu0];rfl
  ·trivial
  intro k hk' _;have hl1 := runV_len n (upTo num (!W p) p run k);by_cases h2 : k < n
  ·have g1 := runV_get (run := upTo num (!W p) p run k) h2
   have g2 := runV_get (run := upTo num (!W p) p run k) hp;have g3 := hnum k h2;have b1 := hub k k;have b2 := hub k p;by_cases hw : W p = true
   ·rw [if_pos hw] at hWp
    have hs := upTo_step (num := num) (ok := !W p) (p := p) (run := run) (k := k) (fun h => by rw [hw] at h; simp at h)
    rw [hs];generalize upTo num (!W p) p run k = R at *;generalize runV' n R = RV at *;by_cases c1 : 0 < R k
    ·repeat(first|apply Ya|apply Yb|apply Yc|((first|apply Yd|apply Ye|apply Yf|apply Yg|apply Yh);simp -implicitDefEqProofs(maxSteps:=9^7)(disch:=first|exact Yo rfl|omega|(simp only[go_sem]<;>omega)|fail)only[go_sem, h2, Int.ofNat_lt, hl1, g1, hWp, hpu, Int.toNat_natCast, show (0 : Int) < (R k : Int) by omega]<;>try with_reducible rfl)|apply Yi|apply Yj|apply Yk|apply Yl|apply Ym|apply Yn)
     apply Ys
     ·simp -implicitDefEqProofs(maxSteps:=9^7)(disch:=first|exact Yo rfl|omega|(simp only[go_sem]<;>omega)|fail)only[go_sem, norm_eq, Ok.some]; with_reducible rfl
     exact ⟨h2, by simp, trivial⟩
    ·have g1' : RV[k]? = some (iv 0) := by rw [g1, show R k = 0 by omega]; rfl
     repeat(first|apply Ya|apply Yb|apply Yc|((first|apply Yd|apply Ye|apply Yf|apply Yg|apply Yh);simp -implicitDefEqProofs(maxSteps:=9^7)(disch:=first|exact Yo rfl|omega|(simp only[go_sem]<;>omega)|fail)only[go_sem, h2, Int.ofNat_lt, hl1, g1', Int.toNat_natCast, Int.lt_irrefl]<;>try with_reducible rfl)|apply Yi|apply Yj|apply Yk|apply Yl|apply Ym|apply Yn)
     apply Ys
     ·simp -implicitDefEqProofs(maxSteps:=9^7)(disch:=first|exact Yo rfl|omega|(simp only[go_sem]<;>omega)|fail)only[go_sem, norm_eq, Ok.some]; with_reducible rfl
     exact ⟨h2, by simp, trivial⟩
   ·rw [if_neg hw] at hWp
    by_cases c3 : num k < num p
    ·have hkp : k ≠ p := fun e => by rw [e] at c3; omega
     have hrk : upTo num (!W p) p run k k = run k := by unfold upTo; rw [if_neg hkp]
     by_cases c1 : 0 < run k
     ·have hs := upTo_take (num := num) (ok := !W p) (p := p) (run := run) (k := k) ⟨c1, by simp [hw], c3⟩
      rw [hrk] at g1 b1;have hset := runV_set (run := upTo num (!W p) p run k) (max (upTo num (!W p) p run k p) (run k + 1)) hp;rw [hs] at hset;rw [← hset];clear hs hset hrk hub hu0;generalize upTo num (!W p) p run k = R at *;have hmx : max ((R p : Nat) : Int) (((run k : Nat) : Int) + 1) = ((max (R p) (run k + 1) : Nat) : Int) := by omega
      generalize runV' n R = RV at *;repeat(first|apply Ya|apply Yb|apply Yc|((first|apply Yd|apply Ye|apply Yf|apply Yg|apply Yh);simp -implicitDefEqProofs(maxSteps:=9^7)(disch:=first|exact Yo rfl|omega|(simp only[go_sem]<;>omega)|fail)only[go_sem, h2, hp, Int.ofNat_lt, hl1, g1, g2, g3, hnp, hln, hWp, hpu, c3, hmx, Int.toNat_natCast, show (0 : Int) < (run k : Int) by omega]<;>try with_reducible rfl)|apply Yi|apply Yj|apply Yk|apply Yl|apply Ym|apply Yn)
      apply Ys
      ·simp -implicitDefEqProofs(maxSteps:=9^7)(disch:=first|exact Yo rfl|omega|(simp only[go_sem]<;>omega)|fail)only[go_sem, norm_eq, Ok.some]; with_reducible rfl
      exact ⟨h2, by simp, trivial⟩
     ·have hs := upTo_step (num := num) (ok := !W p) (p := p) (run := run) (k := k) (fun h => c1 h.1)
      rw [hs];rw [hrk] at g1 b1;generalize upTo num (!W p) p run k = R at *;generalize runV' n R = RV at *;have g1' : RV[k]? = some (iv 0) := by rw [g1, show run k = 0 by omega]; rfl
      repeat(first|apply Ya|apply Yb|apply Yc|((first|apply Yd|apply Ye|apply Yf|apply Yg|apply Yh);simp -implicitDefEqProofs(maxSteps:=9^7)(disch:=first|exact Yo rfl|omega|(simp only[go_sem]<;>omega)|fail)only[go_sem, h2, hp, Int.ofNat_lt, hl1, g1', Int.toNat_natCast, Int.lt_irrefl]<;>try with_reducible rfl)|apply Yi|apply Yj|apply Yk|apply Yl|apply Ym|apply Yn)
      apply Ys
      ·simp -implicitDefEqProofs(maxSteps:=9^7)(disch:=first|exact Yo rfl|omega|(simp only[go_sem]<;>omega)|fail)only[go_sem, norm_eq, Ok.some]; with_reducible rfl
      exact ⟨h2, by simp, trivial⟩
    ·have hs := upTo_step (num := num) (ok := !W p) (p := p) (run := run) (k := k) (fun h => c3 h.2.2)
     rw [hs];generalize upTo num (!W p) p run k = R at *;generalize runV' n R = RV at *;by_cases c1 : 0 < R k
     ·repeat(first|apply Ya|apply Yb|apply Yc|((first|apply Yd|apply Ye|apply Yf|apply Yg|apply Yh);simp -implicitDefEqProofs(maxSteps:=9^7)(disch:=first|exact Yo rfl|omega|(simp only[go_sem]<;>omega)|fail)only[go_sem, h2, hp, Int.ofNat_lt, hl1, g1, g3, hnp, hln, hWp, hpu, c3, Int.toNat_natCast, show (0 : Int) < (R k : Int) by omega]<;>try with_reducible rfl)|apply Yi|apply Yj|apply Yk|apply Yl|apply Ym|apply Yn)
      apply Ys
      ·simp -implicitDefEqProofs(maxSteps:=9^7)(disch:=first|exact Yo rfl|omega|(simp only[go_sem]<;>omega)|fail)only[go_sem, norm_eq, Ok.some]; with_reducible rfl
      exact ⟨h2, by simp, trivial⟩
     ·have g1' : RV[k]? = some (iv 0) := by rw [g1, show R k = 0 by omega]; rfl
      repeat(first|apply Ya|apply Yb|apply Yc|((first|apply Yd|apply Ye|apply Yf|apply Yg|apply Yh);simp -implicitDefEqProofs(maxSteps:=9^7)(disch:=first|exact Yo rfl|omega|(simp only[go_sem]<;>omega)|fail)only[go_sem, h2, hp, Int.ofNat_lt, hl1, g1', Int.toNat_natCast, Int.lt_irrefl]<;>try with_reducible rfl)|apply Yi|apply Yj|apply Yk|apply Yl|apply Ym|apply Yn)
      apply Ys
      ·simp -implicitDefEqProofs(maxSteps:=9^7)(disch:=first|exact Yo rfl|omega|(simp only[go_sem]<;>omega)|fail)only[go_sem, norm_eq, Ok.some]; with_reducible rfl
      exact ⟨h2, by simp, trivial⟩
  ·obtain rfl : k = n := by omega
   have g2 := runV_get (run := upTo num (!W p) p run k) hp;have b2 := hub k p;rw [hfr, hgot, hnext];generalize upTo num (!W p) p run k = R at *;have hmx : max ((m : Nat) : Int) ((R p : Nat) : Int) = ((max m (R p) : Nat) : Int) := by omega
   generalize runV' k R = RV at *;repeat(first|apply Ya|apply Yb|apply Yc|((first|apply Yd|apply Ye|apply Yf|apply Yg|apply Yh);simp -implicitDefEqProofs(maxSteps:=9^7)(disch:=first|exact Yo rfl|omega|(simp only[go_sem]<;>omega)|fail)only[go_sem, h2, hp, Int.ofNat_lt, hl1, g2, hmx, Int.toNat_natCast]<;>try with_reducible rfl)|apply Yi|apply Yj|apply Yk|apply Yl|apply Ym|apply Yn)
   apply block_norm;apply Ys
   ·simp -implicitDefEqProofs(maxSteps:=9^7)(disch:=first|exact Yo rfl|omega|(simp only[go_sem]<;>omega)|fail)only[go_sem, norm_eq, Ok.some]; with_reducible rfl
   rfl
 ·rintro fr rfl
  rw [show (arL n f 0 n).length = n by simp [arL]]
  apply block_norm;repeat(first|apply Ya|apply Yb|apply Yc|((first|apply Yd|apply Ye|apply Yf|apply Yg|apply Yh);simp -implicitDefEqProofs(maxSteps:=9^7)(disch:=first|exact Yo rfl|omega|(simp only[go_sem]<;>omega)|fail)only[go_sem]<;>try with_reducible rfl)|apply Yi|apply Yj|apply Yk|apply Yl|apply Ym|apply Yn)
end Go.Abs
set_option linter.all false
namespace Go.Abs
set_option maxRecDepth 10000
set_option maxHeartbeats 4000000
theorem got_le (n f : Nat) (num : Nat → Int) (W : Nat → Bool) (i : Nat) (hi : i < n) : Mo.got n f num W i ≤ n + 1 := by
 have := stage_le n f num W (i + 1) ((f + i) % n);unfold Mo.got;omega
theorem fromTo_le (n f : Nat) (num : Nat → Int) (W : Nat → Bool) : Mo.fromTo n f num W n ≤ n + 1 := (Mo.from_le n).2 fun i hi => got_le n f num W i hi
theorem keptTo_le (n : Nat) (num : Nat → Int) (W : Nat → Bool) (k : Nat) : Mo.keptTo n num W k ≤ n + 1 := (Mo.kept_le k).2 fun f _ _ => fromTo_le n f num W
theorem kept_ok (l : List Int) (hk : Int) (ks : List Int) (vs : List AV) (W : Nat → Bool) (hW : ∀ i : Nat, kvGet (i : Int) (ks.zip vs) = if W i = true then some (.bool true) else none) (h0 : 0 < l.length) (hl : l.length ≤ 60) :
  lim F 18 [.agg [iv hk, .list 3 (numV l), iv hk], .mapI .i64 ks vs] = some (iv ((Mo.keptTo l.length (numAt l) W l.length : Nat) : Int), []) := by
 have hln := num_len l;have hF := fun f hf => from_ok l hk f ks vs W hW h0 hl hf
 have hb := fromTo_le l.length;have hb2 := keptTo_le l.length;have hpu : ∀ v : AV, Eff.pure v = ⟨v, [], []⟩ := fun v => id rfl
 generalize numAt l = num at *;generalize numV l = es at *;generalize l.length = n at *;refine Yr (fn:=a18) (k:=2) (res:=[.tmp 4]) rfl rfl rfl (by simp -implicitDefEqProofs(maxSteps:=9^7)(disch:=first|exact Yo rfl|omega|(simp only[go_sem]<;>omega)|fail)only[go_sem]) ?_
 try delta mvA
 try delta opA
 try delta tA
 simp -implicitDefEqProofs(maxSteps:=9^7)(disch:=first|exact Yo rfl|omega|(simp only[go_sem]<;>omega)|fail)only[go_sem]
 repeat(first|apply Ya|apply Yb|apply Yc|((first|apply Yd|apply Ye|apply Yf|apply Yg|apply Yh);simp -implicitDefEqProofs(maxSteps:=9^7)(disch:=first|exact Yo rfl|omega|(simp only[go_sem]<;>omega)|fail)only[go_sem, hln]<;>try with_reducible rfl)|apply Yi|apply Yj|apply Yk|apply Yl|apply Ym|apply Yn)
 apply Yt n (fun f => ⟨[(1, .mapI .i64 ks vs), (2, .ptr 128 0 0), (4, iv ((Mo.keptTo n num W f : Nat) : Int)), (9, iv (n : Int)), (10, iv (f : Int))], [(128, .box [iv hk, .list 3 es, iv hk])], [], 10000000⟩) (fun _ => True)
 ·simp -implicitDefEqProofs(maxSteps:=9^7)(disch:=first|exact Yo rfl|omega|(simp only[go_sem]<;>omega)|fail)only[go_sem, norm_eq, Ok.some]
  rfl
 ·trivial
 intro f hf _;by_cases h' : f < n
 ·have a1 := hF f h'
  have a2 := hW f;have a3 := hb f num W;have a4 := hb2 num W f;have hs : Mo.keptTo n num W (f + 1) = if W f = false then max (Mo.keptTo n num W f) (Mo.fromTo n f num W n) else Mo.keptTo n num W f := rfl
  rw [hs];clear hF hW hb hb2 hs;generalize Mo.keptTo n num W f = m at *;generalize Mo.fromTo n f num W n = v at *;by_cases hw : W f = true
  ·rw [if_pos hw] at a2
   rw [if_neg (by simp [hw])]
   repeat(first|apply Ya|apply Yb|apply Yc|((first|apply Yd|apply Ye|apply Yf|apply Yg|apply Yh);simp -implicitDefEqProofs(maxSteps:=9^7)(disch:=first|exact Yo rfl|omega|(simp only[go_sem]<;>omega)|fail)only[go_sem, h', Int.ofNat_lt, a2, hpu]<;>try with_reducible rfl)|apply Yi|apply Yj|apply Yk|apply Yl|apply Ym|apply Yn)
   apply Ys
   ·simp -implicitDefEqProofs(maxSteps:=9^7)(disch:=first|exact Yo rfl|omega|(simp only[go_sem]<;>omega)|fail)only[go_sem, norm_eq, Ok.some]; with_reducible rfl
   exact ⟨h', by simp, trivial⟩
  ·rw [if_neg hw] at a2
   rw [if_pos (by simpa using hw)]
   have hmx : max ((m : Nat) : Int) ((v : Nat) : Int) = ((max m v : Nat) : Int) := by omega
   repeat(first|apply Ya|apply Yb|apply Yc|((first|apply Yd|apply Ye|apply Yf|apply Yg|apply Yh);simp -implicitDefEqProofs(maxSteps:=9^7)(disch:=first|exact Yo rfl|omega|(simp only[go_sem]<;>omega)|fail)only[go_sem, h', Int.ofNat_lt, a2, hpu, a1, hmx]<;>try with_reducible rfl)|apply Yi|apply Yj|apply Yk|apply Yl|apply Ym|apply Yn)
   apply Ys
   ·simp -implicitDefEqProofs(maxSteps:=9^7)(disch:=first|exact Yo rfl|omega|(simp only[go_sem]<;>omega)|fail)only[go_sem, norm_eq, Ok.some]; with_reducible rfl
   exact ⟨h', by simp, trivial⟩
 ·obtain rfl : f = n := by omega
  repeat(first|apply Ya|apply Yb|apply Yc|((first|apply Yd|apply Ye|apply Yf|apply Yg|apply Yh);simp -implicitDefEqProofs(maxSteps:=9^7)(disch:=first|exact Yo rfl|omega|(simp only[go_sem]<;>omega)|fail)only[go_sem, h', Int.ofNat_lt]<;>try with_reducible rfl)|apply Yi|apply Yj|apply Yk|apply Yl|apply Ym|apply Yn)
end Go.Abs
set_option linter.all false
namespace Go.Abs
set_option maxRecDepth 10000
set_option maxHeartbeats 4000000
theorem kvGet_setO (x k : Int) (v : AV) : ∀ kv, kvGet x (kvSet k v kv) = if k = x then some v else kvGet x kv
 | [] => by simp [kvSet, kvGet]
 | (j, u) :: r => by
  unfold kvSet;by_cases h : j = k
  ·subst h
   by_cases h2 : j = x
   ·simp [kvGet, h2]
   ·simp [kvGet, h2]
  ·rw [if_neg h]
   simp only [kvGet];rw [kvGet_setO x k v r];by_cases h2 : j = x
   ·have : ¬ k = x := fun e => h (h2.trans e.symm)
    simp [h2, this]
   ·simp [h2]
theorem kvSet_lenO (k : Int) (v : AV) : ∀ kv, kvGet k kv = none → (kvSet k v kv).length = kv.length + 1
 | [], _ => rfl
 | (j, u) :: r, h => by
  unfold kvSet;by_cases e : j = k
  ·subst e; simp [kvGet] at h
  ·rw [if_neg e]
   simp only [kvGet, if_neg e] at h;rw [List.length_cons, kvSet_lenO k v r h, List.length_cons]
theorem numbered_ok (l : List Int) (hk : Int) (h0 : 0 < l.length) (hl : l.length ≤ 60) (hnd : l.Nodup) (hpos : ∀ n ∈ l, 0 ≤ n)
  (hOp : lim F 26 [.agg [iv hk, .list 3 (numV l)]] = some (.tuple [.agg [iv hk, .list 3 (numV l), iv hk], iv 0], [])) :
  lim F 17 [.agg [iv hk, .list 3 (numV l)]] = some (.tuple [.agg [iv hk, .list 3 (numV l), iv hk], iv 0], []) := by
 have hln := num_len l;have hg := fun i (hi : i < l.length) => num_get hi
 have hpu : ∀ v : AV, Eff.pure v = ⟨v, [], []⟩ := fun v => id rfl
 have hmo : (Value.map none).oneCell' = true := rfl;generalize numV l = es at *;generalize hn : l.length = n at *;refine Yr (fn:=a17) (k:=1) (res:=[.cell 2 3 true, .tmp 3]) rfl rfl rfl (by simp -implicitDefEqProofs(maxSteps:=9^7)(disch:=first|exact Yo rfl|omega|(simp only[go_sem]<;>omega)|fail)only[go_sem]) ?_
 try delta mvA
 try delta opA
 try delta tA
 simp -implicitDefEqProofs(maxSteps:=9^7)(disch:=first|exact Yo rfl|omega|(simp only[go_sem]<;>omega)|fail)only[go_sem]
 repeat(first|apply Ya|apply Yb|apply Yc|((first|apply Yd|apply Ye|apply Yf|apply Yg|apply Yh);simp -implicitDefEqProofs(maxSteps:=9^7)(disch:=first|exact Yo rfl|omega|(simp only[go_sem]<;>omega)|fail)only[go_sem, hOp, hmo, hln]<;>try with_reducible rfl)|apply Yi|apply Yj|apply Yk|apply Yl|apply Ym|apply Yn)
 apply Yu n (fun i fr => ∃ kv, fr = ⟨[(1, .ptr 64 0 0), (2, .ptr 128 0 0), (4, .ptr 256 0 0), (6, .mapp 384), (20, .list 3 es), (21, iv (n : Int)), (22, iv (i : Int))], [(64, .box [iv hk, .list 3 es]), (128, .box [iv 0, .slice 302049 0 0, iv 0]), (256, .box [iv hk, .list 3 es, iv hk]), (384, .mp .i64 kv), (302049, .arr 3 [])], [], 10000000⟩ ∧ kv.length = i ∧ ∀ x : Int, kvGet x kv = if x ∈ l.take i then some (.bool true) else none)
 ·simp -implicitDefEqProofs(maxSteps:=9^7)(disch:=first|exact Yo rfl|omega|(simp only[go_sem]<;>omega)|fail)only[go_sem, norm_eq, Ok.some]
  exact ⟨[], rfl, rfl, fun x => by simp [kvGet]⟩
 rintro i fr hi ⟨kv, rfl, hkl, hkv⟩;by_cases h' : i < n
 ·have a1 := hg i h'
  have e0 : l.take (i + 1) = l.take i ++ [numAt l i] := by
   unfold numAt;rw [List.take_succ_eq_append_getElem (by omega), List.getD_eq_getElem?_getD, List.getElem?_eq_getElem (by omega)]; rfl
  have hni : numAt l i ∉ l.take i := fun hm => by
   have h2 : (l.take (i + 1)).Nodup := List.Sublist.nodup (List.take_sublist _ _) hnd;rw [e0, List.nodup_append] at h2;exact h2.2.2 _ hm _ (by simp) rfl
  have k0 := hkv (numAt l i);rw [if_neg hni] at k0;have k1 := kvSet_lenO (numAt l i) (.bool true) kv k0;generalize numAt l i = v at *;have k2 : ∀ x : Int, kvGet x (kvSet v (.bool true) kv) = if x ∈ l.take (i + 1) then some (.bool true) else none := fun x => by
   rw [kvGet_setO, hkv x, e0];by_cases c : v = x
   ·rw [if_pos c, if_pos (by simp [c])]
   ·have c' : ¬ x = v := fun q => c q.symm
    rw [if_neg c];simp [c']
  repeat(first|apply Ya|apply Yb|apply Yc|((first|apply Yd|apply Ye|apply Yf|apply Yg|apply Yh);simp -implicitDefEqProofs(maxSteps:=9^7)(disch:=first|exact Yo rfl|omega|(simp only[go_sem]<;>omega)|fail)only[go_sem, h', Int.ofNat_lt, a1, hln, Int.toNat_natCast]<;>try with_reducible rfl)|apply Yi|apply Yj|apply Yk|apply Yl|apply Ym|apply Yn)
  apply Ys
  ·simp -implicitDefEqProofs(maxSteps:=9^7)(disch:=first|exact Yo rfl|omega|(simp only[go_sem]<;>omega)|fail)only[go_sem, norm_eq, Ok.some]; with_reducible rfl
  refine ⟨h', _, ?_, by rw [k1, hkl], k2⟩
  simp
 ·obtain rfl : i = n := by omega
  have b1 := hkv (-1);rw [if_neg (fun hm => by have := hpos _ (List.mem_of_mem_take hm); omega)] at b1
  repeat(first|apply Ya|apply Yb|apply Yc|((first|apply Yd|apply Ye|apply Yf|apply Yg|apply Yh);simp -implicitDefEqProofs(maxSteps:=9^7)(disch:=first|exact Yo rfl|omega|(simp only[go_sem]<;>omega)|fail)only[go_sem, h', Int.ofNat_lt, hln, b1, hkl, hpu, show ¬ (i : Int) < (i : Int) by omega]<;>try with_reducible rfl)|apply Yi|apply Yj|apply Yk|apply Yl|apply Ym|apply Yn)
end Go.Abs
set_option linter.all false
namespace Go.Abs
set_option maxRecDepth 10000
set_option maxHeartbeats 4000000
theorem kvDel_new (k : Int) (v : AV) : ∀ kv, kvGet k kv = none → kvDel k (kvSet k v kv) = kv
 | [], _ => by simp [kvSet, kvDel]
 | (j, u) :: r, h => by
  by_cases e : j = k
  ·subst e; simp [kvGet] at h
  ·simp only [kvGet, if_neg e] at h
   have := kvDel_new k v r h;unfold kvSet;rw [if_neg e];simp only [kvDel, if_neg e, this]
theorem zip_kv : ∀ kv : List (Int × AV), (kv.map (·.1)).zip (kv.map (·.2)) = kv
 | [] => rfl
 | x :: r => by
  rw [List.map_cons, List.map_cons, List.zip_cons_cons, zip_kv r]
theorem Moved_ok (l : List Int) (hk : Int) (h0 : 0 < l.length) (hl : l.length ≤ 60) (hnd : l.Nodup) (hpos : ∀ n ∈ l, 0 ≤ n)
  (hOp : lim F 26 [.agg [iv hk, .list 3 (numV l)]] = some (.tuple [.agg [iv hk, .list 3 (numV l), iv hk], iv 0], [])) :
  ∃ q, lim F 8 [.agg [iv hk, .list 3 (numV l)]] = some q ∧ ∃ ms, q = (.tuple [.own 1 (natsV ms), iv 0], []) ∧ Mo.MovOk l.length (numAt l) ms := by
 have hln := num_len l;have hNu := numbered_ok l hk h0 hl hnd hpos hOp;have hK : ∀ (kv : List (Int × AV)) (ms : List Nat), (∀ i : Nat, kvGet (i : Int) kv = if Mo.inL ms i = true then some (.bool true) else none) → lim F 18 [.agg [iv hk, .list 3 (numV l), iv hk], .mapI .i64 (kv.map (·.1)) (kv.map (·.2))] = some (iv ((Mo.keptTo l.length (numAt l) (Mo.inL ms) l.length : Nat) : Int), []) := fun kv ms hkv =>
  kept_ok l hk _ _ (Mo.inL ms) (fun i => by rw [zip_kv]; exact hkv i) h0 hl
 have hb := fun W => keptTo_le l.length (numAt l) W l.length
 generalize numAt l = num at *;generalize numV l = es at *;generalize l.length = n at *;clear hnd hpos hOp;have hz := Mo.MovTo.zero n num;have hK0 := hK [] [] fun i => by simp [kvGet, Mo.inL]
 rw [hz.same] at hK0;simp only [List.map_nil] at hK0;have hM := hb fun _ => false
 have hMn := @Mo.kept_stay n num fun _ => false
 have hmo : (Value.map none).oneCell' = true := rfl;generalize hMM : Mo.keptTo n num (fun _ => false) n = M at *
 refine lim_ex (fn := a8) (k := 1) (res := [.tmp 2, .tmp 3]) rfl rfl rfl (by simp -implicitDefEqProofs(maxSteps:=9^7)(disch:=first|exact Yo rfl|omega|(simp only[go_sem]<;>omega)|fail)only[go_sem]) ?_
 try delta mvA
 try delta opA
 try delta tA
 simp -implicitDefEqProofs(maxSteps:=9^7)(disch:=first|exact Yo rfl|omega|(simp only[go_sem]<;>omega)|fail)only[go_sem]
 repeat(first|apply Ya|apply Yb|apply Yc|((first|apply Yd|apply Ye|apply Yf|apply Yg|apply Yh);simp -implicitDefEqProofs(maxSteps:=9^7)(disch:=first|exact Yo rfl|omega|(simp only[go_sem]<;>omega)|fail)only[go_sem, hNu, hmo, hK0, hln]<;>try with_reducible rfl)|apply Yi|apply Yj|apply Yk|apply Yl|apply Ym|apply Yn)
 apply Yu n (fun i fr => ∃ kv ms, fr = ⟨[(1, .ptr 64 0 0), (2, .slice 128 0 (ms.length)), (4, .ptr 256 0 0), (5, .mapp 320), (6, iv (M : Int)), (22, iv (n : Int)), (23, iv (i : Int))], [(64, .box [iv hk, .list 3 es]), (128, .arr 1 (natsV ms)), (256, .box [iv hk, .list 3 es, iv hk]), (320, .mp .i64 kv)], [], 10000000⟩ ∧ Mo.MovTo n num i ms ∧ ∀ i : Nat, kvGet (i : Int) kv = if Mo.inL ms i = true then some (.bool true) else none)
 ·simp -implicitDefEqProofs(maxSteps:=9^7)(disch:=first|exact Yo rfl|omega|(simp only[go_sem]<;>omega)|fail)only[go_sem, norm_eq, Ok.some]
  exact ⟨[], [], rfl, hz, fun i => by simp [kvGet, Mo.inL]⟩
 rintro i fr hi ⟨kv, ms, rfl, hm, hkv⟩;have n1 : (natsV ms).length = ms.length := by simp
 have t1 : (natsV ms).take ms.length = natsV ms := List.take_of_length_le (by omega)
 have le1 := hm.len hi;by_cases h' : i < n
 ·have k0 := hkv i
  rw [hm.not_in, if_neg (by simp)] at k0
  have k1 := kvDel_new (i : Int) (.bool true) kv k0;have k2 : ∀ j : Nat, kvGet (j : Int) (kvSet (i : Int) (.bool true) kv) = if Mo.inL (ms ++ [i]) j = true then some (.bool true) else none := fun j => by
   rw [kvGet_setO, hkv j, Mo.inL_snoc];unfold Mo.more;by_cases c : (i : Int) = (j : Int)
   ·rw [if_pos c, if_pos (show j = i by omega)]; simp
   ·rw [if_neg c, if_neg (show ¬ j = i by omega)]
  have k3 := hK _ _ k2;have b1 := hb (Mo.inL (ms ++ [i]));by_cases c : Mo.keptTo n num (Mo.inL (ms ++ [i])) n < M
  ·have m2 := hm.leave (by rw [hMM]; exact c)
   generalize Mo.keptTo n num (Mo.inL (ms ++ [i])) n = v at *;repeat(first|apply Ya|apply Yb|apply Yc|((first|apply Yd|apply Ye|apply Yf|apply Yg|apply Yh);simp -implicitDefEqProofs(maxSteps:=9^7)(disch:=first|exact Yo rfl|omega|(simp only[go_sem]<;>omega)|fail)only[go_sem, h', Int.ofNat_lt, k3, c, k1]<;>try with_reducible rfl)|apply Yi|apply Yj|apply Yk|apply Yl|apply Ym|apply Yn)
   apply Ys
   ·simp -implicitDefEqProofs(maxSteps:=9^7)(disch:=first|exact Yo rfl|omega|(simp only[go_sem]<;>omega)|fail)only[go_sem, norm_eq, Ok.some]; with_reducible rfl
   refine ⟨h', kv, ms, ?_, m2, hkv⟩;simp
  ·have m2 := hm.take (by rw [hMM]; exact c)
   have s2 : natsV (ms ++ [i]) = natsV ms ++ [iv (i : Int)] := by unfold natsV; rw [List.map_append]; rfl
   generalize Mo.keptTo n num (Mo.inL (ms ++ [i])) n = v at *;have b2 : M ≤ n := by have := hMn; have := (Mo.stay_count (n := n) (l := ms) hm.asc fun i hi => by have := hm.lt i hi; omega); have h9 := List.length_filter_le (fun i => !(fun _ : Nat => false) i) (List.range n); rw [List.length_range] at h9; unfold Mo.stay at hMn; omega
   by_cases c2 : ms.length + 1 + M = n
   ·have m3 := m2.full h' (by rw [hMM, List.length_append]; simpa using c2)
    have c3 : ((ms.length + 1 : Nat) : Int) + (M : Int) = (n : Int) := by omega
    have p3 := nat_plain (ms ++ [i]);have q3 : (natsV ms ++ [iv (i : Int)]).length = ms.length + 1 := by simp
    have q4 : (natsV ms ++ [iv (i : Int)]).take (ms.length + 1) = natsV ms ++ [iv (i : Int)] := List.take_of_length_le (by simp)
    rw [← natsV, s2] at p3;repeat(first|apply Ya|apply Yb|apply Yc|((first|apply Yd|apply Ye|apply Yf|apply Yg|apply Yh);simp -implicitDefEqProofs(maxSteps:=9^7)(disch:=first|exact Yo rfl|omega|(simp only[go_sem]<;>omega)|fail)only[go_sem, h', Int.ofNat_lt, k3, c, n1, t1, hln, c3]<;>try with_reducible rfl)|apply Yi|apply Yj|apply Yk|apply Yl|apply Ym|apply Yn)
    refine finp_ret (r := (.tuple [.own 1 (natsV (ms ++ [i])), iv 0], [])) ?_ ⟨_, rfl, m3⟩;rw [s2];generalize natsV ms = RV at *;simp -implicitDefEqProofs(maxSteps:=9^7)(disch:=first|exact Yo rfl|omega|(simp only[go_sem]<;>omega)|fail)only[go_sem, q3, q4, p3]
   ·have c3 : ¬ ((ms.length + 1 : Nat) : Int) + (M : Int) = (n : Int) := by omega
    repeat(first|apply Ya|apply Yb|apply Yc|((first|apply Yd|apply Ye|apply Yf|apply Yg|apply Yh);simp -implicitDefEqProofs(maxSteps:=9^7)(disch:=first|exact Yo rfl|omega|(simp only[go_sem]<;>omega)|fail)only[go_sem, h', Int.ofNat_lt, k3, c, n1, t1, hln, c3]<;>try with_reducible rfl)|apply Yi|apply Yj|apply Yk|apply Yl|apply Ym|apply Yn)
    apply Ys
    ·simp -implicitDefEqProofs(maxSteps:=9^7)(disch:=first|exact Yo rfl|omega|(simp only[go_sem]<;>omega)|fail)only[go_sem, norm_eq, Ok.some]; with_reducible rfl
    refine ⟨h', _, ms ++ [i], ?_, m2, k2⟩;rw [s2];simp
 ·obtain rfl : i = n := by omega
  repeat(first|apply Ya|apply Yb|apply Yc|((first|apply Yd|apply Ye|apply Yf|apply Yg|apply Yh);simp -implicitDefEqProofs(maxSteps:=9^7)(disch:=first|exact Yo rfl|omega|(simp only[go_sem]<;>omega)|fail)only[go_sem, h', Int.ofNat_lt, n1]<;>try with_reducible rfl)|apply Yi|apply Yj|apply Yk|apply Yl|apply Ym|apply Yn)
  refine finp_ret (r := (.tuple [.own 1 (natsV ms), iv 0], [])) ?_ ⟨ms, rfl, hm.end h0⟩;have p3 := nat_plain ms;generalize natsV ms = RV at *;simp -implicitDefEqProofs(maxSteps:=9^7)(disch:=first|exact Yo rfl|omega|(simp only[go_sem]<;>omega)|fail)only[go_sem, n1, t1, p3]
end Go.Abs
