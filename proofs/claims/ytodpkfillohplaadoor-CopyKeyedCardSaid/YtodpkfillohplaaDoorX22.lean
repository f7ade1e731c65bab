/-
 Several texts: X21, X22.
-/
import Derived.Test.YtodpkfillohplaaDoorX20
set_option linter.all false
namespace Go.Abs
set_option maxRecDepth 10000
set_option maxHeartbeats 4000000
def upTo (f : Nat → Nat) (i : Nat) : List Nat := (List.range i).map f
theorem upTo_succ (f : Nat → Nat) (i : Nat) : natsV (upTo f (i + 1)) = natsV (upTo f i) ++ [iv (f i : Int)] := by
 unfold upTo natsV;rw [List.range_succ]; simp
theorem upTo_len (f : Nat → Nat) (i : Nat) : (natsV (upTo f i)).length = i := by simp [upTo, natsV]
def setRow (hk b i : Nat) : Nat := b >>> (i * hk) % 2 ^ hk
def setD (hk n b : Nat) : DesN := ⟨hk, upTo (setRow hk b) n⟩
theorem setRow_lt (hk b i : Nat) : setRow hk b i < 2 ^ hk := Nat.mod_lt _ (Nat.pow_pos (by omega))
theorem setD_ok {hk n b : Nat} (h1 : 1 ≤ hk) (h2 : hk ≤ 24) (n1 : 1 ≤ n) (n2 : n ≤ 60) : (setD hk n b).Ok := by
 refine ⟨h1, h2, by simp [setD, upTo]; exact n1, by simp [setD, upTo]; exact n2, fun x hx => ?_⟩
 obtain ⟨q, hq, rfl⟩ := List.mem_map.1 hx;exact setRow_lt _ _ _
def addS (many : Nat) (r s : List Nat) (i : Nat) : Nat := if 0 < many then r.getD i 0 &&& s.getD i 0 else r.getD i 0
def addC (many : Nat) (r s : List Nat) (i : Nat) : Nat := if 0 < many then r.getD i 0 ||| s.getD i 0 else r.getD i 0
end Go.Abs
set_option linter.all false
namespace Go.Abs
set_option maxRecDepth 10000
set_option maxHeartbeats 4000000
def okTo (t : Bool) (hk n : Nat) (l : List DesN) (most : Int) (b k : Nat) : Bool := (l.take k).all fun d => madeB t hk n (setD hk n b) d && decide (((madeN t hk n (setD hk n b) d : Nat) : Int) ≤ most)
def goodL (p : Nat → Bool) (b : Nat) : List Nat := (List.range b).filter p
def hkG (hk : Nat) (G : List Nat) : Nat := if G = [] then 0 else hk
def nG (n : Nat) (G : List Nat) : Nat := if G = [] then 0 else n
def sureG (hk n : Nat) (G : List Nat) : List Nat := if G = [] then [] else upTo (fun i => andA (G.map fun x => setRow hk x i)) n
def canG (hk n : Nat) (G : List Nat) : List Nat := if G = [] then [] else upTo (fun i => orAll (G.map fun x => setRow hk x i)) n
theorem upTo_at (f : Nat → Nat) {n i : Nat} (h : i < n) : (upTo f n).getD i 0 = f i := by simp [upTo, h]
def ansV (hk n : Nat) (G : List Nat) : AV := .agg [iv ((hkG hk G : Nat) : Int), .own 1 (natsV (sureG hk n G)), iv ((hkG hk G : Nat) : Int), .own 1 (natsV (canG hk n G)), iv (G.length : Int)]
theorem SetsOk.set {l : List DesN} {hk n : Nat} (h : SetsOk l hk n) {d : DesN} (hd : d ∈ l) (b : Nat) : SetsOk [setD hk n b, d] hk n := by
 obtain ⟨⟨k1, k2⟩, k3, k4⟩ := h.k1;refine ⟨by simp, by simp, fun x hx => ?_, fun x hx => ?_, fun x hx => ?_⟩
 ·simp only [List.mem_cons, List.not_mem_nil, or_false] at hx
  rcases hx with rfl | rfl
  ·exact setD_ok k1 k2 k3 k4
  ·exact h.ok _ hd
 ·simp only [List.mem_cons, List.not_mem_nil, or_false] at hx
  rcases hx with rfl | rfl
  ·rfl
  ·exact h.hk _ hd
 ·simp only [List.mem_cons, List.not_mem_nil, or_false] at hx
  rcases hx with rfl | rfl
  ·simp [setD, upTo]
  ·exact h.rows _ hd
end Go.Abs
