/-
 Chapter 12: sets turned. No condition beyond those that each theorem names.
-/
import Derived.Test.YtodpkfillohplaaDoorW4
set_option linter.all false
namespace Go.Abs
set_option maxRecDepth 10000
set_option maxHeartbeats 8000000
def tvN (d : DesN) : AV := .agg [iv (d.hk : Int), .own 1 (natsV d.rows)]
def turnD (d : DesN) (k : Nat) : AV := .agg [iv (d.hk : Int), .own 1 (turnTo true d.hk d.rows k)]
def turnA (d : DesN) : DesN := ⟨d.hk, turnL true d.hk d.rows⟩
def turnE (l : List DesN) (i k : Nat) : List AV := (l.take i).map (fun d => tvN (turnA d)) ++ ((l[i]?.map fun d => turnD d k).toList ++ (l.drop (i + 1)).map tvN)
theorem ownN_ok (l : List DesN) (hl : l.length ≤ 1000) (hr : ∀ d ∈ l, d.rows.length ≤ 1000) : lim F 15 [.list 2 (l.map setV)] = some (.ownT 2 (l.map tvN), []) := by
 have := own_ok (l.map DesN.a) (by simpa using hl) (fun d hd => by
  obtain ⟨e, he, rfl⟩ := List.mem_map.1 hd;simpa [DesN.a] using hr e he)
 rw [List.map_map, List.map_map] at this;have e1 : (DesA.av ∘ DesN.a) = setV := funext fun d => setV_av d
 have e2 : (DesA.tv ∘ DesN.a) = tvN := funext fun d => by
  simp [DesN.a, DesA.tv, tvN, natsV, List.map_map, Function.comp_def]
 rw [e1, e2] at this;exact this
end Go.Abs
