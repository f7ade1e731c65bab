/-
 Chapter 2: chains and their errors. No condition beyond those that each theorem names.
-/
import Derived.Test.YtgpbjihpkoiaiaaP1
set_option linter.all false
namespace Go.Abs
set_option maxRecDepth 10000
set_option maxHeartbeats 2000000
structure CardN where
 num : Nat
 row : Nat
 turned : Bool
def CardN.av (c : CardN) : AV := .agg [iv (c.num : Int),iv (c.row : Int),.bool c.turned]
structure BeltN where
 hk : Nat
 cards : List CardN
def BeltN.av (b : BeltN) : AV := .agg [iv (b.hk : Int),.list 3 (b.cards.map CardN.av)]
structure BeltN.Ok (b : BeltN) : Prop where
 h1 : 1 ≤ b.hk
 h24 : b.hk ≤ 24
 c1 : 1 ≤ b.cards.length
 c60 : b.cards.length ≤ 60
 lt : ∀ c ∈ b.cards,c.num ≤ 59 ∧ c.row < 2 ^ b.hk
end Go.Abs
