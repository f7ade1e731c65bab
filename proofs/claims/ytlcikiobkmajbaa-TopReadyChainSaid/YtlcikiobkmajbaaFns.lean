/-
  The functions of this seat are what the compile step gives: proved by the kernel.
-/
import Derived.Test.YtlcikiobkmajbaaProg
import Derived.Test.YtlcikiobkmajbaaComp
import Derived.Test.YtlcikiobkmajbaaFnsA
import Derived.Test.YtlcikiobkmajbaaFnsB
import Derived.KernelRfl
set_option linter.all false
set_option maxRecDepth 100000
set_option maxHeartbeats 0
namespace Go.Abs
open Go.Proofs
def bor : Nat → List Nat
  | 40 => [2]
  | 156 => [1]
  | 175 => [3000]
  | _ => []

def h5 : Hints:=⟨[(0,[0,1,2]),(1,[0,1,7,8]),(2,[1,7,8,9,10]),(3,[1,7,8,9,41]),(4,[6]),(5,[1,7,8,9,11]),(6,[1,7,8,9,11,12]),(7,[1,7,8,9,11,12,47]),(8,[1,7,8,9,11,12]),(9,[1,7,8,9,11,12,13]),(10,[1,7,8,9,11,12,13,54]),(11,[1,7,8,9,11,12,13]),(12,[1,7,8,9,11,12,14,15]),(13,[1,7,8,9,11,12,14,75]),(14,[6]),(15,[1,7,8,9,11,12]),(16,[7,8,11,16,17]),(17,[7,11,16,17,18,19]),(18,[11,16,17,18,19,20,21]),(19,[11,20,126]),(20,[6]),(21,[11,20,22]),(22,[11,20,22,130]),(23,[11,20,22]),(24,[11,20,22,158]),(25,[6]),(26,[6])],[(0,[1,7,8,9,11,12]),(2,[11,20,22])],[(24,[[],[],[0,1],[0,1,2],[0,1,2,3],[],List.range 6,List.range 7,List.range 8,List.range 8,[0,1,2,3,4,5,6,7,9],List.range 11,List.range 12,List.range 13,List.range 14,List.range 14,List.range 16,List.range 17,List.range 18,List.range 14,List.range 14,[0,1,2,3,4,5,6,7,8,9,10,11,12,13,19,20],[0,1,2,3,4,5,6,7,8,9,10,11,12,13,19,20,21],[0,1,2,3,4,5,6,7,8,9,10,11,12,13,19,20,21,22],List.range 24,List.range 25])],[]⟩
def h7 : Hints:=⟨[(0,[0,1,2,6]),(1,[0,2,6,8,9,10]),(2,[0,2,6,8,9,10,11]),(3,[0,2,6,8,9,10,11,23]),(4,[0,2,6,8,9,10,11]),(5,[0,2,6,8,9,10,11]),(6,[2,6,8,9,10,12]),(7,[2,6,8,9,10,12,38]),(8,[2,6,8,9,10,12]),(9,[2,6,8,9,10,12,13]),(10,[2,6,8,9,10,12,13]),(11,[2,6,8,9,10,12,13]),(12,[2,6,8,9,10,12]),(13,[6,7])],[(0,[0,2,6,8,9,10,11]),(2,[2,6,8,9,10,12])],[(9,[[],[],[0,1],[0,1,2],[0,1,2,3],List.range 5,List.range 6,List.range 7,[],[],[8,9],[8,9,10],[8,9,10,11],[8,9,10,11,12],[8,9,10,11,12,13],[],[],[15,16],[15,16,17],[15,16,17,18],[15,16,17,18,19],[15,16,17,18,19,20],[15,16,17,18,19,20,21],List.range 23,[],List.range 25])],[]⟩
def h11 : Hints:=⟨[(0,[1,2,4]),(1,[1,4,5,6]),(2,[1,4,5,6,16]),(3,[4,5]),(4,[1,4,6,7]),(5,[1,4,6,7,28]),(6,[4,5]),(7,[4,6,7,30,31]),(8,[4,6,7,30,31,32]),(9,[4,6,7,8,30,31]),(10,[4,6,7,8,30,31,38]),(11,[4,5]),(12,[4,6,7,30,31]),(13,[4,6,7,30,31]),(14,[4,5])],[(0,[4,6,7,30,31])],[(5,[[],[],[1],[],[0,1,2,3],[],List.range 6,List.range 7,List.range 8,List.range 9])],[]⟩
def h12 : Hints:=⟨[(0,[1,2]),(1,[1,2]),(2,[2])],[],[],[]⟩
def h13 : Hints:=⟨[(0,[0]),(1,[2])],[],[],[]⟩
def h18 : Hints:=⟨[(0,[]),(1,[1]),(2,[1,2]),(3,[1,2,3,4]),(4,[1,2,3,4]),(5,[3,4,5,6]),(6,[0])],[],[],[]⟩
def h22 : Hints:=⟨[(0,[1,2]),(1,[1,6,7]),(2,[1,6,7,18]),(3,[4,5]),(4,[1,6,8]),(5,[9]),(6,[4,5])],[],[(4,[[],[],[1],[0,1,2],[],List.range 5])],[]⟩
def h24 : Hints:=⟨[(0,[1,2]),(1,[1,2,4]),(2,[1,2,4,9]),(3,[2,3]),(4,[1,2,4,14]),(5,[2,3]),(6,[1,2,4,20]),(7,[2,3]),(8,[1,2,26]),(9,[2,3]),(10,[1,2]),(11,[2,37,38,39]),(12,[2,37,38,39,40]),(13,[2,5,6,37,38,39]),(14,[2,37,38,39]),(15,[2,37,38,39]),(16,[2,3])],[(1,[2,37,38,39])],[],[]⟩
def h25 : Hints:=⟨[(0,[0,1,4]),(1,[1,4,5]),(2,[1,4,5,6]),(3,[1,4,5,6,24]),(4,[1,4,5,6]),(5,[1,4,5,6,7]),(6,[1,4,5,6,7,30]),(7,[1,4,5,6,7]),(8,[1,4,5,6]),(9,[4])],[(0,[1,4,5,6])],[(7,[[],[],[0,1],[0,1,2],[0,1,2,3],[],[5],[5,6],[5,6,7],List.range 9,List.range 10])],[]⟩
def h26 : Hints:=⟨[(0,[1,2]),(1,[1,2,3,4]),(2,[1,2,3,4,14]),(3,[2,3]),(4,[1,2,4,5]),(5,[1,2,4,5,6]),(6,[1,2,4,5,6,22,23]),(7,[1,2,4,5,6,22,23,24]),(8,[1,2,4,5,6,7,22,23]),(9,[1,2,4,5,6,7,22,23]),(10,[1,2,4,5,6,7,22,23,32]),(11,[1,2,4,5,6,22,23]),(12,[1,2,4,5,6,22,23]),(13,[1,2,4,5,6,22,23,46]),(14,[1,2,4,5,6,22,23]),(15,[2,3])],[(0,[1,2,4,5,6,22,23])],[],[]⟩
def h27 : Hints:=⟨[(0,[1,2,4]),(1,[1,2,4]),(2,[1,2,4,5]),(3,[1,2,4,5,15]),(4,[1,2,4,5]),(5,[1,2,4,5,6]),(6,[1,2,4,5,6,7,8]),(7,[1,2,4,5,6,8]),(8,[1,2,4,5,8,42]),(9,[1,2,4,5]),(10,[1,2,4,5]),(11,[4])],[(0,[1,2,4,5])],[(5,[[],[],[0,1],[],[3],[3,4],List.range 6,List.range 7]),(6,[[],[0],[],[0,1,2],[0,1,2,3],[],[5],[],[5,6,7],[5,6,7,8],[],[],[0,1,2,3,4,10,11],List.range 13]),(10,[[],[0],[],[],[],[4],[3,4,5],[3,4,5,6],[3,4,5,6,7],List.range 9,List.range 10,List.range 11])],[]⟩
def h28 : Hints:=⟨[(0,[]),(1,[1]),(2,[1,2,3,4]),(3,[1,2,3,4,5,6]),(4,[2,3,4,5,6,7,8]),(5,[0])],[],[],[]⟩
def h36 : Hints:=⟨[(0,[1,2,4]),(1,[1,2,4,6]),(2,[1,2,4,6,7]),(3,[1,2,4,6,7]),(4,[4,5]),(5,[1,2,4,6,16]),(6,[1,2,4,6,16]),(7,[1,2,4,6,16]),(8,[1,2,4,16]),(9,[4,5]),(10,[4,5])],[],[],[]⟩
def h37 : Hints:=⟨[(0,[1,2,3]),(1,[1,2,3,7]),(2,[1,2,3,7]),(3,[2,3,7,21,22,23]),(4,[2,3,7,21,22,23,24]),(5,[2,3,7,9,21,22,23]),(6,[2,3,7,10,11,21,22,23]),(7,[2,3,7,10,11,21,22,23,35,36]),(8,[2,3,7,10,11,21,22,23,35,36,37]),(9,[2,3,7,10,11,12,21,22,23,35,36]),(10,[2,3,7,10,11,12,21,22,23,35,36,40]),(11,[2,3,7,10,11,12,13,21,22,23,35,36]),(12,[2,3,7,10,11,12,21,22,23,35,36]),(13,[2,3,7,10,11,21,22,23,35,36]),(14,[2,3,7,21,22,23]),(15,[2,3,7,21,22,23]),(16,[6])],[(0,[2,3,7,21,22,23]),(2,[2,3,7,10,11,21,22,23,35,36]),(4,[2,3,7,10,11,12,21,22,23,35,36])],[(6,[[],[],[],[0,1,2],[],[4],[4,5],[],[],[0,1,2,3,7,8],List.range 10]),(12,[[],[],[],[],[2,3],[2,3,4],[2,3,4,5],[2,3,4,5,6],[2,3,4,5,6],[2,3,4,5,6,7,8],[2,3,4,5,6,7,8,9],[2,3,4,5,6,7,8,9,10],[2,3,4,5,6,7,8,9,10,11],[2,3,4,5,6,7,8,9,10,11],[2,3,4,5,6,7,8,9,10,11],[2,3,4,5,6,7,8,9,10,11,13,14],[2,3,4,5,6,7,8,9,10,11,12,13,14,15],[2,3,4,5,6,7,8,9,10,11,12,13,14,15,16],[2,3,4,5,6,7,8,9,10,11,12,13,14,15,16,17],[2,3,4,5,6,7,8,9,10,11,12,13,14,15,16,17,18],List.range 20,List.range 21])],[]⟩
def h38 : Hints:=⟨[(0,[1]),(1,[2])],[],[],[]⟩
def h39 : Hints:=⟨[(0,[1]),(1,[2])],[],[],[]⟩
def h40 : Hints:=⟨[(0,[1,2,3]),(1,[1,2,3,7]),(2,[1,2,3,7,8]),(3,[1,2,3,7,8,24]),(4,[1,2,3,7,8]),(5,[1,2,3,7,8,28,29,30]),(6,[1,2,3,7,8,28,29,30,31]),(7,[1,2,3,7,8,10,28,29,30]),(8,[1,2,3,7,8,28,29,30]),(9,[1,2,3,7,8,28,29,30,48]),(10,[6]),(11,[1,2,3,7,8,28,29,30]),(12,[6])],[(0,[1,2,3,7,8]),(2,[1,2,3,7,8,28,29,30])],[(9,[[],[],[1],[],[0,1,2,3],[],List.range 6,List.range 7,List.range 8])],[]⟩
def h48 : Hints:=⟨[(0,[1,2]),(1,[1,6,7]),(2,[1,6,7,18]),(3,[4,5]),(4,[1,8]),(5,[9,10]),(6,[9,32]),(7,[4,5]),(8,[4,5])],[],[(4,[[],[],[1],[0,1,2],[],List.range 5])],[]⟩
def h49 : Hints:=⟨[(0,[0,1]),(1,[0,1,10]),(2,[4]),(3,[0,1,5]),(4,[0,1,5,14]),(5,[0,1,5]),(6,[0,1,5,25]),(7,[4]),(8,[4])],[(0,[0,1,5])],[(6,[[],[],[0,1],[0,1,2],[],[],[4,5],[4,5,6],List.range 8])],[]⟩
def h53 : Hints:=⟨[(0,[0,1,4,5]),(1,[1,4,5,9,10]),(2,[1,4,5,9,10,11]),(3,[1,4,5,6,9,10]),(4,[1,4,5,6,7,9,10]),(5,[1,4,5,7,9,10,41]),(6,[1,4,5,9,10]),(7,[1,4,5,9,10]),(8,[4,5])],[(0,[1,4,5,9,10])],[],[]⟩
def h54 : Hints:=⟨[(0,[0,1,2]),(1,[4])],[],[(1,[[],[],[1],[],[1,2,3],List.range 5,List.range 6,List.range 7])],[]⟩
def h56 : Hints:=⟨[(0,[0]),(1,[2])],[],[],[]⟩
def h57 : Hints:=⟨[(0,[0,1]),(1,[4])],[],[],[]⟩
def h58 : Hints:=⟨[(0,[1,2]),(1,[1,2,4,5]),(2,[1,2,4,5,15]),(3,[2,3]),(4,[1,2,4,6]),(5,[1,2,4,6,20,21,22]),(6,[1,2,4,6,20,21,22,23]),(7,[1,2,4,6,8,20,21,22]),(8,[1,2,4,6,20,21,22]),(9,[1,2,4,6,20,21,22]),(10,[1,2,4,6,30]),(11,[2,3]),(12,[2,4,34]),(13,[2,3]),(14,[2,3])],[(0,[1,2,4,6,20,21,22])],[],[]⟩
def h59 : Hints:=⟨[(0,[1,2,4]),(1,[1,2,4,9,10]),(2,[1,2,4,9,10,11]),(3,[1,2,4,5,9,10]),(4,[1,2,4,5,9,10,16]),(5,[1,2,4,9,10]),(6,[1,2,4,9,10]),(7,[4])],[(0,[1,2,4,9,10])],[],[]⟩
def h60 : Hints:=⟨[(0,[1,2]),(1,[1,2]),(2,[2])],[],[],[]⟩
def h61 : Hints:=⟨[(0,[0,1]),(1,[0,1,7]),(2,[4]),(3,[4])],[],[],[]⟩
def h62 : Hints:=⟨[(0,[1,2,3,6]),(1,[1,2,3,6,8,9]),(2,[1,2,3,6,8,9,17]),(3,[6,7,8]),(4,[1,2,6,9,21]),(5,[6,7,8]),(6,[1,2,6,9,30]),(7,[6,7,8]),(8,[1,2,6,9,34]),(9,[6,7,8]),(10,[2,6,7,9]),(11,[6,7,9,39,40,41]),(12,[6,7,9,39,40,41,42]),(13,[6,7,9,11,39,40,41]),(14,[6,7,9,11,39,40,41]),(15,[6,7,9,39,40,41]),(16,[6,7,9,39,40,41]),(17,[6,7,8])],[(1,[6,7,9,39,40,41])],[],[]⟩
def h63 : Hints:=⟨[(0,[1,2,3,6]),(1,[6,7,8]),(2,[6,7,19]),(3,[6,7,19,21]),(4,[6,7,10,19]),(5,[6,7,19]),(6,[6,7])],[(0,[6,7,19])],[],[]⟩
def h75 : Hints:=⟨[(0,[1]),(1,[2])],[],[],[]⟩
def h76 : Hints:=⟨[(0,[1]),(1,[2])],[],[],[]⟩
def h77 : Hints:=⟨[(0,[2,3,4]),(1,[6])],[],[],[]⟩
def h78 : Hints:=⟨[(0,[0,1]),(1,[4])],[],[],[]⟩
def h79 : Hints:=⟨[(0,[1,2,3]),(1,[1,2,3,7]),(2,[1,2,3,7,8]),(3,[1,2,3,6,7,8]),(4,[1,2,3,6,7,8]),(5,[1,2,3,6,7,8,9]),(6,[1,2,3,6,7,8,9,22]),(7,[1,2,3,6,7,8,9]),(8,[1,2,3,6,7,8,9,27,28]),(9,[1,2,3,6,7,8,9,27,28,29]),(10,[1,2,3,6,7,8,9,10,27,28]),(11,[1,2,3,6,7,8,9,10,27,28]),(12,[1,2,3,6,7,8,9,10,27,28,39]),(13,[1,2,3,6,7,8,9,10,11,27,28]),(14,[1,2,3,6,7,8,9,10,11,27,28,47]),(15,[1,2,3,6,7,8,9,27,28]),(16,[1,2,3,6,7,8,9,27,28]),(17,[1,2,3,6,7,8,9,27,28]),(18,[6])],[(0,[1,2,3,6,7,8,9]),(2,[1,2,3,6,7,8,9,27,28])],[(15,[[],[],[],[],[3],[],[3,4,5],[3,4,5,6],[3,4,5,6,7],[2,3,4,5,6,7,8],[0],List.range 11,List.range 12])],[]⟩
def h80 : Hints:=⟨[(0,[1]),(1,[2])],[],[],[]⟩
def h81 : Hints:=⟨[(0,[0,2]),(1,[0,2,3]),(2,[0,2,3,7]),(3,[0,2,3]),(4,[0,2,3,14]),(5,[0,2,3]),(6,[2])],[(0,[0,2,3])],[],[]⟩
def h83 : Hints:=⟨[(0,[0,1]),(1,[3])],[],[],[]⟩
def h87 : Hints:=⟨[(0,[0,1]),(1,[4])],[],[],[]⟩
def h89 : Hints:=⟨[(0,[0,1]),(1,[0,1,9,10,11]),(2,[0,1,9,10,11,12]),(3,[0,1,5,6,9,10,11]),(4,[0,1,5,6,9,10,11,19]),(5,[4]),(6,[0,1,6,7,9,10,11]),(7,[0,1,8,9,10,11]),(8,[0,1,8,9,10,11,28]),(9,[4]),(10,[0,1,9,10,11]),(11,[35]),(12,[4]),(13,[4])],[(0,[0,1,9,10,11])],[],[]⟩
def h94 : Hints:=⟨[(0,[2,3,4]),(1,[6])],[],[],[]⟩
def h95 : Hints:=⟨[(0,[1,2]),(1,[1,2,4]),(2,[1,2,4,9]),(3,[2,3]),(4,[1,2,4,15]),(5,[2,3]),(6,[2,4,21]),(7,[2,3]),(8,[2,3])],[],[],[]⟩
def h96 : Hints:=⟨[(0,[1,3,5,6]),(1,[1,3,5,6,7]),(2,[1,3,5,6,7]),(3,[3,5,6,7,21]),(4,[3,5,6,7,8]),(5,[3,5,6,7,8,23,24,25]),(6,[3,5,6,7,8,23,24,25,26]),(7,[3,5,6,7,8,9,10,23,24,25]),(8,[3,5,6,7,8,10,23,24,25,54]),(9,[3,5,6,7,8,23,24,25]),(10,[3,5,6,7,8,23,24,25]),(11,[3,5,6,7]),(12,[6])],[(0,[3,5,6,7]),(2,[3,5,6,7,8,23,24,25])],[(8,[[],[0],[0,1],[0,1,2],[0,1,2],List.range 5,List.range 6,List.range 7,List.range 8,List.range 9,List.range 10,List.range 11,List.range 9,List.range 13,List.range 14,List.range 15,List.range 9,[0,1,2,3,4,5,6,7,8,16],[0,1,2,3,4,5,6,7,8,16,17],List.range 9,[0,1,2,3,4,5,6,7,8,16,17,18,19],[0,1,2,3,4,5,6,7,8,16,17,18,19,20],[0,1,2,3,4,5,6,7,8,16,17,18,19,20,21],List.range 23,List.range 24]),(9,[[],[],[],[],[2,3],[2,3,4],[],[6],[2,3,4,5,6,7],List.range 9,List.range 10]),(11,[[],[],[],[1,2],[1,2,3],List.range 5,List.range 6])],[]⟩
def h97 : Hints:=⟨[(0,[1,2]),(1,[1,2,5]),(2,[1,2,5,13]),(3,[4]),(4,[4])],[],[],[]⟩
def h98 : Hints:=⟨[(0,[1,2,3]),(1,[6])],[],[],[]⟩
def h99 : Hints:=⟨[(0,[1,2,3]),(1,[2,8,9]),(2,[2,8,9,16]),(3,[6,7]),(4,[2,8,20]),(5,[6,7]),(6,[6,7])],[],[],[]⟩
def h106 : Hints:=⟨[(0,[0,1]),(1,[0,1,5]),(2,[0,1,5,6]),(3,[0,1,6,11]),(4,[12]),(5,[4]),(6,[4]),(7,[0,1,13]),(8,[4]),(9,[0,1,16]),(10,[4]),(11,[19]),(12,[4]),(13,[4])],[],[],[]⟩
def h113 : Hints:=⟨[(0,[0]),(1,[2])],[],[],[]⟩
def h114 : Hints:=⟨[(0,[0,1,2]),(1,[4])],[],[],[]⟩
def h115 : Hints:=⟨[(0,[0,1]),(1,[0,1,7,8]),(2,[0,1,7,8,9]),(3,[0,1,5,7,8]),(4,[0,1,5,7,8,16]),(5,[4]),(6,[0,1,7,8]),(7,[4])],[(0,[0,1,7,8])],[],[]⟩
def h116 : Hints:=⟨[(0,[1,2,3,4,5,6]),(1,[1,3,4,5,6,13]),(2,[1,3,4,5,6,13,22]),(3,[12]),(4,[1,3,4,5,6,13,14]),(5,[1,3,4,5,6,13,14,30,31]),(6,[1,3,4,5,6,13,14,30,31,32]),(7,[1,3,4,5,6,13,14,15,30,31]),(8,[1,3,4,5,6,13,14,15,30,31,48]),(9,[1,3,4,5,6,13,14,15,16,30,31]),(10,[1,3,4,5,6,13,14,16,30,31,68]),(11,[1,3,4,5,6,13,14,16,30,31]),(12,[1,3,4,5,6,13,14,30,31]),(13,[1,3,4,5,6,13,14,30,31]),(14,[12])],[(0,[1,3,4,5,6,13,14,30,31])],[(10,[[],[0],[],[0,1,2],[0,1,2,3],List.range 5,[],[6],[],[6,7,8],[6,7,8,9],[6,7,8,9,10],List.range 12])],[]⟩
def h117 : Hints:=⟨[(0,[0,1,3]),(1,[0,1,3]),(2,[0,1,3,16])],[(0,[0,1,3])],[],[]⟩
def h119 : Hints:=⟨[(0,[0,1]),(1,[0,1,7,8]),(2,[0,1,7,8,9]),(3,[0,1,5,7,8]),(4,[0,1,5,7,8,16]),(5,[4]),(6,[0,1,7,8]),(7,[4])],[(0,[0,1,7,8])],[],[]⟩
def h127 : Hints:=⟨[(0,[0,1,2]),(1,[4])],[],[],[]⟩
def h128 : Hints:=⟨[(0,[1,2]),(1,[1,5]),(2,[4])],[],[],[]⟩
def h129 : Hints:=⟨[(0,[2,3]),(1,[4])],[],[],[]⟩
def h130 : Hints:=⟨[(0,[0,1]),(1,[4])],[],[],[]⟩
def h131 : Hints:=⟨[(0,[1,2,4]),(1,[1,4,5,6]),(2,[1,4,5,6]),(3,[1,4,5,7]),(4,[1,4,5,7,17]),(5,[4,5]),(6,[1,4,7,22]),(7,[4,5]),(8,[4,27]),(9,[4,5]),(10,[4,5])],[],[],[]⟩
def h132 : Hints:=⟨[(0,[1,2]),(1,[1,2,5]),(2,[1,2,5,16,17]),(3,[1,2,5,16,17,18]),(4,[1,2,5,6,16,17]),(5,[1,2,5,16,17]),(6,[1,2,5,16,17]),(7,[1,2,5,26,27]),(8,[1,2,5,26,27,28]),(9,[1,2,5,7,26,27]),(10,[1,2,5,7,8,26,27]),(11,[1,2,7,8,26,27,32]),(12,[1,2,7,8,26,27,32,34]),(13,[1,2,7,8,9,10,26,27,32]),(14,[1,2,7,8,9,10,26,27,32,42]),(15,[1,2,7,8,26,27,32]),(16,[1,2,5,26,27]),(17,[1,2,5,26,27]),(18,[4])],[(0,[1,2,5,16,17]),(2,[1,2,5,26,27]),(4,[1,2,7,8,26,27,32])],[],[]⟩
def h140 : Hints:=⟨[(0,[0]),(1,[2])],[],[],[]⟩
def h145 : Hints:=⟨[(0,[1,2,3,4,5]),(1,[1,2,3,4,5,11]),(2,[1,2,4,5,11,12]),(3,[2,5,11,12,13,14]),(4,[2,5,11,12,13,30]),(5,[2,5,11,13,40]),(6,[10]),(7,[2,5,11,12]),(8,[12,60]),(9,[10]),(10,[10])],[],[(8,[[],[0],[],[2],[2,3],[],[2,3,4,5],[2,3,4,5,6],List.range 8,List.range 9,List.range 10,List.range 10,[0,1,2,3,4,5,6,7,8,9,11],List.range 13,List.range 10,[0,1,2,3,4,5,6,7,8,9,14],List.range 16,List.range 17])],[]⟩
def h150 : Hints:=⟨[(0,[1,2]),(1,[3])],[],[],[]⟩
def h151 : Hints:=⟨[(0,[0,1]),(1,[4])],[],[],[]⟩
def h152 : Hints:=⟨[(0,[0,1,2,8,9]),(1,[0,1,2,8,9,10]),(2,[0,1,2,4,8,9]),(3,[0,1,2,8,9,18]),(4,[0,1,2,8,9])],[(0,[0,1,2,8,9])],[],[]⟩
def h153 : Hints:=⟨[(0,[0]),(1,[0]),(2,[0]),(3,[0]),(4,[2])],[],[],[]⟩
def h154 : Hints:=⟨[(0,[0,1]),(1,[3])],[],[],[]⟩
def h155 : Hints:=⟨[(0,[1,2,3]),(1,[6])],[],[(1,[[],[0],[],[0,1,2],[0,1,2,3],List.range 5,List.range 6,List.range 7,List.range 8,List.range 7,List.range 10,List.range 11,List.range 7,[0,1,2,3,4,5,6,12],List.range 7,[0,1,2,3,4,5,6,12,13,14],List.range 16,List.range 17,List.range 18])],[]⟩
def h156 : Hints:=⟨[(0,[1,3,4,5,7]),(1,[1,3,4,5,7,12]),(2,[1,3,4,5,7,12,13]),(3,[1,3,4,5,7,10,12]),(4,[1,3,4,5,7,11,12]),(5,[1,3,4,5,7,11,12,30]),(6,[1,3,4,5,7,12]),(7,[1,3,4,5,7,12])],[(0,[1,3,4,5,7,12])],[(4,[[],[0],[],[2],[],List.range 5,[],[6],[],[0,1,2,3,4,5,8],List.range 10,List.range 11,[],List.range 13]),(6,[[],[],[0,1],[],[0,1,2,3],[0,1,3],[0,1,3,5],List.range 7])],[]⟩
def h167 : Hints:=⟨[(0,[0,1]),(1,[0,1,7,8]),(2,[0,1,7,8,9]),(3,[0,1,5,7,8]),(4,[0,1,5,7,8,16]),(5,[4]),(6,[0,1,7,8]),(7,[4])],[(0,[0,1,7,8])],[],[]⟩
def h168 : Hints:=⟨[(0,[0]),(1,[0]),(2,[0]),(3,[2])],[],[],[]⟩
def h169 : Hints:=⟨[(0,[0]),(1,[4]),(2,[2]),(3,[2])],[],[],[]⟩
def F : Nat → Option AFn
  | 5 => some a5
  | 7 => some a7
  | 11 => some a11
  | 12 => some a12
  | 13 => some a13
  | 18 => some a18
  | 22 => some a22
  | 24 => some a24
  | 25 => some a25
  | 26 => some a26
  | 27 => some a27
  | 28 => some a28
  | 36 => some a36
  | 37 => some a37
  | 38 => some a38
  | 39 => some a39
  | 40 => some a40
  | 48 => some a48
  | 49 => some a49
  | 53 => some a53
  | 54 => some a54
  | 56 => some a56
  | 57 => some a57
  | 58 => some a58
  | 59 => some a59
  | 60 => some a60
  | 61 => some a61
  | 62 => some a62
  | 63 => some a63
  | 75 => some a75
  | 76 => some a76
  | 77 => some a77
  | 78 => some a78
  | 79 => some a79
  | 80 => some a80
  | 81 => some a81
  | 83 => some a83
  | 87 => some a87
  | 89 => some a89
  | 94 => some a94
  | 95 => some a95
  | 96 => some a96
  | 97 => some a97
  | 98 => some a98
  | 99 => some a99
  | 106 => some a106
  | 113 => some a113
  | 114 => some a114
  | 115 => some a115
  | 116 => some a116
  | 117 => some a117
  | 119 => some a119
  | 127 => some a127
  | 128 => some a128
  | 129 => some a129
  | 130 => some a130
  | 131 => some a131
  | 132 => some a132
  | 140 => some a140
  | 145 => some a145
  | 150 => some a150
  | 151 => some a151
  | 152 => some a152
  | 153 => some a153
  | 154 => some a154
  | 155 => some a155
  | 156 => some a156
  | 167 => some a167
  | 168 => some a168
  | 169 => some a169
  | _ => none
theorem c5 : compFn Try.prog bor h5 Try.f5 = some a5:=by kernel_rfl
theorem c7 : compFn Try.prog bor h7 Try.f7 = some a7:=by kernel_rfl
theorem c11 : compFn Try.prog bor h11 Try.f11 = some a11:=by kernel_rfl
theorem c12 : compFn Try.prog bor h12 Try.f12 = some a12:=by kernel_rfl
theorem c13 : compFn Try.prog bor h13 Try.f13 = some a13:=by kernel_rfl
theorem c18 : compFn Try.prog bor h18 Try.f18 = some a18:=by kernel_rfl
theorem c22 : compFn Try.prog bor h22 Try.f22 = some a22:=by kernel_rfl
theorem c24 : compFn Try.prog bor h24 Try.f24 = some a24:=by kernel_rfl
theorem c25 : compFn Try.prog bor h25 Try.f25 = some a25:=by kernel_rfl
theorem c26 : compFn Try.prog bor h26 Try.f26 = some a26:=by kernel_rfl
theorem c27 : compFn Try.prog bor h27 Try.f27 = some a27:=by kernel_rfl
theorem c28 : compFn Try.prog bor h28 Try.f28 = some a28:=by kernel_rfl
theorem c36 : compFn Try.prog bor h36 Try.f36 = some a36:=by kernel_rfl
theorem c37 : compFn Try.prog bor h37 Try.f37 = some a37:=by kernel_rfl
theorem c38 : compFn Try.prog bor h38 Try.f38 = some a38:=by kernel_rfl
theorem c39 : compFn Try.prog bor h39 Try.f39 = some a39:=by kernel_rfl
theorem c40 : compFn Try.prog bor h40 Try.f40 = some a40:=by kernel_rfl
theorem c48 : compFn Try.prog bor h48 Try.f48 = some a48:=by kernel_rfl
theorem c49 : compFn Try.prog bor h49 Try.f49 = some a49:=by kernel_rfl
theorem c53 : compFn Try.prog bor h53 Try.f53 = some a53:=by kernel_rfl
theorem c54 : compFn Try.prog bor h54 Try.f54 = some a54:=by kernel_rfl
theorem c56 : compFn Try.prog bor h56 Try.f56 = some a56:=by kernel_rfl
theorem c57 : compFn Try.prog bor h57 Try.f57 = some a57:=by kernel_rfl
theorem c58 : compFn Try.prog bor h58 Try.f58 = some a58:=by kernel_rfl
theorem c59 : compFn Try.prog bor h59 Try.f59 = some a59:=by kernel_rfl
theorem c60 : compFn Try.prog bor h60 Try.f60 = some a60:=by kernel_rfl
theorem c61 : compFn Try.prog bor h61 Try.f61 = some a61:=by kernel_rfl
theorem c62 : compFn Try.prog bor h62 Try.f62 = some a62:=by kernel_rfl
theorem c63 : compFn Try.prog bor h63 Try.f63 = some a63:=by kernel_rfl
theorem c75 : compFn Try.prog bor h75 Try.f75 = some a75:=by kernel_rfl
theorem c76 : compFn Try.prog bor h76 Try.f76 = some a76:=by kernel_rfl
theorem c77 : compFn Try.prog bor h77 Try.f77 = some a77:=by kernel_rfl
theorem c78 : compFn Try.prog bor h78 Try.f78 = some a78:=by kernel_rfl
theorem c79 : compFn Try.prog bor h79 Try.f79 = some a79:=by kernel_rfl
theorem c80 : compFn Try.prog bor h80 Try.f80 = some a80:=by kernel_rfl
theorem c81 : compFn Try.prog bor h81 Try.f81 = some a81:=by kernel_rfl
theorem c83 : compFn Try.prog bor h83 Try.f83 = some a83:=by kernel_rfl
theorem c87 : compFn Try.prog bor h87 Try.f87 = some a87:=by kernel_rfl
theorem c89 : compFn Try.prog bor h89 Try.f89 = some a89:=by kernel_rfl
theorem c94 : compFn Try.prog bor h94 Try.f94 = some a94:=by kernel_rfl
theorem c95 : compFn Try.prog bor h95 Try.f95 = some a95:=by kernel_rfl
theorem c96 : compFn Try.prog bor h96 Try.f96 = some a96:=by kernel_rfl
theorem c97 : compFn Try.prog bor h97 Try.f97 = some a97:=by kernel_rfl
theorem c98 : compFn Try.prog bor h98 Try.f98 = some a98:=by kernel_rfl
theorem c99 : compFn Try.prog bor h99 Try.f99 = some a99:=by kernel_rfl
theorem c106 : compFn Try.prog bor h106 Try.f106 = some a106:=by kernel_rfl
theorem c113 : compFn Try.prog bor h113 Try.f113 = some a113:=by kernel_rfl
theorem c114 : compFn Try.prog bor h114 Try.f114 = some a114:=by kernel_rfl
theorem c115 : compFn Try.prog bor h115 Try.f115 = some a115:=by kernel_rfl
theorem c116 : compFn Try.prog bor h116 Try.f116 = some a116:=by kernel_rfl
theorem c117 : compFn Try.prog bor h117 Try.f117 = some a117:=by kernel_rfl
theorem c119 : compFn Try.prog bor h119 Try.f119 = some a119:=by kernel_rfl
theorem c127 : compFn Try.prog bor h127 Try.f127 = some a127:=by kernel_rfl
theorem c128 : compFn Try.prog bor h128 Try.f128 = some a128:=by kernel_rfl
theorem c129 : compFn Try.prog bor h129 Try.f129 = some a129:=by kernel_rfl
theorem c130 : compFn Try.prog bor h130 Try.f130 = some a130:=by kernel_rfl
theorem c131 : compFn Try.prog bor h131 Try.f131 = some a131:=by kernel_rfl
theorem c132 : compFn Try.prog bor h132 Try.f132 = some a132:=by kernel_rfl
theorem c140 : compFn Try.prog bor h140 Try.f140 = some a140:=by kernel_rfl
theorem c145 : compFn Try.prog bor h145 Try.f145 = some a145:=by kernel_rfl
theorem c150 : compFn Try.prog bor h150 Try.f150 = some a150:=by kernel_rfl
theorem c151 : compFn Try.prog bor h151 Try.f151 = some a151:=by kernel_rfl
theorem c152 : compFn Try.prog bor h152 Try.f152 = some a152:=by kernel_rfl
theorem c153 : compFn Try.prog bor h153 Try.f153 = some a153:=by kernel_rfl
theorem c154 : compFn Try.prog bor h154 Try.f154 = some a154:=by kernel_rfl
theorem c155 : compFn Try.prog bor h155 Try.f155 = some a155:=by kernel_rfl
theorem c156 : compFn Try.prog bor h156 Try.f156 = some a156:=by kernel_rfl
theorem c167 : compFn Try.prog bor h167 Try.f167 = some a167:=by kernel_rfl
theorem c168 : compFn Try.prog bor h168 Try.f168 = some a168:=by kernel_rfl
theorem c169 : compFn Try.prog bor h169 Try.f169 = some a169:=by kernel_rfl
theorem F_ok (f : Nat) (afn : AFn) (h : F f = some afn) : ∃ fn hh,Try.prog.funcs[f]? = some fn∧compFn Try.prog bor hh fn = some afn:=by
  unfold F at h
  split at h
  · cases h; exact ⟨_,_,Try.func5,c5⟩
  · cases h; exact ⟨_,_,Try.func7,c7⟩
  · cases h; exact ⟨_,_,Try.func11,c11⟩
  · cases h; exact ⟨_,_,Try.func12,c12⟩
  · cases h; exact ⟨_,_,Try.func13,c13⟩
  · cases h; exact ⟨_,_,Try.func18,c18⟩
  · cases h; exact ⟨_,_,Try.func22,c22⟩
  · cases h; exact ⟨_,_,Try.func24,c24⟩
  · cases h; exact ⟨_,_,Try.func25,c25⟩
  · cases h; exact ⟨_,_,Try.func26,c26⟩
  · cases h; exact ⟨_,_,Try.func27,c27⟩
  · cases h; exact ⟨_,_,Try.func28,c28⟩
  · cases h; exact ⟨_,_,Try.func36,c36⟩
  · cases h; exact ⟨_,_,Try.func37,c37⟩
  · cases h; exact ⟨_,_,Try.func38,c38⟩
  · cases h; exact ⟨_,_,Try.func39,c39⟩
  · cases h; exact ⟨_,_,Try.func40,c40⟩
  · cases h; exact ⟨_,_,Try.func48,c48⟩
  · cases h; exact ⟨_,_,Try.func49,c49⟩
  · cases h; exact ⟨_,_,Try.func53,c53⟩
  · cases h; exact ⟨_,_,Try.func54,c54⟩
  · cases h; exact ⟨_,_,Try.func56,c56⟩
  · cases h; exact ⟨_,_,Try.func57,c57⟩
  · cases h; exact ⟨_,_,Try.func58,c58⟩
  · cases h; exact ⟨_,_,Try.func59,c59⟩
  · cases h; exact ⟨_,_,Try.func60,c60⟩
  · cases h; exact ⟨_,_,Try.func61,c61⟩
  · cases h; exact ⟨_,_,Try.func62,c62⟩
  · cases h; exact ⟨_,_,Try.func63,c63⟩
  · cases h; exact ⟨_,_,Try.func75,c75⟩
  · cases h; exact ⟨_,_,Try.func76,c76⟩
  · cases h; exact ⟨_,_,Try.func77,c77⟩
  · cases h; exact ⟨_,_,Try.func78,c78⟩
  · cases h; exact ⟨_,_,Try.func79,c79⟩
  · cases h; exact ⟨_,_,Try.func80,c80⟩
  · cases h; exact ⟨_,_,Try.func81,c81⟩
  · cases h; exact ⟨_,_,Try.func83,c83⟩
  · cases h; exact ⟨_,_,Try.func87,c87⟩
  · cases h; exact ⟨_,_,Try.func89,c89⟩
  · cases h; exact ⟨_,_,Try.func94,c94⟩
  · cases h; exact ⟨_,_,Try.func95,c95⟩
  · cases h; exact ⟨_,_,Try.func96,c96⟩
  · cases h; exact ⟨_,_,Try.func97,c97⟩
  · cases h; exact ⟨_,_,Try.func98,c98⟩
  · cases h; exact ⟨_,_,Try.func99,c99⟩
  · cases h; exact ⟨_,_,Try.func106,c106⟩
  · cases h; exact ⟨_,_,Try.func113,c113⟩
  · cases h; exact ⟨_,_,Try.func114,c114⟩
  · cases h; exact ⟨_,_,Try.func115,c115⟩
  · cases h; exact ⟨_,_,Try.func116,c116⟩
  · cases h; exact ⟨_,_,Try.func117,c117⟩
  · cases h; exact ⟨_,_,Try.func119,c119⟩
  · cases h; exact ⟨_,_,Try.func127,c127⟩
  · cases h; exact ⟨_,_,Try.func128,c128⟩
  · cases h; exact ⟨_,_,Try.func129,c129⟩
  · cases h; exact ⟨_,_,Try.func130,c130⟩
  · cases h; exact ⟨_,_,Try.func131,c131⟩
  · cases h; exact ⟨_,_,Try.func132,c132⟩
  · cases h; exact ⟨_,_,Try.func140,c140⟩
  · cases h; exact ⟨_,_,Try.func145,c145⟩
  · cases h; exact ⟨_,_,Try.func150,c150⟩
  · cases h; exact ⟨_,_,Try.func151,c151⟩
  · cases h; exact ⟨_,_,Try.func152,c152⟩
  · cases h; exact ⟨_,_,Try.func153,c153⟩
  · cases h; exact ⟨_,_,Try.func154,c154⟩
  · cases h; exact ⟨_,_,Try.func155,c155⟩
  · cases h; exact ⟨_,_,Try.func156,c156⟩
  · cases h; exact ⟨_,_,Try.func167,c167⟩
  · cases h; exact ⟨_,_,Try.func168,c168⟩
  · cases h; exact ⟨_,_,Try.func169,c169⟩
  · cases h
end Go.Abs
