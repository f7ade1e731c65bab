/-
  The functions of this seat are what the compile step gives: proved by the kernel.
-/
import Derived.Test.YtgpbjihpkoiaiaaProg
import Derived.Test.YtgpbjihpkoiaiaaComp
import Derived.Test.YtgpbjihpkoiaiaaFnsA
import Derived.Test.YtgpbjihpkoiaiaaFnsB
import Derived.KernelRfl
set_option linter.all false
set_option maxRecDepth 100000
set_option maxHeartbeats 0
namespace Go.Abs
open Go.Proofs
def bor : Nat → List Nat
  | 113 => [0]
  | 139 => [0]
  | 156 => [3000]
  | 174 => [3000]
  | 176 => [0]
  | 177 => [0]
  | 178 => [0]
  | 180 => [0]
  | _ => []

def h7 : Hints := ⟨[(0,[1,2]),(1,[1,5]),(2,[1,5,6,8]),(3,[1,5,6,8,9,10]),(4,[1,5,6,9,71]),(5,[4]),(6,[5,6,9,11,13]),(7,[5,6,9,11,13,14,15]),(8,[5,6,13,14,15,16,17]),(9,[5,6,13,14,15,16,17,18,19]),(10,[5,6,14,131]),(11,[4]),(12,[5,6,14,20]),(13,[5,6,14,20,21]),(14,[5,6,14,20,21,138]),(15,[5,6,14,20,21]),(16,[5,6,14,20,21,147]),(17,[4]),(18,[5,6,14,20,21,22]),(19,[5,6,14,20,21,22,150]),(20,[5,6,14,20,21,22]),(21,[5,6,14,20,21,22,169]),(22,[4]),(23,[5,6,23,24]),(24,[5,23,24,25,26]),(25,[24,25,26,27,28]),(26,[24,25,26,27,28,29]),(27,[24,25,26,27,28,29,30]),(28,[24,25,26,27,28,29,30,195]),(29,[24,25,26,27,28,29,30]),(30,[24,25,26,27,28,29,30]),(31,[24,26,27,28,29,31]),(32,[24,26,27,28,29,31,210]),(33,[24,26,27,28,29,31]),(34,[24,26,27,28,29,31]),(35,[4])],[(0,[5,6,14,20,21]),(2,[5,6,14,20,21,22]),(4,[24,25,26,27,28,29,30]),(6,[24,26,27,28,29,31])],[(7,[[],[0],[],[0,1,2],[0,1,2,3],List.range 5,List.range 6,List.range 6,List.range 7,List.range 9]),(21,[[],[],[0,1],[0,1,2],[],List.range 5,[],[],[6,7],[6,7,8],[],[],[10,11],[],[10,11,12,13],[6,7,8,9,10,11,12,13,14],List.range 16]),(23,[[],[0],[],[0,1,2],[0,1,2,3],List.range 5,List.range 6,List.range 6,[],[0,1,2,3,4,5,6,8],List.range 10]),(24,[[],[],[1],[0,1,2],[0,1,2,3],List.range 5,List.range 5,List.range 6,List.range 8]),(30,[[],[0],[],[],[2,3],[2,3,4],[2,3,4,5],List.range 7,List.range 8,List.range 9]),(34,[[],[0],[],[],[2,3],[2,3,4],[2,3,4,5],List.range 7,List.range 8,List.range 9])],[]⟩
def h10 : Hints := ⟨[(0,[1,2]),(1,[1,2,3]),(2,[1,2,3,4]),(3,[1,2,3,4,24]),(4,[1,2,3,4]),(5,[1,2,3,4,5]),(6,[1,2,3,4,5,31]),(7,[1,2,3,4,5]),(8,[1,2,3,4]),(9,[2])],[(0,[1,2,3,4])],[],[]⟩
def h14 : Hints := ⟨[(0,[]),(1,[1,3]),(2,[3,4,5]),(3,[0])],[],[],[]⟩
def h21 : Hints := ⟨[(0,[0]),(1,[2])],[],[],[]⟩
def h23 : Hints := ⟨[(0,[2,3,4]),(1,[2,3,4,6]),(2,[2,3,4,6,13]),(3,[4,5]),(4,[2,3,4,7]),(5,[2,3,4,7,17]),(6,[4,5]),(7,[2,3,4,21]),(8,[4,5]),(9,[2,4,28,29,30]),(10,[2,4,28,29,30,31]),(11,[2,4,9,28,29,30]),(12,[2,4,28,29,30]),(13,[2,4,28,29,30]),(14,[4,5])],[(1,[2,4,28,29,30])],[],[]⟩
def h24 : Hints := ⟨[(0,[1,2]),(1,[2])],[],[(1,[[],[0],[],[2],[2,3],List.range 5,List.range 6])],[]⟩
def h25 : Hints := ⟨[(0,[1,2]),(1,[2])],[],[(1,[[],[0],[],[2],[2,3],List.range 5,List.range 6])],[]⟩
def h26 : Hints := ⟨[(0,[0,1]),(1,[0,1,10]),(2,[4]),(3,[0,1,5]),(4,[0,1,5,14]),(5,[0,1,5]),(6,[0,1,5,25]),(7,[4]),(8,[4])],[(0,[0,1,5])],[(6,[[],[],[0,1],[0,1,2],[],[],[4,5],[4,5,6],List.range 8])],[]⟩
def h31 : Hints := ⟨[(0,[0,1,4]),(1,[0,1,4,10]),(2,[4,5,6]),(3,[0,1,4,16]),(4,[4,5,6]),(5,[0,1,4,21]),(6,[4,5,6]),(7,[0,1,4,7]),(8,[0,4,7,26,27,28]),(9,[0,4,7,26,27,28,29]),(10,[0,4,7,8,9,26,27,28]),(11,[0,4,7,8,9,26,27,28,58]),(12,[4,5,6]),(13,[0,4,7,8,26,27,28]),(14,[0,4,7,8,26,27,28,71]),(15,[4,5,6]),(16,[0,4,7,26,27,28]),(17,[4,5,6])],[(1,[0,4,7,26,27,28])],[(13,[[],[],[1],[1,2],[],[4],[1,2,3,4,5],List.range 7,List.range 8])],[]⟩
def h41 : Hints := ⟨[(0,[]),(1,[1,2,3]),(2,[0])],[],[],[]⟩
def h47 : Hints := ⟨[(0,[0,1]),(1,[0,1,10]),(2,[4]),(3,[0,1,5]),(4,[0,1,5,14]),(5,[0,1,5]),(6,[0,1,5,25]),(7,[4]),(8,[4])],[(0,[0,1,5])],[(6,[[],[],[0,1],[0,1,2],[],[],[4,5],[4,5,6],List.range 8])],[]⟩
def h49 : Hints := ⟨[(0,[1,2]),(1,[1,2,4]),(2,[1,2,4,9]),(3,[2,3]),(4,[1,2,5]),(5,[1,2,5,20]),(6,[2,3]),(7,[2,3])],[],[],[]⟩
def h50 : Hints := ⟨[(0,[1]),(1,[1,4]),(2,[1,4,13]),(3,[2,3]),(4,[1,5]),(5,[1,5,18,19]),(6,[1,5,18,19,20]),(7,[1,5,6,18,19]),(8,[1,5,6,7,18,19]),(9,[1,5,6,7,8,18,19]),(10,[1,5,6,7,8,18,19,23,24]),(11,[1,5,6,7,8,18,19,23,24,25]),(12,[1,5,6,7,8,9,18,19,23,24]),(13,[1,5,6,7,8,18,19,23,24]),(14,[1,5,6,7,8,18,19,23,24]),(15,[1,5,6,18,19,34]),(16,[2,3]),(17,[1,5,18,19]),(18,[2,3])],[(0,[1,5,18,19]),(2,[1,5,6,7,8,18,19,23,24])],[],[]⟩
def h51 : Hints := ⟨[(0,[2,3,4]),(1,[2,3,4,11,12]),(2,[2,3,4,11,12,13]),(3,[2,3,4,7,11,12]),(4,[2,3,4,8,11,12]),(5,[2,3,4,8,11,12,18]),(6,[4,5]),(7,[2,3,4,11,12]),(8,[2,3,4,22]),(9,[4,5]),(10,[2,3,4,29]),(11,[4,5]),(12,[4,5])],[(0,[2,3,4,11,12])],[(12,[[],[0],[],[2],[],[4],[2,3,4,5],[2,3,4,5,6],List.range 8,List.range 9,List.range 10])],[]⟩
def h52 : Hints := ⟨[(0,[3,4,5,6]),(1,[5,6,7,8]),(2,[5,6,7,8,18]),(3,[6,7]),(4,[5,6,8,22]),(5,[6,7]),(6,[5,6,27,28,29]),(7,[5,6,27,28,29,30]),(8,[5,6,9,10,27,28,29]),(9,[5,6,9,27,28,29,35]),(10,[5,6,9,11,27,28,29]),(11,[5,6,9,11,27,28,29,40]),(12,[5,6,9,11,27,28,29]),(13,[5,6,9,27,28,29]),(14,[5,6,27,28,29]),(15,[6,7])],[(1,[5,6,27,28,29]),(3,[5,6,9,27,28,29])],[],[]⟩
def h68 : Hints := ⟨[(0,[1]),(1,[1,3]),(2,[2]),(3,[1,9]),(4,[2]),(5,[1,14]),(6,[2]),(7,[19]),(8,[2]),(9,[2])],[],[],[]⟩
def h69 : Hints := ⟨[(0,[1]),(1,[1,3]),(2,[2]),(3,[1,9]),(4,[2]),(5,[1,14]),(6,[2]),(7,[19]),(8,[2]),(9,[2])],[],[(7,[[],[0],[0,1],[0,1,2],[],[4],List.range 6,List.range 7,List.range 8])],[]⟩
def h76 : Hints := ⟨[(0,[0,1]),(1,[4])],[],[],[]⟩
def h78 : Hints := ⟨[(0,[2,3,4]),(1,[6])],[],[],[]⟩
def h79 : Hints := ⟨[(0,[0,1]),(1,[0,1,10]),(2,[0,1]),(3,[0,5,6]),(4,[0,6,26]),(5,[0,6]),(6,[0,7]),(7,[7,8]),(8,[7,8,37]),(9,[7,8]),(10,[4])],[(0,[7,8])],[(9,[[],[],[],[1,2],[],[],[4,5],[1,2,3,4,5,6],List.range 8,List.range 9])],[]⟩
def h80 : Hints := ⟨[(0,[1]),(1,[1,3]),(2,[3,16]),(3,[3,4]),(4,[3,4,21]),(5,[3,4]),(6,[3,4]),(7,[2])],[(0,[3,4])],[],[]⟩
def h85 : Hints := ⟨[(0,[1,2,3,6,7]),(1,[1,2,3,6,7,9]),(2,[1,2,3,6,7,9,16]),(3,[6,7,8]),(4,[1,2,3,6,7,21]),(5,[6,7,8]),(6,[1,2,3,6,7,29]),(7,[6,7,8]),(8,[1,2,3,6,7,38]),(9,[6,7,8]),(10,[1,2,3,6,7]),(11,[1,2,3,6,7,48,49,50]),(12,[1,2,3,6,7,48,49,50,51]),(13,[1,2,3,6,7,10,11,48,49,50]),(14,[1,2,3,6,7,12,13,48,49,50]),(15,[1,2,3,6,7,12,13,48,49,50,70]),(16,[6,7,8]),(17,[1,2,3,6,7,48,49,50]),(18,[1,2,3,6,7,48,49,50]),(19,[6,7,8])],[(1,[1,2,3,6,7,48,49,50])],[(14,[[],[],[],[1,2],[1,2,3],[],[5],[],List.range 8,List.range 9,List.range 10,List.range 11,List.range 12,List.range 12,List.range 13,List.range 15])],[]⟩
def h97 : Hints := ⟨[(0,[0,1,2,6]),(1,[0,1,2,6,7]),(2,[1,2,6,7,14,15]),(3,[1,2,6,7,14,15,16]),(4,[1,2,6,7,8,14,15]),(5,[1,2,6,7,8,14,15,18,19]),(6,[1,2,6,7,8,14,15,18,19,20]),(7,[1,2,6,7,8,9,14,15,18,19]),(8,[1,2,6,7,8,9,14,15,18,19,25]),(9,[1,2,6,7,8,14,15,18,19]),(10,[1,2,6,7,8,14,15,18,19]),(11,[1,2,6,7,14,15]),(12,[6])],[(0,[1,2,6,7,14,15]),(2,[1,2,6,7,8,14,15,18,19])],[(9,[[],[0],[],[0,1,2],[0,1,2,3],[],[5],List.range 7,List.range 8,List.range 9])],[]⟩
def h99 : Hints := ⟨[(0,[1,2,3]),(1,[6])],[],[(1,[[],[0],[0,1],[],[],[4],[4,5],[4,5,6],[3,4,5,6,7],List.range 9,List.range 10,[],[],[12],[12,13],[11,12,13,14],List.range 16,List.range 17,List.range 18,List.range 19])],[]⟩
def h105 : Hints := ⟨[(0,[0,1,2,3]),(1,[6])],[],[],[]⟩
def h106 : Hints := ⟨[(0,[0,1,2,3]),(1,[5])],[],[(1,[[],[0],[],[0,1,2],[0,1,2,3],[],[5],[],[],[7,8],[],[7,8,9,10],[],[7,8,9,10,11,12],[5,6,7,8,9,10,11,12,13],[5,6,7,8,9,10,11,12,13,14],List.range 16,List.range 17])],[]⟩
def h107 : Hints := ⟨[(0,[0]),(1,[0,3]),(2,[0,3,9,10,11]),(3,[0,3,9,10,11,12]),(4,[0,3,5,9,10,11]),(5,[0,3,9,10,11]),(6,[0,3,9,10,11,20]),(7,[0,3,9,10,11]),(8,[0,3,9,10,11]),(9,[0,6]),(10,[6,25,26,27]),(11,[6,25,26,27,28]),(12,[6,8,25,26,27]),(13,[6,25,26,27]),(14,[6,25,26,27]),(15,[2])],[(0,[0,3,9,10,11]),(2,[6,25,26,27])],[],[]⟩
def h108 : Hints := ⟨[(0,[1,2]),(1,[1,2,4]),(2,[1,2,4,5]),(3,[1,2,4,5,18]),(4,[1,2,4,5]),(5,[1,2,4,5,24]),(6,[]),(7,[1,2,4,6]),(8,[1,2,4,6,35]),(9,[1,2,4,6,7]),(10,[1,2,4,6,7,51]),(11,[1,2,4,6,7]),(12,[1,2,4,6,7,59]),(13,[1,2,4,6])],[(0,[1,2,4,5]),(2,[1,2,4,6]),(4,[1,2,4,6,7])],[],[]⟩
def h127 : Hints := ⟨[(0,[2,3,4]),(1,[6])],[],[],[]⟩
def h132 : Hints := ⟨[(0,[0,1]),(1,[0,1,7,8]),(2,[0,1,7,8,9]),(3,[0,1,5,7,8]),(4,[0,1,5,7,8,16]),(5,[4]),(6,[0,1,7,8]),(7,[4])],[(0,[0,1,7,8])],[],[]⟩
def h133 : Hints := ⟨[(0,[0,1,2]),(1,[4])],[],[],[]⟩
def h134 : Hints := ⟨[(0,[0,1]),(1,[6,7]),(2,[4,5]),(3,[8,9]),(4,[4,5])],[],[],[]⟩
def h135 : Hints := ⟨[(0,[0]),(1,[2])],[],[],[]⟩
def h136 : Hints := ⟨[(0,[2,3]),(1,[4])],[],[],[]⟩
def h139 : Hints := ⟨[(0,[0]),(1,[0,3]),(2,[0,3,4]),(3,[0,3,4,15,16]),(4,[0,3,4,15,16,17]),(5,[0,3,4,6,15,16]),(6,[0,3,4,6,7,15,16]),(7,[0,3,4,7,8,15,16]),(8,[0,3,4,7,8,15,16,36]),(9,[0,3,4,15,16]),(10,[0,3,4,15,16]),(11,[0,3,4,41]),(12,[2,3]),(13,[0,3,4]),(14,[0,3,4,9]),(15,[0,2,3,4,9]),(16,[0,2,3,4,9,62]),(17,[0,2,3,4,9,63,64]),(18,[0,2,3,4,9,63,64,65]),(19,[0,2,3,4,9,11,63,64]),(20,[0,2,3,4,9,11,12,13,63,64]),(21,[0,2,3,4,9,11,12,13,14,63,64]),(22,[0,2,3,4,9,11,12,14,63,64,89]),(23,[0,2,3,4,9]),(24,[0,2,3,4,9,63,64]),(25,[2,3])],[(0,[0,3,4,15,16]),(2,[0,2,3,4,9]),(4,[0,2,3,4,9,63,64])],[(7,[[],[],[1],[1,2],[1,2,3],[1,2,3,4],[],List.range 7,[],[],List.range 10,List.range 11,List.range 12]),(14,[[],[],[],[2],[2,3],[2,3,4],[2,3,4,5],[],[7],[1,2,3,4,5,6,7,8],List.range 10,List.range 11]),(23,[[],[],[],[1,2],[],[4],[],[6],[4,5,6,7],[0,6,7],[0,1,2,3,6,7,9],List.range 11])],[]⟩
def h156 : Hints := ⟨[(0,[0,1]),(1,[0,1,6]),(2,[0,1]),(3,[0,1]),(4,[0,1,16]),(5,[0]),(6,[4])],[],[],[]⟩
def h157 : Hints := ⟨[(0,[0,1]),(1,[3])],[],[(1,[[],[],[0,1],[],[],[],[5],[4,5,6],[4,5,6,7],[],[9],[4,5,6,7,8,9,10],[3,4,5,6,7,8,9,10,11],List.range 13,List.range 14])],[]⟩
def h170 : Hints := ⟨[(0,[0,1,2]),(1,[4])],[],[],[]⟩
def h172 : Hints := ⟨[(0,[0,1]),(1,[6]),(2,[4,5])],[],[],[]⟩
def h173 : Hints := ⟨[(0,[0,1]),(1,[0,1,6]),(2,[0,1,6,7]),(3,[0,1,6,7,8]),(4,[0,1,6,7,8,9]),(5,[0,1,6,7,8,9,10]),(6,[0,1,6,7,9,11]),(7,[0,1,6,7,9,11,12]),(8,[0,1,6,7,9,12,13]),(9,[0,1,7,9,12,13]),(10,[0,1,4]),(11,[4,5])],[],[],[]⟩
def h174 : Hints := ⟨[(0,[1,2]),(1,[2,6]),(2,[2,5]),(3,[2]),(4,[4])],[(0,[2])],[],[]⟩
def h175 : Hints := ⟨[(0,[0,1,2,4]),(1,[0,1,2,4,8]),(2,[0,1,2,4]),(3,[0,1,4,5]),(4,[0,1,4,5]),(5,[0,1,4,5,21])],[(0,[0,1,4,5])],[],[]⟩
def h176 : Hints := ⟨[(0,[0,1,4]),(1,[0,1,4]),(2,[4])],[],[],[]⟩
def h177 : Hints := ⟨[(0,[0,1,2]),(1,[0,1,2,7]),(2,[0,1,16]),(3,[6]),(4,[20]),(5,[6]),(6,[6])],[],[],[]⟩
def h178 : Hints := ⟨[(0,[0,3]),(1,[0,3,14]),(2,[38]),(3,[4]),(4,[4]),(5,[0,3,5,6]),(6,[0,3,5,48]),(7,[4]),(8,[0,3,7]),(9,[0,3,7,50,51]),(10,[0,3,7,50,51,52]),(11,[0,3,7,9,50,51]),(12,[0,3,7,9,10,11,50,51]),(13,[0,3,7,9,10,50,51,61]),(14,[0,3,7,50,51]),(15,[0,3,7,50,51]),(16,[7]),(17,[4])],[(0,[0,3,7,50,51])],[(2,[[],[0],[0,1],[0,1,2],[0,1,2,3],List.range 5,[0,1,2,3],[0,1,2,3,6],[0,1,2,3,6,7],[0,1,2,3,6,7,8],List.range 10,List.range 11,List.range 12,List.range 13,List.range 12,[0,1,2,3,4,5,6,7,8,9,10,11,14],List.range 16,List.range 12,[0,1,2,3,4,5,6,7,8,9,10,11,17],[0,1,2,3,4,5,6,7,8,9,10,11,17,18],[0,1,2,3,4,5,6,7,8,9,10,11,17,18,19],List.range 21,List.range 22,List.range 23]),(5,[[],[0],[0,1],[0,1,2],[],List.range 5,List.range 6,List.range 7,List.range 7,List.range 8,List.range 10]),(14,[[],[],[],[2],[],[1,2,3,4],[],[],[1,2,3,4,5,6,7],[1,2,3,4,5,6,7,8],List.range 10,List.range 11]),(16,[[],[0],[0,1],[0,1,2],[],[],List.range 6])],[]⟩
def h179 : Hints := ⟨[(0,[0]),(1,[3]),(2,[2]),(3,[2])],[],[],[]⟩
def h180 : Hints := ⟨[(0,[0,2,4,6]),(1,[0,2,4,6,8]),(2,[0,4,6,8,16]),(3,[0,6,8]),(4,[0,4,6,8,25]),(5,[0,6,8]),(6,[6,7])],[],[(6,[[],[],[1],[],[3],[3,4],[3,4,5],[1,2,3,4,5,6],[0],List.range 9])],[]⟩
def F : Nat → Option AFn
  | 7 => some a7
  | 10 => some a10
  | 14 => some a14
  | 21 => some a21
  | 23 => some a23
  | 24 => some a24
  | 25 => some a25
  | 26 => some a26
  | 31 => some a31
  | 41 => some a41
  | 47 => some a47
  | 49 => some a49
  | 50 => some a50
  | 51 => some a51
  | 52 => some a52
  | 68 => some a68
  | 69 => some a69
  | 70 => some a70
  | 76 => some a76
  | 78 => some a78
  | 79 => some a79
  | 80 => some a80
  | 85 => some a85
  | 97 => some a97
  | 99 => some a99
  | 105 => some a105
  | 106 => some a106
  | 107 => some a107
  | 108 => some a108
  | 127 => some a127
  | 132 => some a132
  | 133 => some a133
  | 134 => some a134
  | 135 => some a135
  | 136 => some a136
  | 139 => some a139
  | 156 => some a156
  | 157 => some a157
  | 170 => some a170
  | 172 => some a172
  | 173 => some a173
  | 174 => some a174
  | 175 => some a175
  | 176 => some a176
  | 177 => some a177
  | 178 => some a178
  | 179 => some a179
  | 180 => some a180
  | _ => none
theorem c7 : compFn Try.prog bor h7 Try.f7 = some a7 := by kernel_rfl
theorem c10 : compFn Try.prog bor h10 Try.f10 = some a10 := by kernel_rfl
theorem c14 : compFn Try.prog bor h14 Try.f14 = some a14 := by kernel_rfl
theorem c21 : compFn Try.prog bor h21 Try.f21 = some a21 := by kernel_rfl
theorem c23 : compFn Try.prog bor h23 Try.f23 = some a23 := by kernel_rfl
theorem c24 : compFn Try.prog bor h24 Try.f24 = some a24 := by kernel_rfl
theorem c25 : compFn Try.prog bor h25 Try.f25 = some a25 := by kernel_rfl
theorem c26 : compFn Try.prog bor h26 Try.f26 = some a26 := by kernel_rfl
theorem c31 : compFn Try.prog bor h31 Try.f31 = some a31 := by kernel_rfl
theorem c41 : compFn Try.prog bor h41 Try.f41 = some a41 := by kernel_rfl
theorem c47 : compFn Try.prog bor h47 Try.f47 = some a47 := by kernel_rfl
theorem c49 : compFn Try.prog bor h49 Try.f49 = some a49 := by kernel_rfl
theorem c50 : compFn Try.prog bor h50 Try.f50 = some a50 := by kernel_rfl
theorem c51 : compFn Try.prog bor h51 Try.f51 = some a51 := by kernel_rfl
theorem c52 : compFn Try.prog bor h52 Try.f52 = some a52 := by kernel_rfl
theorem c68 : compFn Try.prog bor h68 Try.f68 = some a68 := by kernel_rfl
theorem c69 : compFn Try.prog bor h69 Try.f69 = some a69 := by kernel_rfl
theorem c76 : compFn Try.prog bor h76 Try.f76 = some a76 := by kernel_rfl
theorem c78 : compFn Try.prog bor h78 Try.f78 = some a78 := by kernel_rfl
theorem c79 : compFn Try.prog bor h79 Try.f79 = some a79 := by kernel_rfl
theorem c80 : compFn Try.prog bor h80 Try.f80 = some a80 := by kernel_rfl
theorem c85 : compFn Try.prog bor h85 Try.f85 = some a85 := by kernel_rfl
theorem c97 : compFn Try.prog bor h97 Try.f97 = some a97 := by kernel_rfl
theorem c99 : compFn Try.prog bor h99 Try.f99 = some a99 := by kernel_rfl
theorem c105 : compFn Try.prog bor h105 Try.f105 = some a105 := by kernel_rfl
theorem c106 : compFn Try.prog bor h106 Try.f106 = some a106 := by kernel_rfl
theorem c107 : compFn Try.prog bor h107 Try.f107 = some a107 := by kernel_rfl
theorem c108 : compFn Try.prog bor h108 Try.f108 = some a108 := by kernel_rfl
theorem c127 : compFn Try.prog bor h127 Try.f127 = some a127 := by kernel_rfl
theorem c132 : compFn Try.prog bor h132 Try.f132 = some a132 := by kernel_rfl
theorem c133 : compFn Try.prog bor h133 Try.f133 = some a133 := by kernel_rfl
theorem c134 : compFn Try.prog bor h134 Try.f134 = some a134 := by kernel_rfl
theorem c135 : compFn Try.prog bor h135 Try.f135 = some a135 := by kernel_rfl
theorem c136 : compFn Try.prog bor h136 Try.f136 = some a136 := by kernel_rfl
theorem c139 : compFn Try.prog bor h139 Try.f139 = some a139 := by kernel_rfl
theorem c156 : compFn Try.prog bor h156 Try.f156 = some a156 := by kernel_rfl
theorem c157 : compFn Try.prog bor h157 Try.f157 = some a157 := by kernel_rfl
theorem c170 : compFn Try.prog bor h170 Try.f170 = some a170 := by kernel_rfl
theorem c172 : compFn Try.prog bor h172 Try.f172 = some a172 := by kernel_rfl
theorem c173 : compFn Try.prog bor h173 Try.f173 = some a173 := by kernel_rfl
theorem c174 : compFn Try.prog bor h174 Try.f174 = some a174 := by kernel_rfl
theorem c175 : compFn Try.prog bor h175 Try.f175 = some a175 := by kernel_rfl
theorem c176 : compFn Try.prog bor h176 Try.f176 = some a176 := by kernel_rfl
theorem c177 : compFn Try.prog bor h177 Try.f177 = some a177 := by kernel_rfl
theorem c178 : compFn Try.prog bor h178 Try.f178 = some a178 := by kernel_rfl
theorem c179 : compFn Try.prog bor h179 Try.f179 = some a179 := by kernel_rfl
theorem c180 : compFn Try.prog bor h180 Try.f180 = some a180 := by kernel_rfl
theorem F_ok (f : Nat) (afn : AFn) (h : F f = some afn) : (∃ fn hh,Try.prog.funcs[f]? = some fn ∧ compFn Try.prog bor hh fn = some afn) ∨ f = 70 ∧ afn = a70 := by
  unfold F at h
  split at h
  · cases h; exact .inl ⟨_,_,Try.func7,c7⟩
  · cases h; exact .inl ⟨_,_,Try.func10,c10⟩
  · cases h; exact .inl ⟨_,_,Try.func14,c14⟩
  · cases h; exact .inl ⟨_,_,Try.func21,c21⟩
  · cases h; exact .inl ⟨_,_,Try.func23,c23⟩
  · cases h; exact .inl ⟨_,_,Try.func24,c24⟩
  · cases h; exact .inl ⟨_,_,Try.func25,c25⟩
  · cases h; exact .inl ⟨_,_,Try.func26,c26⟩
  · cases h; exact .inl ⟨_,_,Try.func31,c31⟩
  · cases h; exact .inl ⟨_,_,Try.func41,c41⟩
  · cases h; exact .inl ⟨_,_,Try.func47,c47⟩
  · cases h; exact .inl ⟨_,_,Try.func49,c49⟩
  · cases h; exact .inl ⟨_,_,Try.func50,c50⟩
  · cases h; exact .inl ⟨_,_,Try.func51,c51⟩
  · cases h; exact .inl ⟨_,_,Try.func52,c52⟩
  · cases h; exact .inl ⟨_,_,Try.func68,c68⟩
  · cases h; exact .inl ⟨_,_,Try.func69,c69⟩
  · cases h; simp
  · cases h; exact .inl ⟨_,_,Try.func76,c76⟩
  · cases h; exact .inl ⟨_,_,Try.func78,c78⟩
  · cases h; exact .inl ⟨_,_,Try.func79,c79⟩
  · cases h; exact .inl ⟨_,_,Try.func80,c80⟩
  · cases h; exact .inl ⟨_,_,Try.func85,c85⟩
  · cases h; exact .inl ⟨_,_,Try.func97,c97⟩
  · cases h; exact .inl ⟨_,_,Try.func99,c99⟩
  · cases h; exact .inl ⟨_,_,Try.func105,c105⟩
  · cases h; exact .inl ⟨_,_,Try.func106,c106⟩
  · cases h; exact .inl ⟨_,_,Try.func107,c107⟩
  · cases h; exact .inl ⟨_,_,Try.func108,c108⟩
  · cases h; exact .inl ⟨_,_,Try.func127,c127⟩
  · cases h; exact .inl ⟨_,_,Try.func132,c132⟩
  · cases h; exact .inl ⟨_,_,Try.func133,c133⟩
  · cases h; exact .inl ⟨_,_,Try.func134,c134⟩
  · cases h; exact .inl ⟨_,_,Try.func135,c135⟩
  · cases h; exact .inl ⟨_,_,Try.func136,c136⟩
  · cases h; exact .inl ⟨_,_,Try.func139,c139⟩
  · cases h; exact .inl ⟨_,_,Try.func156,c156⟩
  · cases h; exact .inl ⟨_,_,Try.func157,c157⟩
  · cases h; exact .inl ⟨_,_,Try.func170,c170⟩
  · cases h; exact .inl ⟨_,_,Try.func172,c172⟩
  · cases h; exact .inl ⟨_,_,Try.func173,c173⟩
  · cases h; exact .inl ⟨_,_,Try.func174,c174⟩
  · cases h; exact .inl ⟨_,_,Try.func175,c175⟩
  · cases h; exact .inl ⟨_,_,Try.func176,c176⟩
  · cases h; exact .inl ⟨_,_,Try.func177,c177⟩
  · cases h; exact .inl ⟨_,_,Try.func178,c178⟩
  · cases h; exact .inl ⟨_,_,Try.func179,c179⟩
  · cases h; exact .inl ⟨_,_,Try.func180,c180⟩
  · cases h
end Go.Abs
