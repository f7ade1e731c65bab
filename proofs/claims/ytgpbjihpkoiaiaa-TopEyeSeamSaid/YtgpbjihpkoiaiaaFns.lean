/-
  The functions of this seat are what the compile step gives: proved by the kernel.
-/
import Derived.Test.YtgpbjihpkoiaiaaProg
import Derived.Test.YtgpbjihpkoiaiaaComp
import Derived.Test.YtgpbjihpkoiaiaaFnsA
import Derived.Test.YtgpbjihpkoiaiaaFnsB
import Derived.KernelRfl
set_option linter.all false
set_option maxRecDepth 100000
set_option maxHeartbeats 0
namespace Go.Abs
open Go.Proofs
def bor : Nat → List Nat
  | 113 => [0]
  | 139 => [0]
  | 156 => [3000]
  | 174 => [3000]
  | 176 => [0]
  | 177 => [0]
  | 178 => [0]
  | 180 => [0]
  | _ => []

def h8 : Hints := ⟨[(0,[1,2]),(1,[1,2,5,6]),(2,[1,2,5,6,7,8]),(3,[1,5,6,7,8,9]),(4,[1,5,6,7,8,9,10,11]),(5,[1,5,6,7,8,9,10,11,12,13]),(6,[1,5,6,7,8,9,10,11,12,13,14,15]),(7,[1,5,6,7,8,10,11,12,13,14,15,17,18]),(8,[1,7,8,10,11,12,13,14,15,18,19,20]),(9,[1,7,8,10,12,14,19,125]),(10,[4]),(11,[1,7,8,10,12,14,19,21]),(12,[1,7,8,10,12,14,19,21,22]),(13,[1,7,8,10,12,14,19,21,22,130]),(14,[1,7,8,10,12,14,19,21,22]),(15,[1,7,8,10,12,14,19,21,22]),(16,[1,7,8,10,12,19,21,23]),(17,[1,7,8,10,12,19,21,23,140]),(18,[1,7,8,10,12,19,21,23]),(19,[1,7,8,10,12,19,21,23,24]),(20,[1,7,8,10,12,19,21,23,24,145]),(21,[1,7,8,10,12,19,21,23,24]),(22,[1,7,8,10,12,19,21,23,24,184]),(23,[4]),(24,[1,8,19,25]),(25,[1,8,19,26,27]),(26,[8,19,26,27,28,30]),(27,[8,19,26,28,245]),(28,[4]),(29,[8,19,26,28,31]),(30,[8,19,26,28,31,248]),(31,[8,19,26,28,31]),(32,[8,19,26,28,31,280]),(33,[4]),(34,[4])],[(0,[1,7,8,10,12,14,19,21,22]),(2,[1,7,8,10,12,19,21,23]),(4,[1,7,8,10,12,19,21,23,24]),(6,[8,19,26,28,31])],[(1,[[],[0],[],[0,1,2],[],[],List.range 6,List.range 7]),(2,[[],[0],[0,1],[],[3],[3,4],[0,1,2],List.range 7]),(4,[[],[0],[],[0,1,2],[],List.range 5,List.range 6,List.range 7,List.range 8,List.range 8,List.range 9,List.range 11]),(5,[[],[0],[],[0,1,2],[],List.range 5,List.range 6,List.range 7,List.range 8,List.range 8,List.range 9,List.range 11]),(8,[[],[],[],[2],[0,1,2,3],List.range 5,List.range 6,List.range 6,List.range 7,List.range 9]),(22,[[],[],[0,1],[0,1,2],[0,1,2,3],[],List.range 6,List.range 7,List.range 8,List.range 8,List.range 10,List.range 11,List.range 12,List.range 8,List.range 14,List.range 15,List.range 16,List.range 17,List.range 17,List.range 19,List.range 20,List.range 17,List.range 22,List.range 17,List.range 17,[0,1,2,3,4,5,6,7,8,9,10,11,12,13,14,15,16,23,24],[0,1,2,3,4,5,6,7,8,9,10,11,12,13,14,15,16,23,24,25],List.range 17,[0,1,2,3,4,5,6,7,8,9,10,11,12,13,14,15,16,23,24,25,26,27],List.range 29,List.range 30,List.range 31,List.range 31,List.range 33,List.range 34,List.range 35,List.range 36]),(26,[[],[],[1],[],[1,2,3],[],[1,2,3,4,5],[],[7],[],[7,8,9],[],[7,8,9,10,11],[1,2,3,4,5,6,7,8,9,10,11,12],List.range 14,List.range 15,List.range 16,List.range 16,List.range 16,List.range 17,[0,1,2,3,4,5,6,7,8,9,10,11,12,13,14,15,16,17,19],List.range 21]),(32,[[],[],[1],[0,1,2],[0,1,2,3],[],List.range 6,List.range 7,List.range 8,List.range 8,[0,1,2,3,4,5,6,7,9],[0,1,2,3,4,5,6,7,9,10],List.range 8,[0,1,2,3,4,5,6,7,9,10,11,12],List.range 8,[0,1,2,3,4,5,6,7,9,10,11,12,13,14],List.range 16,List.range 17,List.range 8,List.range 8,[0,1,2,3,4,5,6,7,19],[0,1,2,3,4,5,6,7,19,20],List.range 8,[0,1,2,3,4,5,6,7,19,20,21,22],List.range 8,[0,1,2,3,4,5,6,7,19,20,21,22,23,24],[0,1,2,3,4,5,6,7,18,19,20,21,22,23,24,25],[0,1,2,3,4,5,6,7,18,19,20,21,22,23,24,25,26],List.range 28,List.range 29])],[]⟩
def h9 : Hints := ⟨[(0,[1,2]),(1,[1,2,3]),(2,[1,2,3,4]),(3,[1,2,3,4,24]),(4,[1,2,3,4]),(5,[1,2,3,4,5]),(6,[1,2,3,4,5,31]),(7,[1,2,3,4,5]),(8,[1,2,3,4]),(9,[2])],[(0,[1,2,3,4])],[(7,[[],[0],[],[0,1,2],[0,1,2,3],List.range 5,[],[6],List.range 8,List.range 9])],[]⟩
def h10 : Hints := ⟨[(0,[1,2]),(1,[1,2,3]),(2,[1,2,3,4]),(3,[1,2,3,4,24]),(4,[1,2,3,4]),(5,[1,2,3,4,5]),(6,[1,2,3,4,5,31]),(7,[1,2,3,4,5]),(8,[1,2,3,4]),(9,[2])],[(0,[1,2,3,4])],[],[]⟩
def h16 : Hints := ⟨[(0,[]),(1,[1,2]),(2,[1,2,3,4]),(3,[3,4,5,6,7]),(4,[0])],[],[],[]⟩
def h18 : Hints := ⟨[(0,[0,1,2,3]),(1,[3,10,12]),(2,[3,10,12,23]),(3,[8,9,10]),(4,[3,12,27]),(5,[8,9,10]),(6,[3,32,33,34]),(7,[3,32,33,34,35]),(8,[3,13,14,32,33,34]),(9,[3,13,14,32,33,34,42]),(10,[8,9,10]),(11,[3,32,33,34]),(12,[8,9,10])],[(1,[3,32,33,34])],[],[]⟩
def h19 : Hints := ⟨[(0,[0,1,2,6]),(1,[2,6,7,8]),(2,[2,6,7,8,23]),(3,[6,7]),(4,[2,6,8,27]),(5,[6,7]),(6,[2,6,8,9]),(7,[2,6,8,9,10,11]),(8,[2,6,8,9,10,11,12]),(9,[2,6,8,9,10,11,12,43]),(10,[2,6,8,9,10,11,12]),(11,[2,6,8,9,10,11,12,51]),(12,[2,6,8,9,10,11,12]),(13,[2,6,8,9,10,11,12,13]),(14,[2,6,8,9,10,11,12,13,59]),(15,[2,6,8,9,10,11,12,13]),(16,[2,6,8,9,10,11,12,13,85]),(17,[2,6,8,9,10,11,12,13,14,15]),(18,[2,6,8,9,10,11,12,13,99]),(19,[2,6,8,9,10,11,12,13]),(20,[6,11,115]),(21,[6,7]),(22,[6,11,16]),(23,[6,11,16,120]),(24,[6,11,16]),(25,[6,11,16]),(26,[6,7])],[(1,[2,6,8,9,10,11,12]),(3,[2,6,8,9,10,11,12,13]),(5,[6,11,16])],[(7,[[],[0],[0,1],[],[3],[3,4],[0,1,2],List.range 7]),(16,[[],[],[0,1],[0,1,2],[0,1,2,3],List.range 5,List.range 6,List.range 6,List.range 8,List.range 9,List.range 10,List.range 11,List.range 12,List.range 12,List.range 14,List.range 15,List.range 16,List.range 12,List.range 12,[0,1,2,3,4,5,6,7,8,9,10,11,17,18],[0,1,2,3,4,5,6,7,8,9,10,11,17,18,19],List.range 21,List.range 22,List.range 23])],[]⟩
def h20 : Hints := ⟨[(0,[0,1,2]),(1,[9,10]),(2,[9,10,20]),(3,[6,7]),(4,[6,7])],[],[],[]⟩
def h21 : Hints := ⟨[(0,[0]),(1,[2])],[],[],[]⟩
def h22 : Hints := ⟨[(0,[0,1,4]),(1,[4])],[],[],[]⟩
def h23 : Hints := ⟨[(0,[2,3,4]),(1,[2,3,4,6]),(2,[2,3,4,6,13]),(3,[4,5]),(4,[2,3,4,7]),(5,[2,3,4,7,17]),(6,[4,5]),(7,[2,3,4,21]),(8,[4,5]),(9,[2,4,28,29,30]),(10,[2,4,28,29,30,31]),(11,[2,4,9,28,29,30]),(12,[2,4,28,29,30]),(13,[2,4,28,29,30]),(14,[4,5])],[(1,[2,4,28,29,30])],[],[]⟩
def h24 : Hints := ⟨[(0,[1,2]),(1,[2])],[],[(1,[[],[0],[],[2],[2,3],List.range 5,List.range 6])],[]⟩
def h25 : Hints := ⟨[(0,[1,2]),(1,[2])],[],[(1,[[],[0],[],[2],[2,3],List.range 5,List.range 6])],[]⟩
def h26 : Hints := ⟨[(0,[0,1]),(1,[0,1,10]),(2,[4]),(3,[0,1,5]),(4,[0,1,5,14]),(5,[0,1,5]),(6,[0,1,5,25]),(7,[4]),(8,[4])],[(0,[0,1,5])],[(6,[[],[],[0,1],[0,1,2],[],[],[4,5],[4,5,6],List.range 8])],[]⟩
def h40 : Hints := ⟨[(0,[0,1,2]),(1,[2,8,9]),(2,[2,8,9,21]),(3,[6,7,8]),(4,[2,10]),(5,[2,10,11]),(6,[6,10,11]),(7,[6,10,11,12]),(8,[6,10,11,12,33]),(9,[6,10,11,12]),(10,[6,10,11,12]),(11,[6,7,8])],[(0,[6,10,11,12])],[(10,[[],[],[],[1,2],[1,2,3],[1,2,3,4],[],[],[6,7],[6,7,8],[6,7,8,9],List.range 11,List.range 12]),(11,[[],[],[],[1,2],[1,2,3],[1,2,3,4],[0],List.range 7,List.range 8])],[]⟩
def h47 : Hints := ⟨[(0,[0,1]),(1,[0,1,10]),(2,[4]),(3,[0,1,5]),(4,[0,1,5,14]),(5,[0,1,5]),(6,[0,1,5,25]),(7,[4]),(8,[4])],[(0,[0,1,5])],[(6,[[],[],[0,1],[0,1,2],[],[],[4,5],[4,5,6],List.range 8])],[]⟩
def h53 : Hints := ⟨[(0,[0,1]),(1,[0,1,5]),(2,[0,1,5,6]),(3,[0,1,5,6,12]),(4,[0,1,5,6]),(5,[0,1,5,6,7]),(6,[0,1,5,6,7,19]),(7,[0,1,5,6,7,8]),(8,[0,1,5,6,7,8,27]),(9,[0,1,5,6,7]),(10,[0,1,5,6,7,8,29]),(11,[0,1,5,6,7]),(12,[0,1,5,6]),(13,[4])],[(0,[0,1,5,6])],[],[]⟩
def h54 : Hints := ⟨[(0,[1,3,5,6]),(1,[1,3,5,6,8]),(2,[1,3,5,6,8,19]),(3,[6,7]),(4,[1,6,7,9]),(5,[1,6,7,9,28]),(6,[6,7]),(7,[1,6,30,31,32]),(8,[1,6,30,31,32,33]),(9,[1,6,11,30,31,32]),(10,[1,6,11,12,30,31,32]),(11,[1,6,11,12,30,31,32,36,37,38]),(12,[1,6,11,12,30,31,32,36,37,38,39]),(13,[1,6,11,12,14,30,31,32,36,37,38]),(14,[1,6,11,12,14,30,31,32,36,37,38,43]),(15,[1,6,11,12,30,31,32,36,37,38]),(16,[1,6,11,12,30,31,32,36,37,38]),(17,[1,6,11,12,30,31,32,36,37,38]),(18,[1,6,30,31,32]),(19,[1,6,30,31,32]),(20,[6,7])],[(0,[1,6,30,31,32]),(2,[1,6,11,12,30,31,32,36,37,38])],[],[]⟩
def h55 : Hints := ⟨[(0,[0,1]),(1,[0,1,5]),(2,[0,1,5,6]),(3,[0,1,5,6,15]),(4,[0,1,5,6]),(5,[0,1,5,6]),(6,[0,1,5,7]),(7,[0,1,5,7,29]),(8,[0,1,5,7]),(9,[0,1,5,7,8,9]),(10,[0,1,5,7,8,9,10,11]),(11,[0,1,5,7,9,10]),(12,[0,1,5,7]),(13,[4])],[(0,[0,1,5,6]),(2,[0,1,5,7])],[(9,[[],[],[0,1],[0,1,2],[0,1,2,3],[],List.range 6,[],[],[7,8],[7,8,9],[7,8,9,10],[7,8,9,10,11],[],[7,8,9,10,11,12,13],List.range 7,List.range 16]),(10,[[],[],[0,1],[0,1,2],[],[],[4,5],[4,5,6],[0,1,2,3],List.range 9])],[]⟩
def h56 : Hints := ⟨[(0,[1,2,4]),(1,[1,2,4,6]),(2,[1,2,4,6,12]),(3,[4,5]),(4,[1,2,4,15,16]),(5,[1,2,4,15,16,17]),(6,[1,2,4,7,15,16]),(7,[1,2,4,7,15,16,24]),(8,[1,2,4,15,16]),(9,[1,2,4,15,16]),(10,[4,5])],[(0,[1,2,4,15,16])],[],[]⟩
def h57 : Hints := ⟨[(0,[1,2,4]),(1,[1,2,4,7]),(2,[1,2,4,7,20]),(3,[4,5,6]),(4,[1,2,4,8,9]),(5,[1,2,4,5,8,9]),(6,[2,4,5,8,9,29]),(7,[2,4,5,8,9,10,31]),(8,[2,4,5,8,9,10,11]),(9,[2,4,5,8,9,10,11,40]),(10,[2,4,5,8,9]),(11,[2,4,5,8,9]),(12,[2,4,5,9]),(13,[2,4,5,9,49,50,51]),(14,[2,4,5,9,49,50,51,52]),(15,[2,4,5,9,13,49,50,51]),(16,[2,4,5,9,13,49,50,51,56,57,58]),(17,[2,4,5,9,13,49,50,51,56,57,58,59]),(18,[2,4,5,9,13,14,15,49,50,51,56,57,58]),(19,[2,4,5,9,13,14,49,50,51,56,57,58,75]),(20,[2,4,5,9,49,50,51]),(21,[2,4,5,9,13,49,50,51,56,57,58]),(22,[2,4,5,9,49,50,51]),(23,[4,5,6])],[(0,[2,4,5,8,9]),(2,[2,4,5,9,49,50,51]),(4,[2,4,5,9,13,49,50,51,56,57,58])],[],[]⟩
def h58 : Hints := ⟨[(0,[]),(1,[1]),(2,[2,3,4]),(3,[2,3,4,5,6]),(4,[0])],[],[],[]⟩
def h61 : Hints := ⟨[(0,[0,1,2,6]),(1,[2,6,8]),(2,[2,6,8,18]),(3,[6,7,8]),(4,[2,6,26]),(5,[6,7,8]),(6,[2,6,29,30]),(7,[2,6,29,30,31]),(8,[2,6,9,29,30]),(9,[2,6,29,30,46]),(10,[6,7,8]),(11,[2,6,29,30]),(12,[6,7,10]),(13,[6,7,56]),(14,[6,7,8]),(15,[6,7,8])],[(0,[2,6,29,30])],[(9,[[],[0],[0,1],[0,1,2],[0,1,2],List.range 5,List.range 6,[0,1,2],[0,1,2],[0,1,2,8],[0,1,2,7,8,9],[0,1,2,7,8,9,10],List.range 12,List.range 13])],[]⟩
def h62 : Hints := ⟨[(0,[0,2]),(1,[2,5,6,7]),(2,[2,5,6,7,8]),(3,[2,4,5,6,7]),(4,[2,5,6,7]),(5,[2,5,6,7]),(6,[2])],[(0,[2,5,6,7])],[],[]⟩
def h63 : Hints := ⟨[(0,[2,3,4]),(1,[6])],[],[],[]⟩
def h64 : Hints := ⟨[(0,[1]),(1,[2])],[],[],[]⟩
def h65 : Hints := ⟨[(0,[0,1,4]),(1,[0,1,4,13,14]),(2,[0,1,4,13,14,15]),(3,[0,1,4,7,13,14]),(4,[0,1,4,8,13,14]),(5,[0,1,4,8,13,14,20]),(6,[4,5]),(7,[0,1,4,13,14]),(8,[4]),(9,[4,36]),(10,[4,5]),(11,[4,39,40,41]),(12,[4,39,40,41,42]),(13,[4,9,10,39,40,41]),(14,[4,39,40,41]),(15,[4,39,40,41]),(16,[4,5])],[(0,[0,1,4,13,14]),(2,[4,39,40,41])],[(14,[[],[0],[],[],[3],[],[3,4,5],[3,4,5,6],[2,3,4,5,6,7],[2,3,4,5,6,7,8],List.range 10,List.range 11,List.range 12])],[]⟩
def h66 : Hints := ⟨[(0,[1,2]),(1,[4])],[],[],[]⟩
def h67 : Hints := ⟨[(0,[1,2,3]),(1,[6]),(2,[6,8]),(3,[6,8,24,25,26]),(4,[6,8,24,25,26,27]),(5,[6,8,9,10,24,25,26]),(6,[6,8,9,10,11,24,25,26]),(7,[6,8,24,25,26]),(8,[6,8,24,25,26]),(9,[6,7])],[(0,[6,8,24,25,26])],[(7,[[],[],[],[],[],[3,4],[2,3,4,5],List.range 7,List.range 8])],[]⟩
def h68 : Hints := ⟨[(0,[1]),(1,[1,3]),(2,[2]),(3,[1,9]),(4,[2]),(5,[1,14]),(6,[2]),(7,[19]),(8,[2]),(9,[2])],[],[],[]⟩
def h69 : Hints := ⟨[(0,[1]),(1,[1,3]),(2,[2]),(3,[1,9]),(4,[2]),(5,[1,14]),(6,[2]),(7,[19]),(8,[2]),(9,[2])],[],[(7,[[],[0],[0,1],[0,1,2],[],[4],List.range 6,List.range 7,List.range 8])],[]⟩
def h76 : Hints := ⟨[(0,[0,1]),(1,[4])],[],[],[]⟩
def h78 : Hints := ⟨[(0,[2,3,4]),(1,[6])],[],[],[]⟩
def h91 : Hints := ⟨[(0,[1,2,3,6]),(1,[1,2,3,6,8]),(2,[1,2,3,6,8,11]),(3,[6,7]),(4,[1,2,3,6,8,17]),(5,[1,2,3,6,8,17]),(6,[6,7]),(7,[1,2,3,6,8,25]),(8,[1,2,3,6,25]),(9,[6,7]),(10,[1,2,3,6,34,35]),(11,[1,2,3,6,34,35,36]),(12,[1,2,3,6,9,34,35]),(13,[1,2,3,6,34,35,51]),(14,[6,7]),(15,[1,2,3,6,34,35]),(16,[6,7])],[(1,[1,2,3,6,34,35])],[(13,[[],[0],[0,1],[0,1,2],[0,1,2],List.range 5,List.range 6,[0,1,2],[0,1,2],[0,1,2,8],[0,1,2,7,8,9],[0,1,2,7,8,9,10],List.range 12,List.range 13])],[]⟩
def h92 : Hints := ⟨[(0,[1]),(1,[1,3]),(2,[1,3,4]),(3,[1,3,4,17]),(4,[1,3,4]),(5,[1,3,4,5]),(6,[1,3,4,5,22,23,24]),(7,[1,3,4,5,22,23,24,25]),(8,[1,3,4,5,6,7,22,23,24]),(9,[1,3,4,5,6,7,22,23,24,33]),(10,[1,3,4,5,7,8,22,23,24]),(11,[1,3,4,5,8,22,23,24]),(12,[1,3,4,5,8,22,23,24,62]),(13,[1,3,4,5,22,23,24]),(14,[1,3,4,5,22,23,24]),(15,[1,3,4]),(16,[2])],[(0,[1,3,4]),(2,[1,3,4,5,22,23,24])],[(10,[[],[],[],[],[],[4],[3,4,5],[2,3,4,5,6],[2,3,4,5,6,7],[2,3,4,5,6,7,8],[],[1,2,3,4,5,6,7,8,9,10],List.range 12,[],List.range 14])],[]⟩
def h93 : Hints := ⟨[(0,[0]),(1,[2])],[],[],[]⟩
def h94 : Hints := ⟨[(0,[0,1]),(1,[4])],[],[],[]⟩
def h100 : Hints := ⟨[(0,[1,2]),(1,[1,2,4]),(2,[1,2,4,9]),(3,[2,3]),(4,[1,2,4,15]),(5,[2,3]),(6,[2,4,21]),(7,[2,3]),(8,[2,3])],[],[],[]⟩
def h101 : Hints := ⟨[(0,[2,3,4]),(1,[6])],[],[],[]⟩
def h109 : Hints := ⟨[(0,[1,2]),(1,[1,2,5]),(2,[1,2,5,9]),(3,[4]),(4,[1,2,11]),(5,[4]),(6,[18]),(7,[4]),(8,[4])],[],[],[]⟩
def h110 : Hints := ⟨[(0,[1,2]),(1,[1,2,5]),(2,[4])],[],[(2,[[],[0],[0,1],[0,1,2],[0,1,2,3],List.range 5,[0,1,2],List.range 7,List.range 8,[0,1,2],[0,1,2,9],[0,1,2,9,10],[0,1,2],[0,1,2,9,10,11,12],[0,1,2,9,10,11,12,13],List.range 15,List.range 16,List.range 17])],[]⟩
def h111 : Hints := ⟨[(0,[0]),(1,[0,4]),(2,[2]),(3,[2])],[],[],[]⟩
def h112 : Hints := ⟨[(0,[1]),(1,[2])],[],[],[]⟩
def h113 : Hints := ⟨[(0,[0,2,3]),(1,[0,2,3,9]),(2,[0,2,3]),(3,[0,2,3])],[(0,[0,2,3])],[(3,[[],[],[],[],[],[],[4,5],[4,5,6],[],[],[8,9],[8,9,10],[0,1,4,5,6,7,8,9,10,11],[0,1,4,5,6,7,8,9,10,11,12],List.range 14,List.range 15])],[]⟩
def h114 : Hints := ⟨[(0,[0,2]),(1,[0,2,4]),(2,[0,2,4,14]),(3,[2,3]),(4,[2,5]),(5,[2,5,6]),(6,[2,5,6,7,8]),(7,[2,6,7,8,23,24,25]),(8,[2,6,7,8,23,24,25,26]),(9,[2,6,7,8,9,10,23,24,25]),(10,[2,6,7,8,10,23,24,25,44]),(11,[2,6,7,8,23,24,25]),(12,[2,6,7,8,23,24,25]),(13,[2,3])],[(0,[2,6,7,8,23,24,25])],[(11,[[],[],[1],[1,2],[0,1,2,3],[],[5],[],List.range 5,[0,1,2,3,4,5,6,8],List.range 10])],[]⟩
def h119 : Hints := ⟨[(0,[1,2,4]),(1,[1,2,4,6]),(2,[2,4,6,11,12,13]),(3,[2,4,6,11,12,13,14]),(4,[2,4,6,8,11,12,13]),(5,[2,4,8,9,10,11,12,13]),(6,[2,4,8,9,11,12,13,25]),(7,[4,5]),(8,[2,4,8,11,12,13]),(9,[2,4,6,11,12,13]),(10,[2,4,6,11,12,13]),(11,[4,5])],[(0,[2,4,6,11,12,13])],[],[]⟩
def h120 : Hints := ⟨[(0,[0,1,2]),(1,[4])],[],[],[]⟩
def h121 : Hints := ⟨[(0,[0]),(1,[0,3]),(2,[2]),(3,[0,7]),(4,[2]),(5,[0,11]),(6,[2]),(7,[14]),(8,[2]),(9,[2])],[],[],[]⟩
def h122 : Hints := ⟨[(0,[0,2]),(1,[2,5,6,7]),(2,[2,5,6,7,8]),(3,[2,4,5,6,7]),(4,[2,4,5,6,7,12,13]),(5,[2,4,5,6,7,12,13,14]),(6,[2,4,5,6,7,12,13]),(7,[2,4,5,6,7,12,13]),(8,[2,5,6,7]),(9,[2])],[(0,[2,5,6,7]),(2,[2,4,5,6,7,12,13])],[],[]⟩
def h123 : Hints := ⟨[(0,[2,3,4]),(1,[4])],[],[],[]⟩
def h124 : Hints := ⟨[(0,[0]),(1,[0,3]),(2,[3,8,9,10]),(3,[3,8,9,10,11]),(4,[3,4,5,8,9,10]),(5,[3,8,9,10]),(6,[3,8,9,10]),(7,[2])],[(0,[3,8,9,10])],[(5,[[],[],[],[1,2],[1,2,3],[],[1,2,3,4,5],[1,2,3,4,5,6],List.range 8,List.range 9])],[]⟩
def h125 : Hints := ⟨[(0,[2,3,4]),(1,[4])],[],[],[]⟩
def h126 : Hints := ⟨[(0,[1,2]),(1,[4])],[],[],[]⟩
def h127 : Hints := ⟨[(0,[2,3,4]),(1,[6])],[],[],[]⟩
def h132 : Hints := ⟨[(0,[0,1]),(1,[0,1,7,8]),(2,[0,1,7,8,9]),(3,[0,1,5,7,8]),(4,[0,1,5,7,8,16]),(5,[4]),(6,[0,1,7,8]),(7,[4])],[(0,[0,1,7,8])],[],[]⟩
def h133 : Hints := ⟨[(0,[0,1,2]),(1,[4])],[],[],[]⟩
def h147 : Hints := ⟨[(0,[1,2]),(1,[3])],[],[],[]⟩
def h148 : Hints := ⟨[(0,[0,1]),(1,[4])],[],[],[]⟩
def h149 : Hints := ⟨[(0,[1,3,5]),(1,[3,5,7]),(2,[3,5,7]),(3,[3,5,7]),(4,[3,5,7,8]),(5,[3,5,7,8,30,31,32]),(6,[3,5,7,8,30,31,32,33]),(7,[3,5,7,8,10,30,31,32]),(8,[3,5,7,8,10,30,31,32,46]),(9,[3,5,7,8,30,31,32]),(10,[3,5,7,8,30,31,32]),(11,[3,5,7,8,50]),(12,[6]),(13,[3,5,7])],[(0,[3,5,7]),(2,[3,5,7,8,30,31,32])],[(3,[[],[],[1],[],[3],[1,2,3,4],[],[],[7],[6,7,8],[1,2,3,4,5,6,7,8,9],[],[11],[1,2,3,4,5,6,7,8,9,10,11,12],List.range 14,List.range 15])],[]⟩
def h151 : Hints := ⟨[(0,[1,2]),(1,[1,5]),(2,[4])],[],[],[]⟩
def h152 : Hints := ⟨[(0,[0,1,2]),(1,[4])],[],[],[]⟩
def h158 : Hints := ⟨[(0,[2,3,4]),(1,[6])],[],[],[]⟩
def h159 : Hints := ⟨[(0,[0,1,3]),(1,[0,1,3,8]),(2,[0,1,3]),(3,[0,1,3,18])],[(0,[0,1,3])],[],[]⟩
def h160 : Hints := ⟨[(0,[0]),(1,[0,3]),(2,[2]),(3,[7]),(4,[2]),(5,[2])],[],[],[]⟩
def h161 : Hints := ⟨[(0,[0,2]),(1,[2,5,6,7]),(2,[2,5,6,7,8]),(3,[2,3,4,5,6,7]),(4,[2,3,4,5,6,7,13]),(5,[2,5,6,7]),(6,[2,5,6,7]),(7,[2])],[(0,[2,5,6,7])],[],[]⟩
def h162 : Hints := ⟨[(0,[2,3]),(1,[2,3,5]),(2,[2,3,5,13]),(3,[2,3,5,6,15]),(4,[2,3,5,6,7]),(5,[2,3,5,6,7]),(6,[2,3,5,6,7,8]),(7,[2,3,5,6,7,8,24]),(8,[2,3,5,6,7,8]),(9,[2,3,5,6,7,8,33]),(10,[2,3,5,6,7,8]),(11,[4])],[(0,[2,3,5]),(2,[2,3,5,6,7,8])],[(9,[[],[],[],[],[2,3],[2,3,4],List.range 6]),(10,[[],[],[],[],[2,3],[2,3,4],[],[],[6,7],[6,7,8],[6,7,8,9],[2,3,4,5,6,7,8,9,10],List.range 12,List.range 13])],[]⟩
def h163 : Hints := ⟨[(0,[2,3]),(1,[4])],[],[],[]⟩
def h164 : Hints := ⟨[(0,[0]),(1,[2])],[],[],[]⟩
def h166 : Hints := ⟨[(0,[0,1]),(1,[4])],[],[],[]⟩
def h167 : Hints := ⟨[(0,[1]),(1,[2])],[],[],[]⟩
def h168 : Hints := ⟨[(0,[1]),(1,[2])],[],[],[]⟩
def h169 : Hints := ⟨[(0,[2,3,4]),(1,[4])],[],[],[]⟩
def h170 : Hints := ⟨[(0,[0,1,2]),(1,[4])],[],[],[]⟩
def h185 : Hints := ⟨[(0,[0,1]),(1,[0,1,7,8]),(2,[0,1,7,8,9]),(3,[0,1,5,7,8]),(4,[0,1,5,7,8,16]),(5,[4]),(6,[0,1,7,8]),(7,[4])],[(0,[0,1,7,8])],[],[]⟩
def h186 : Hints := ⟨[(0,[1,2]),(1,[3])],[],[],[]⟩
def h187 : Hints := ⟨[(0,[0,1]),(1,[4])],[],[],[]⟩
def h190 : Hints := ⟨[(0,[0,1,2]),(1,[4])],[],[],[]⟩
def h191 : Hints := ⟨[(0,[1]),(1,[2])],[],[],[]⟩
def h192 : Hints := ⟨[(0,[0]),(1,[0,7]),(2,[0]),(3,[0,3]),(4,[0,3,4]),(5,[0,3,4,15]),(6,[0,3,4]),(7,[0,3,4]),(8,[2])],[(0,[0,3,4])],[],[]⟩
def h193 : Hints := ⟨[(0,[0,1]),(1,[0,1,7,8]),(2,[0,1,7,8,9]),(3,[0,1,5,7,8]),(4,[0,1,5,7,8,16]),(5,[4]),(6,[0,1,7,8]),(7,[4])],[(0,[0,1,7,8])],[],[]⟩
def h196 : Hints := ⟨[(0,[0,1]),(1,[0,1,7,8]),(2,[0,1,7,8,9]),(3,[0,1,5,7,8]),(4,[0,1,5,7,8,16]),(5,[4]),(6,[0,1,7,8]),(7,[4])],[(0,[0,1,7,8])],[],[]⟩
def h199 : Hints := ⟨[(0,[0,1,3]),(1,[0,1,3,8]),(2,[0,1,3]),(3,[0,1,3,18])],[(0,[0,1,3])],[],[]⟩
def F : Nat → Option AFn
  | 8 => some a8
  | 9 => some a9
  | 10 => some a10
  | 16 => some a16
  | 18 => some a18
  | 19 => some a19
  | 20 => some a20
  | 21 => some a21
  | 22 => some a22
  | 23 => some a23
  | 24 => some a24
  | 25 => some a25
  | 26 => some a26
  | 40 => some a40
  | 47 => some a47
  | 53 => some a53
  | 54 => some a54
  | 55 => some a55
  | 56 => some a56
  | 57 => some a57
  | 58 => some a58
  | 61 => some a61
  | 62 => some a62
  | 63 => some a63
  | 64 => some a64
  | 65 => some a65
  | 66 => some a66
  | 67 => some a67
  | 68 => some a68
  | 69 => some a69
  | 70 => some a70
  | 76 => some a76
  | 78 => some a78
  | 91 => some a91
  | 92 => some a92
  | 93 => some a93
  | 94 => some a94
  | 100 => some a100
  | 101 => some a101
  | 109 => some a109
  | 110 => some a110
  | 111 => some a111
  | 112 => some a112
  | 113 => some a113
  | 114 => some a114
  | 119 => some a119
  | 120 => some a120
  | 121 => some a121
  | 122 => some a122
  | 123 => some a123
  | 124 => some a124
  | 125 => some a125
  | 126 => some a126
  | 127 => some a127
  | 132 => some a132
  | 133 => some a133
  | 147 => some a147
  | 148 => some a148
  | 149 => some a149
  | 151 => some a151
  | 152 => some a152
  | 158 => some a158
  | 159 => some a159
  | 160 => some a160
  | 161 => some a161
  | 162 => some a162
  | 163 => some a163
  | 164 => some a164
  | 166 => some a166
  | 167 => some a167
  | 168 => some a168
  | 169 => some a169
  | 170 => some a170
  | 185 => some a185
  | 186 => some a186
  | 187 => some a187
  | 190 => some a190
  | 191 => some a191
  | 192 => some a192
  | 193 => some a193
  | 196 => some a196
  | 199 => some a199
  | _ => none
theorem c8 : compFn Try.prog bor h8 Try.f8 = some a8 := by kernel_rfl
theorem c9 : compFn Try.prog bor h9 Try.f9 = some a9 := by kernel_rfl
theorem c10 : compFn Try.prog bor h10 Try.f10 = some a10 := by kernel_rfl
theorem c16 : compFn Try.prog bor h16 Try.f16 = some a16 := by kernel_rfl
theorem c18 : compFn Try.prog bor h18 Try.f18 = some a18 := by kernel_rfl
theorem c19 : compFn Try.prog bor h19 Try.f19 = some a19 := by kernel_rfl
theorem c20 : compFn Try.prog bor h20 Try.f20 = some a20 := by kernel_rfl
theorem c21 : compFn Try.prog bor h21 Try.f21 = some a21 := by kernel_rfl
theorem c22 : compFn Try.prog bor h22 Try.f22 = some a22 := by kernel_rfl
theorem c23 : compFn Try.prog bor h23 Try.f23 = some a23 := by kernel_rfl
theorem c24 : compFn Try.prog bor h24 Try.f24 = some a24 := by kernel_rfl
theorem c25 : compFn Try.prog bor h25 Try.f25 = some a25 := by kernel_rfl
theorem c26 : compFn Try.prog bor h26 Try.f26 = some a26 := by kernel_rfl
theorem c40 : compFn Try.prog bor h40 Try.f40 = some a40 := by kernel_rfl
theorem c47 : compFn Try.prog bor h47 Try.f47 = some a47 := by kernel_rfl
theorem c53 : compFn Try.prog bor h53 Try.f53 = some a53 := by kernel_rfl
theorem c54 : compFn Try.prog bor h54 Try.f54 = some a54 := by kernel_rfl
theorem c55 : compFn Try.prog bor h55 Try.f55 = some a55 := by kernel_rfl
theorem c56 : compFn Try.prog bor h56 Try.f56 = some a56 := by kernel_rfl
theorem c57 : compFn Try.prog bor h57 Try.f57 = some a57 := by kernel_rfl
theorem c58 : compFn Try.prog bor h58 Try.f58 = some a58 := by kernel_rfl
theorem c61 : compFn Try.prog bor h61 Try.f61 = some a61 := by kernel_rfl
theorem c62 : compFn Try.prog bor h62 Try.f62 = some a62 := by kernel_rfl
theorem c63 : compFn Try.prog bor h63 Try.f63 = some a63 := by kernel_rfl
theorem c64 : compFn Try.prog bor h64 Try.f64 = some a64 := by kernel_rfl
theorem c65 : compFn Try.prog bor h65 Try.f65 = some a65 := by kernel_rfl
theorem c66 : compFn Try.prog bor h66 Try.f66 = some a66 := by kernel_rfl
theorem c67 : compFn Try.prog bor h67 Try.f67 = some a67 := by kernel_rfl
theorem c68 : compFn Try.prog bor h68 Try.f68 = some a68 := by kernel_rfl
theorem c69 : compFn Try.prog bor h69 Try.f69 = some a69 := by kernel_rfl
theorem c76 : compFn Try.prog bor h76 Try.f76 = some a76 := by kernel_rfl
theorem c78 : compFn Try.prog bor h78 Try.f78 = some a78 := by kernel_rfl
theorem c91 : compFn Try.prog bor h91 Try.f91 = some a91 := by kernel_rfl
theorem c92 : compFn Try.prog bor h92 Try.f92 = some a92 := by kernel_rfl
theorem c93 : compFn Try.prog bor h93 Try.f93 = some a93 := by kernel_rfl
theorem c94 : compFn Try.prog bor h94 Try.f94 = some a94 := by kernel_rfl
theorem c100 : compFn Try.prog bor h100 Try.f100 = some a100 := by kernel_rfl
theorem c101 : compFn Try.prog bor h101 Try.f101 = some a101 := by kernel_rfl
theorem c109 : compFn Try.prog bor h109 Try.f109 = some a109 := by kernel_rfl
theorem c110 : compFn Try.prog bor h110 Try.f110 = some a110 := by kernel_rfl
theorem c111 : compFn Try.prog bor h111 Try.f111 = some a111 := by kernel_rfl
theorem c112 : compFn Try.prog bor h112 Try.f112 = some a112 := by kernel_rfl
theorem c113 : compFn Try.prog bor h113 Try.f113 = some a113 := by kernel_rfl
theorem c114 : compFn Try.prog bor h114 Try.f114 = some a114 := by kernel_rfl
theorem c119 : compFn Try.prog bor h119 Try.f119 = some a119 := by kernel_rfl
theorem c120 : compFn Try.prog bor h120 Try.f120 = some a120 := by kernel_rfl
theorem c121 : compFn Try.prog bor h121 Try.f121 = some a121 := by kernel_rfl
theorem c122 : compFn Try.prog bor h122 Try.f122 = some a122 := by kernel_rfl
theorem c123 : compFn Try.prog bor h123 Try.f123 = some a123 := by kernel_rfl
theorem c124 : compFn Try.prog bor h124 Try.f124 = some a124 := by kernel_rfl
theorem c125 : compFn Try.prog bor h125 Try.f125 = some a125 := by kernel_rfl
theorem c126 : compFn Try.prog bor h126 Try.f126 = some a126 := by kernel_rfl
theorem c127 : compFn Try.prog bor h127 Try.f127 = some a127 := by kernel_rfl
theorem c132 : compFn Try.prog bor h132 Try.f132 = some a132 := by kernel_rfl
theorem c133 : compFn Try.prog bor h133 Try.f133 = some a133 := by kernel_rfl
theorem c147 : compFn Try.prog bor h147 Try.f147 = some a147 := by kernel_rfl
theorem c148 : compFn Try.prog bor h148 Try.f148 = some a148 := by kernel_rfl
theorem c149 : compFn Try.prog bor h149 Try.f149 = some a149 := by kernel_rfl
theorem c151 : compFn Try.prog bor h151 Try.f151 = some a151 := by kernel_rfl
theorem c152 : compFn Try.prog bor h152 Try.f152 = some a152 := by kernel_rfl
theorem c158 : compFn Try.prog bor h158 Try.f158 = some a158 := by kernel_rfl
theorem c159 : compFn Try.prog bor h159 Try.f159 = some a159 := by kernel_rfl
theorem c160 : compFn Try.prog bor h160 Try.f160 = some a160 := by kernel_rfl
theorem c161 : compFn Try.prog bor h161 Try.f161 = some a161 := by kernel_rfl
theorem c162 : compFn Try.prog bor h162 Try.f162 = some a162 := by kernel_rfl
theorem c163 : compFn Try.prog bor h163 Try.f163 = some a163 := by kernel_rfl
theorem c164 : compFn Try.prog bor h164 Try.f164 = some a164 := by kernel_rfl
theorem c166 : compFn Try.prog bor h166 Try.f166 = some a166 := by kernel_rfl
theorem c167 : compFn Try.prog bor h167 Try.f167 = some a167 := by kernel_rfl
theorem c168 : compFn Try.prog bor h168 Try.f168 = some a168 := by kernel_rfl
theorem c169 : compFn Try.prog bor h169 Try.f169 = some a169 := by kernel_rfl
theorem c170 : compFn Try.prog bor h170 Try.f170 = some a170 := by kernel_rfl
theorem c185 : compFn Try.prog bor h185 Try.f185 = some a185 := by kernel_rfl
theorem c186 : compFn Try.prog bor h186 Try.f186 = some a186 := by kernel_rfl
theorem c187 : compFn Try.prog bor h187 Try.f187 = some a187 := by kernel_rfl
theorem c190 : compFn Try.prog bor h190 Try.f190 = some a190 := by kernel_rfl
theorem c191 : compFn Try.prog bor h191 Try.f191 = some a191 := by kernel_rfl
theorem c192 : compFn Try.prog bor h192 Try.f192 = some a192 := by kernel_rfl
theorem c193 : compFn Try.prog bor h193 Try.f193 = some a193 := by kernel_rfl
theorem c196 : compFn Try.prog bor h196 Try.f196 = some a196 := by kernel_rfl
theorem c199 : compFn Try.prog bor h199 Try.f199 = some a199 := by kernel_rfl
theorem F_ok (f : Nat) (afn : AFn) (h : F f = some afn) : (∃ fn hh,Try.prog.funcs[f]? = some fn ∧ compFn Try.prog bor hh fn = some afn) ∨ f = 70 ∧ afn = a70 := by
  unfold F at h
  split at h
  · cases h; exact .inl ⟨_,_,Try.func8,c8⟩
  · cases h; exact .inl ⟨_,_,Try.func9,c9⟩
  · cases h; exact .inl ⟨_,_,Try.func10,c10⟩
  · cases h; exact .inl ⟨_,_,Try.func16,c16⟩
  · cases h; exact .inl ⟨_,_,Try.func18,c18⟩
  · cases h; exact .inl ⟨_,_,Try.func19,c19⟩
  · cases h; exact .inl ⟨_,_,Try.func20,c20⟩
  · cases h; exact .inl ⟨_,_,Try.func21,c21⟩
  · cases h; exact .inl ⟨_,_,Try.func22,c22⟩
  · cases h; exact .inl ⟨_,_,Try.func23,c23⟩
  · cases h; exact .inl ⟨_,_,Try.func24,c24⟩
  · cases h; exact .inl ⟨_,_,Try.func25,c25⟩
  · cases h; exact .inl ⟨_,_,Try.func26,c26⟩
  · cases h; exact .inl ⟨_,_,Try.func40,c40⟩
  · cases h; exact .inl ⟨_,_,Try.func47,c47⟩
  · cases h; exact .inl ⟨_,_,Try.func53,c53⟩
  · cases h; exact .inl ⟨_,_,Try.func54,c54⟩
  · cases h; exact .inl ⟨_,_,Try.func55,c55⟩
  · cases h; exact .inl ⟨_,_,Try.func56,c56⟩
  · cases h; exact .inl ⟨_,_,Try.func57,c57⟩
  · cases h; exact .inl ⟨_,_,Try.func58,c58⟩
  · cases h; exact .inl ⟨_,_,Try.func61,c61⟩
  · cases h; exact .inl ⟨_,_,Try.func62,c62⟩
  · cases h; exact .inl ⟨_,_,Try.func63,c63⟩
  · cases h; exact .inl ⟨_,_,Try.func64,c64⟩
  · cases h; exact .inl ⟨_,_,Try.func65,c65⟩
  · cases h; exact .inl ⟨_,_,Try.func66,c66⟩
  · cases h; exact .inl ⟨_,_,Try.func67,c67⟩
  · cases h; exact .inl ⟨_,_,Try.func68,c68⟩
  · cases h; exact .inl ⟨_,_,Try.func69,c69⟩
  · cases h; simp
  · cases h; exact .inl ⟨_,_,Try.func76,c76⟩
  · cases h; exact .inl ⟨_,_,Try.func78,c78⟩
  · cases h; exact .inl ⟨_,_,Try.func91,c91⟩
  · cases h; exact .inl ⟨_,_,Try.func92,c92⟩
  · cases h; exact .inl ⟨_,_,Try.func93,c93⟩
  · cases h; exact .inl ⟨_,_,Try.func94,c94⟩
  · cases h; exact .inl ⟨_,_,Try.func100,c100⟩
  · cases h; exact .inl ⟨_,_,Try.func101,c101⟩
  · cases h; exact .inl ⟨_,_,Try.func109,c109⟩
  · cases h; exact .inl ⟨_,_,Try.func110,c110⟩
  · cases h; exact .inl ⟨_,_,Try.func111,c111⟩
  · cases h; exact .inl ⟨_,_,Try.func112,c112⟩
  · cases h; exact .inl ⟨_,_,Try.func113,c113⟩
  · cases h; exact .inl ⟨_,_,Try.func114,c114⟩
  · cases h; exact .inl ⟨_,_,Try.func119,c119⟩
  · cases h; exact .inl ⟨_,_,Try.func120,c120⟩
  · cases h; exact .inl ⟨_,_,Try.func121,c121⟩
  · cases h; exact .inl ⟨_,_,Try.func122,c122⟩
  · cases h; exact .inl ⟨_,_,Try.func123,c123⟩
  · cases h; exact .inl ⟨_,_,Try.func124,c124⟩
  · cases h; exact .inl ⟨_,_,Try.func125,c125⟩
  · cases h; exact .inl ⟨_,_,Try.func126,c126⟩
  · cases h; exact .inl ⟨_,_,Try.func127,c127⟩
  · cases h; exact .inl ⟨_,_,Try.func132,c132⟩
  · cases h; exact .inl ⟨_,_,Try.func133,c133⟩
  · cases h; exact .inl ⟨_,_,Try.func147,c147⟩
  · cases h; exact .inl ⟨_,_,Try.func148,c148⟩
  · cases h; exact .inl ⟨_,_,Try.func149,c149⟩
  · cases h; exact .inl ⟨_,_,Try.func151,c151⟩
  · cases h; exact .inl ⟨_,_,Try.func152,c152⟩
  · cases h; exact .inl ⟨_,_,Try.func158,c158⟩
  · cases h; exact .inl ⟨_,_,Try.func159,c159⟩
  · cases h; exact .inl ⟨_,_,Try.func160,c160⟩
  · cases h; exact .inl ⟨_,_,Try.func161,c161⟩
  · cases h; exact .inl ⟨_,_,Try.func162,c162⟩
  · cases h; exact .inl ⟨_,_,Try.func163,c163⟩
  · cases h; exact .inl ⟨_,_,Try.func164,c164⟩
  · cases h; exact .inl ⟨_,_,Try.func166,c166⟩
  · cases h; exact .inl ⟨_,_,Try.func167,c167⟩
  · cases h; exact .inl ⟨_,_,Try.func168,c168⟩
  · cases h; exact .inl ⟨_,_,Try.func169,c169⟩
  · cases h; exact .inl ⟨_,_,Try.func170,c170⟩
  · cases h; exact .inl ⟨_,_,Try.func185,c185⟩
  · cases h; exact .inl ⟨_,_,Try.func186,c186⟩
  · cases h; exact .inl ⟨_,_,Try.func187,c187⟩
  · cases h; exact .inl ⟨_,_,Try.func190,c190⟩
  · cases h; exact .inl ⟨_,_,Try.func191,c191⟩
  · cases h; exact .inl ⟨_,_,Try.func192,c192⟩
  · cases h; exact .inl ⟨_,_,Try.func193,c193⟩
  · cases h; exact .inl ⟨_,_,Try.func196,c196⟩
  · cases h; exact .inl ⟨_,_,Try.func199,c199⟩
  · cases h
end Go.Abs
