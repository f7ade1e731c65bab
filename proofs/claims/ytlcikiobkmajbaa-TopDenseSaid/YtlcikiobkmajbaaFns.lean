/-
  The functions of this seat are what the compile step gives: proved by the kernel.
-/
import Derived.Test.YtlcikiobkmajbaaProg
import Derived.Test.YtlcikiobkmajbaaComp
import Derived.Test.YtlcikiobkmajbaaFnsA
import Derived.Test.YtlcikiobkmajbaaFnsB
import Derived.KernelRfl
set_option linter.all false
set_option maxRecDepth 100000
set_option maxHeartbeats 0
namespace Go.Abs
open Go.Proofs
def bor : Nat → List Nat
  | 40 => [2]
  | 156 => [1]
  | 175 => [3000]
  | 1000093 => [5]
  | _ => []

def h6 : Hints:=⟨[(0,[2,3,4]),(1,[2,3,7,8]),(2,[2,7,8]),(3,[2,7,8,9]),(4,[2,7,8,9]),(5,[7,8,9,10]),(6,[7,8,9,10,11,12]),(7,[7,8,9,10,11,12,13,14]),(8,[8,9,10,11,12,13,14,15,16]),(9,[8,11,12,13,14,15,16,17,18]),(10,[8,11,13,15,17,115]),(11,[6]),(12,[8,13,15,17,21,22]),(13,[8,13,17,21,22,25,26]),(14,[21,22,25,26,29,30]),(15,[6])],[],[(1,[[],[0],[],[0,1,2],[],[],List.range 6,List.range 7])],[]⟩
def h8 : Hints:=⟨[(0,[1,2]),(1,[2])],[],[],[]⟩
def h9 : Hints:=⟨[(0,[1,2]),(1,[1,2,6]),(2,[1,2,6,11]),(3,[4,5]),(4,[1,2,16]),(5,[4,5]),(6,[1,7]),(7,[4,5])],[],[],[]⟩
def h10 : Hints:=⟨[(0,[1,2]),(1,[1,2]),(2,[2])],[],[],[]⟩
def h14 : Hints:=⟨[(0,[0,1,4]),(1,[4])],[],[],[]⟩
def h15 : Hints:=⟨[(0,[2,3]),(1,[2,3,6]),(2,[2,3,6,11]),(3,[4,5]),(4,[2,3,16]),(5,[4,5]),(6,[7]),(7,[7,20]),(8,[4,5]),(9,[4,5])],[],[],[]⟩
def h17 : Hints:=⟨[(0,[]),(1,[1]),(2,[1,2,3]),(3,[2,3,4,5]),(4,[2,3,4,5,6,7]),(5,[0])],[],[],[]⟩
def h25 : Hints:=⟨[(0,[0,1,4]),(1,[1,4,5]),(2,[1,4,5,6]),(3,[1,4,5,6,24]),(4,[1,4,5,6]),(5,[1,4,5,6,7]),(6,[1,4,5,6,7,30]),(7,[1,4,5,6,7]),(8,[1,4,5,6]),(9,[4])],[(0,[1,4,5,6])],[(7,[[],[],[0,1],[0,1,2],[0,1,2,3],[],[5],[5,6],[5,6,7],List.range 9,List.range 10])],[]⟩
def h29 : Hints:=⟨[(0,[1,2]),(1,[2])],[],[],[]⟩
def h30 : Hints:=⟨[(0,[2,3]),(1,[3,7,8]),(2,[3,7,8,16]),(3,[4,5,6,7]),(4,[3,4,8]),(5,[4,5,6,7])],[],[(5,[[],[],[],[],[3],[1,2,3,4],[],[],[],[8],[1,2,3,4,5,6,7,8,9],List.range 11,List.range 12,List.range 13,List.range 14])],[]⟩
def h31 : Hints:=⟨[(0,[1,2]),(1,[1,2]),(2,[2])],[],[(1,[[],[],[1],[0,1,2],[],[],[5],List.range 7,[0,1,2,3,5,6],List.range 9,List.range 10,List.range 11])],[]⟩
def h32 : Hints:=⟨[(0,[]),(1,[1]),(2,[4,5]),(3,[4,5,6,7]),(4,[4,5,6,7,8,9]),(5,[0])],[],[],[]⟩
def h33 : Hints:=⟨[(0,[1]),(1,[1,3]),(2,[1,3,4]),(3,[2]),(4,[1,3,9]),(5,[1,3,9]),(6,[1,3,9]),(7,[9]),(8,[2]),(9,[2])],[],[],[]⟩
def h34 : Hints:=⟨[(0,[0]),(1,[2])],[],[],[]⟩
def h35 : Hints:=⟨[(0,[1,2]),(1,[1,2,3]),(2,[2,3,16,17,18]),(3,[2,3,16,17,18,19]),(4,[2,3,5,16,17,18]),(5,[2,3,5,16,17,18]),(6,[2,3,16,17,18]),(7,[2,3,16,17,18]),(8,[2])],[(0,[2,3,16,17,18])],[],[]⟩
def h41 : Hints:=⟨[(0,[1]),(1,[24]),(2,[2]),(3,[2])],[],[],[]⟩
def h42 : Hints:=⟨[(0,[0,1]),(1,[1,5,6]),(2,[1,5,6,11]),(3,[1,5,6,7]),(4,[1,5,6,7,21]),(5,[1,5,6]),(6,[1,5,6]),(7,[4])],[(0,[1,5,6])],[],[]⟩
def h43 : Hints:=⟨[(0,[0,1,2]),(1,[4])],[],[(1,[[],[0],[],[0,1,2],[],List.range 5,List.range 6])],[]⟩
def h44 : Hints:=⟨[(0,[1,2]),(1,[2])],[],[],[]⟩
def h45 : Hints:=⟨[(0,[1,2]),(1,[2,5]),(2,[4])],[],[],[]⟩
def h47 : Hints:=⟨[(0,[1,2]),(1,[1,2,4]),(2,[1,2,4,8]),(3,[2,3]),(4,[2,3])],[],[],[]⟩
def h49 : Hints:=⟨[(0,[0,1]),(1,[0,1,10]),(2,[4]),(3,[0,1,5]),(4,[0,1,5,14]),(5,[0,1,5]),(6,[0,1,5,25]),(7,[4]),(8,[4])],[(0,[0,1,5])],[(6,[[],[],[0,1],[0,1,2],[],[],[4,5],[4,5,6],List.range 8])],[]⟩
def h64 : Hints:=⟨[(0,[2,3,4]),(1,[2,3,4,6]),(2,[2,3,4,6,10]),(3,[4,5]),(4,[4,5])],[],[(4,[[],[0],[],[2],[],[2,3,4],List.range 6,List.range 7])],[]⟩
def h65 : Hints:=⟨[(0,[2,3]),(1,[2,3,5]),(2,[2,3,5,9,10,11]),(3,[2,3,5,9,10,11,12]),(4,[2,3,5,7,9,10,11]),(5,[2,3,5,9,10,11]),(6,[2,3,5,9,10,11]),(7,[4])],[(0,[2,3,5,9,10,11])],[(7,[[],[0],[],[],[3],[2,3,4],List.range 6,[],List.range 8,List.range 9,List.range 10])],[]⟩
def h66 : Hints:=⟨[(0,[1,2,3]),(1,[6])],[],[],[]⟩
def h67 : Hints:=⟨[(0,[2,3,4]),(1,[2,3,7]),(2,[6])],[],[],[]⟩
def h68 : Hints:=⟨[(0,[2,3,4]),(1,[2,3,4,6]),(2,[2,3,4,6,15,16,17]),(3,[2,3,4,6,15,16,17,18]),(4,[2,3,4,6,8,15,16,17]),(5,[2,3,4,6,15,16,17]),(6,[2,3,4,6,15,16,17]),(7,[2,3,4,6,27]),(8,[4,5]),(9,[2,3,4,6,32]),(10,[4,5]),(11,[2,3,4,6,36]),(12,[2,3,4,6,36]),(13,[4,5]),(14,[2,3,4,6,9,10]),(15,[2,3,4,6,9,10,46,47,48]),(16,[2,3,4,6,9,10,46,47,48,49]),(17,[2,3,4,6,9,10,11,12,46,47,48]),(18,[2,3,4,6,9,10,11,46,47,48]),(19,[2,3,4,6,9,10,46,47,48]),(20,[2,3,4,6,9,10,46,47,48]),(21,[4,9,10]),(22,[4,77,78,79]),(23,[4,77,78,79,80]),(24,[4,14,77,78,79]),(25,[4,77,78,79]),(26,[4,77,78,79]),(27,[4,5])],[(0,[2,3,4,6,15,16,17]),(3,[2,3,4,6,9,10,46,47,48]),(5,[4,77,78,79])],[(14,[[],[],[1],[1,2],[0],List.range 5])],[]⟩
def h69 : Hints:=⟨[(0,[1,2]),(1,[2,3,4]),(2,[2,3,4,20]),(3,[2,3]),(4,[2,4,5,6,7,8]),(5,[2,4,5,6,7,8,9,10]),(6,[2,4,5,6,7,8,9,10,11,12]),(7,[2,4,5,6,7,8,9,10,11,12,13]),(8,[2,13]),(9,[2,4,5,6,7,8,9,10,11,12,13,40]),(10,[2,3]),(11,[2,4,5,6,7,8,9,10,11,12,13,56]),(12,[2]),(13,[2,13]),(14,[2,4,5,6,7,8,9,10,11,12,13,103]),(15,[2,13]),(16,[2,4,6,7,8,10,11,12,13,136]),(17,[2,13]),(18,[2,4,7,169]),(19,[2]),(20,[2,13]),(21,[2,192]),(22,[2,3]),(23,[2,3])],[],[(11,[[],[0],[0,1],[0,1,2],[0,1,2,3],List.range 5,List.range 6,List.range 7,List.range 8,List.range 9,List.range 10,List.range 11,List.range 12,List.range 13,List.range 14,List.range 15,List.range 15,List.range 17,List.range 18,List.range 15,List.range 15,[0,1,2,3,4,5,6,7,8,9,10,11,12,13,14,19,20],[0,1,2,3,4,5,6,7,8,9,10,11,12,13,14,19,20,21],List.range 23,List.range 24,List.range 25]),(12,[[],[],[],[2],[2,3],[],[2,3,4,5],[2,3,4,5,6],[],[2,3,4,5,6,7,8],[2,3,4,5,6,7,8,9],[],[],[11,12],[11,12,13],[2,3,4,5,6,7,8,9,10,11,12,13,14],List.range 16,List.range 17]),(15,[[],[],[1],[1,2],[],[1,2,3,4],[1,2,3,4,5],[],[],[7,8],[7,8,9],[1,2,3,4,5,6,7,8,9,10],List.range 12,List.range 13]),(17,[[],[],[1],[1,2],[],[1,2,3,4],[1,2,3,4,5],[],[],[7,8],[7,8,9],[1,2,3,4,5,6,7,8,9,10],List.range 12,List.range 13])],[]⟩
def h70 : Hints:=⟨[(0,[1]),(1,[2])],[],[],[]⟩
def h71 : Hints:=⟨[(0,[0]),(1,[2])],[],[],[]⟩
def h72 : Hints:=⟨[(0,[2,3,4]),(1,[6])],[],[],[]⟩
def h73 : Hints:=⟨[(0,[0,1]),(1,[4])],[],[],[]⟩
def h74 : Hints:=⟨[(0,[1,2]),(1,[1,2,3,4]),(2,[1,2,3,4,12]),(3,[1,2,3,4]),(4,[2])],[(0,[1,2,3,4])],[(1,[[],[0],[0,1],[],[3],[3,4],[0,1,2],List.range 7]),(3,[[],[],[],[1,2],[0,1],List.range 5]),(4,[[],[0],[0,1],[],[0,1,2,3],[],[5],[5,6],[],[5,6,7,8],List.range 10,List.range 11,List.range 12])],[]⟩
def h82 : Hints:=⟨[(0,[1,2,3]),(1,[6])],[],[],[]⟩
def h87 : Hints:=⟨[(0,[0,1]),(1,[4])],[],[],[]⟩
def h100 : Hints:=⟨[(0,[1]),(1,[1,3]),(2,[1,3]),(3,[2]),(4,[1,12]),(5,[1,12]),(6,[1,12]),(7,[12]),(8,[2]),(9,[2])],[],[],[]⟩
def h101 : Hints:=⟨[(0,[2,3]),(1,[2,3,5]),(2,[2,3,5]),(3,[2,3,5]),(4,[2,3,5]),(5,[4]),(6,[3,26]),(7,[4]),(8,[36]),(9,[4]),(10,[4])],[],[],[]⟩
def h102 : Hints:=⟨[(0,[1,2]),(1,[2,5,6]),(2,[2,5,16]),(3,[2,5]),(4,[4])],[],[],[]⟩
def h103 : Hints:=⟨[(0,[2,3,4]),(1,[6])],[],[],[]⟩
def h104 : Hints:=⟨[(0,[])],[],[],[]⟩
def h105 : Hints:=⟨[(0,List.range 5),(1,[7])],[],[(1,[[],[],[],[1,2],[1,2,3],List.range 5,[],List.range 7,[],[],[],[9,10],[9,10,11],[8,9,10,11,12],[],[8,9,10,11,12,13,14],List.range 16,List.range 17])],[]⟩
def h106 : Hints:=⟨[(0,[0,1]),(1,[0,1,5]),(2,[0,1,5,6]),(3,[0,1,6,11]),(4,[12]),(5,[4]),(6,[4]),(7,[0,1,13]),(8,[4]),(9,[0,1,16]),(10,[4]),(11,[19]),(12,[4]),(13,[4])],[],[],[]⟩
def h107 : Hints:=⟨[(0,[1,2]),(1,[2,4,5]),(2,[2,4,5,18]),(3,[2,4,5]),(4,[2,3])],[],[],[]⟩
def h108 : Hints:=⟨[(0,[1,2,3]),(1,[1,2,3,12,13,14]),(2,[1,2,3,12,13,14,15]),(3,[1,2,3,6,7,12,13,14]),(4,[1,2,3,12,13,14]),(5,[1,2,3,12,13,14]),(6,[1,2,3,34,35,36]),(7,[1,2,3,34,35,36,37]),(8,[1,2,3,8,9,34,35,36]),(9,[1,2,3,34,35,36]),(10,[1,2,3,34,35,36]),(11,[2,3,4,5])],[(0,[1,2,3,12,13,14]),(2,[1,2,3,34,35,36])],[(4,[[],[],[1],[],[3],[3,4],[],[3,4,5,6],[3,4,5,6,7],[1,2,3,4,5,6,7,8],[1,2,3,4,5,6,7,8,9],List.range 11,List.range 12]),(11,[[],[],[],[2],[2,3],[2,3,4],[],[6],[6,7],[2,3,4,5,6,7,8],[],[10],[10,11],[2,3,4,5,10,11,12],[],[14],[14,15],[2,3,4,5,10,11,12,13,14,15,16],[0,2,3,4,5,10,11,12,13],[0,1,2,3,4,5,10,11,12,13,18],[0,1,2,3,4,5,6,7,8,9,10,11,12,13,18,19],List.range 21])],[]⟩
def h109 : Hints:=⟨[(0,[0,2,3]),(1,[2,3,6,7,8]),(2,[2,3,6,7,8,9]),(3,[2,3,4,5,6,7,8]),(4,[2,3,4,6,7,8,14]),(5,[2,3,6,7,8]),(6,[2,3,6,7,8]),(7,[2,3,6,7,8]),(8,[2,3])],[(0,[2,3,6,7,8])],[],[]⟩
def h110 : Hints:=⟨[(0,[0]),(1,[2])],[],[],[]⟩
def h111 : Hints:=⟨[(0,[0,1,2]),(1,[4])],[],[],[]⟩
def h112 : Hints:=⟨[(0,[0,1]),(1,[0,1,7,8]),(2,[0,1,7,8,9]),(3,[0,1,5,7,8]),(4,[0,1,5,7,8,16]),(5,[4]),(6,[0,1,7,8]),(7,[4])],[(0,[0,1,7,8])],[],[]⟩
def h119 : Hints:=⟨[(0,[0,1]),(1,[0,1,7,8]),(2,[0,1,7,8,9]),(3,[0,1,5,7,8]),(4,[0,1,5,7,8,16]),(5,[4]),(6,[0,1,7,8]),(7,[4])],[(0,[0,1,7,8])],[],[]⟩
def h133 : Hints:=⟨[(0,[1]),(1,[1,3,4]),(2,[1,3,4,9,10,11]),(3,[1,3,4,9,10,11,12]),(4,[1,3,4,6,9,10,11]),(5,[1,6,9,10,11,28]),(6,[2]),(7,[1,3,4,9,10,11]),(8,[1,3,4,9,10,11]),(9,[2])],[(0,[1,3,4,9,10,11])],[],[]⟩
def h134 : Hints:=⟨[(0,[0]),(1,[2])],[],[],[]⟩
def h135 : Hints:=⟨[(0,[0]),(1,[2])],[],[],[]⟩
def h136 : Hints:=⟨[(0,[0,1,2]),(1,[0,1,2,8]),(2,[0,1,2,8,9,10]),(3,[0,1,2,8,9,10,17]),(4,[0,1,2,8,9,10,11]),(5,[0,1,2,8,9,10,11,31]),(6,[0,1,2,8,9,10]),(7,[0,1,2,8,9,10]),(8,[6,7])],[(0,[0,1,2,8,9,10])],[],[]⟩
def h137 : Hints:=⟨[(0,[1,2]),(1,[4])],[],[],[]⟩
def h138 : Hints:=⟨[(0,[0,1,2]),(1,[4])],[],[],[]⟩
def h139 : Hints:=⟨[(0,[0,1,2,6]),(1,[0,1,2,6,7,8]),(2,[0,1,2,6,7,8,13]),(3,[0,1,2,6,8]),(4,[0,1,2,6,7,8]),(5,[0,1,2,6,7,8]),(6,[0,1,2,6]),(7,[0,1,2,6,30]),(8,[0,1,2,6,7,8]),(9,[0,1,2,6,7,8,35]),(10,[0,1,2,6,8]),(11,[0,1,2,6,7,8]),(12,[0,1,2,6,7,8]),(13,[0,1,2,6,7,9]),(14,[0,1,2,6,7,9,54]),(15,[0,1,2,6]),(16,[0,1,2,6])],[(0,[0,1,2,6,7,8]),(2,[0,1,2,6]),(4,[0,1,2,6,7,8])],[],[]⟩
def h140 : Hints:=⟨[(0,[0]),(1,[2])],[],[],[]⟩
def h141 : Hints:=⟨[(0,[1,2]),(1,[2,4]),(2,[2,4,7]),(3,[2,3]),(4,[2,4,11]),(5,[2,3]),(6,[2,4,16]),(7,[2,4,16]),(8,[2,4,16]),(9,[2,4,16]),(10,[2,3]),(11,[2,4,40]),(12,[2,3]),(13,[2,3])],[],[],[]⟩
def h142 : Hints:=⟨[(0,[1,2]),(1,[2,9,10,11]),(2,[2,9,10,11,12]),(3,[2,3,4,9,10,11]),(4,[2,3,9,10,11,16,17,18]),(5,[2,3,9,10,11,16,17,18,19]),(6,[2,3,5,6,9,10,11,16,17,18]),(7,[2,3,5,9,10,11,16,17,18,24]),(8,[2,3,9,10,11,16,17,18]),(9,[2,3,9,10,11,16,17,18]),(10,[2,9,10,11]),(11,[2])],[(0,[2,9,10,11]),(2,[2,3,9,10,11,16,17,18])],[],[]⟩
def h143 : Hints:=⟨[(0,[0,2]),(1,[2,5,6,7]),(2,[2,5,6,7,8]),(3,[2,4,5,6,7]),(4,[2,5,6,7]),(5,[2,5,6,7]),(6,[2])],[(0,[2,5,6,7])],[],[]⟩
def h144 : Hints:=⟨[(0,[1,2,4]),(1,[1,4,9,10,11]),(2,[1,4,9,10,11,12]),(3,[1,4,6,9,10,11]),(4,[1,4,9,10,11]),(5,[1,4,9,10,11]),(6,[4])],[(0,[1,4,9,10,11])],[],[]⟩
def h157 : Hints:=⟨[(0,[0]),(1,[0,3]),(2,[0,3,8]),(3,[0,3]),(4,[0,3,20]),(5,[2]),(6,[2])],[(0,[0,3])],[(4,[[],[],[0,1],[0,1,2],[],[],[5],[4,5,6],[4,5,6,7],List.range 9])],[]⟩
def h158 : Hints:=⟨[(0,[0]),(1,[0,8]),(2,[2]),(3,[0,3]),(4,[0,3,13]),(5,[0,3]),(6,[0,3,25]),(7,[0,3,4]),(8,[0,3,4,5]),(9,[0,3,4,5,32]),(10,[0,3,4,5]),(11,[0,3,4,5,44]),(12,[0,3,4,5]),(13,[0,3,4,5]),(14,[0,3]),(15,[2]),(16,[2])],[(0,[0,3]),(2,[0,3,4,5])],[(6,[[],[],[0,1],[0,1,2],[],[],[5],[4,5,6],[4,5,6,7],List.range 9]),(11,[[],[],[0,1],[0,1,2],[],[],[5],[4,5,6],[4,5,6,7],List.range 9])],[]⟩
def h159 : Hints:=⟨[(0,[0]),(1,[0,4]),(2,[2]),(3,[2])],[],[],[]⟩
def h160 : Hints:=⟨[(0,[0,1,2,3,8]),(1,[0,1,2,3,8,14]),(2,[0,1,2,3,8]),(3,[0,1,2,3,8,9]),(4,[0,1,2,3,8,9,34]),(5,[0,1,2,3,8,9]),(6,[0,1,2,3,8,9])],[(0,[0,1,2,3,8]),(2,[0,1,2,3,8,9])],[(4,[[],[],[0,1],[0,1,2],[0,1,2,3],[0,1,2,3],[0,1,2,3],[0,1,2,3,5,6],[0,1,2,3,5,6,7],[0,1,2,3],[0,1,2,3],[0,1,2,3,10],[0,1,2,3,9,10,11],[0,1,2,3,9,10,11,12],List.range 14,List.range 15,List.range 16]),(6,[[],[],[],[],[3],[],[],[6],[5,6,7],[5,6,7,8],[],[],[10,11],[10,11,12],[0,1,5,6,7,8,9,10,11,12,13],[0,1,5,6,7,8,9,10,11,12,13,14],List.range 16,List.range 17])],[]⟩
def h161 : Hints:=⟨[(0,[0,1,2,3,4,28]),(1,[0,1,3,4,10]),(2,[0,1,4,10,11]),(3,[0,1,4,10,11,33]),(4,[0,1,4,10,11,12]),(5,[0,1,4,10,11,12,50]),(6,[0,1,4,10,11]),(7,[0,1,4,10,11]),(8,[0,10,13]),(9,[0,10,13,58]),(10,[0,10,13]),(11,[0,10,13]),(12,[0,1,2,3,4,80]),(13,[0,2,4,14]),(14,[0,2,4,14,15]),(15,[0,2,4,14,15,85]),(16,[0,2,4,14,15,16]),(17,[0,2,4,14,15,16,103]),(18,[0,2,4,14,15]),(19,[0,2,4,14,15]),(20,[0,14,17]),(21,[0,14,17,110]),(22,[0,14,17]),(23,[0,14,17]),(24,[0,1,2,3,4,18]),(25,[0,1,2,3,4,18,19]),(26,[0,1,2,3,4,18,19]),(27,[0,1,2,3,4,18,19,140]),(28,[0,1,2,3,4,18,19,20]),(29,[0,1,2,3,4,18,19,20,21]),(30,[0,1,2,3,4,18,19,20]),(31,[0,1,2,3,4,18,19,20,21]),(32,[0,1,2,3,4,18,19,20,21,22]),(33,[0,1,2,3,4,18,19,20,21,22,151]),(34,[0,1,2,3,4,18,19,20,21,22,23]),(35,[0,1,2,3,4,18,19,20,21,22,23,171]),(36,[0,1,2,3,4,18,19,20,21,22]),(37,[0,1,2,3,4,18,19,20,21,22]),(38,[0,1,2,3,4,18,20,24]),(39,[0,1,2,3,4,18,20,24,185]),(40,[0,1,3,4,18,20,24]),(41,[0,1,3,4,18,20,24,199]),(42,[0,3,4,18,24]),(43,[0,3,4,18,24,213]),(44,[])],[(0,[0,1,4,10,11]),(2,[0,10,13]),(4,[0,2,4,14,15]),(6,[0,14,17]),(8,[0,1,2,3,4,18,19,20,21,22])],[(5,[[],[],[],[1,2],[1,2,3],[],[],[5,6],[5,6,7],List.range 9,List.range 10]),(11,[[],[],[],[],[3],[],[],[6],[5,6,7],[5,6,7,8],[],[],[10,11],[10,11,12],[0,1,5,6,7,8,9,10,11,12,13],[0,1,5,6,7,8,9,10,11,12,13,14],List.range 16,List.range 17]),(17,[[],[],[],[1,2],[1,2,3],[],[],[5,6],[5,6,7],List.range 9,List.range 10,List.range 11]),(23,[[],[],[],[],[3],[],[],[6],[5,6,7],[5,6,7,8],[],[],[10,11],[10,11,12],[0,1,5,6,7,8,9,10,11,12,13],[0,1,5,6,7,8,9,10,11,12,13,14],List.range 16,List.range 17]),(35,[[],[],[],[],[2,3],[1,2,3,4],[1,2,3,4,5],[],[],[7,8],[7,8,9],List.range 11,List.range 12,List.range 13])],[]⟩
def h162 : Hints:=⟨[(0,[1]),(1,[2])],[],[],[]⟩
def h163 : Hints:=⟨[(0,[1]),(1,[1,40]),(2,[2]),(3,[2])],[],[(1,[[],[0],[0,1],[0,1,2],[0,1,2,3],List.range 5,List.range 6,List.range 7,List.range 8,List.range 9,List.range 10,List.range 11,List.range 12,List.range 13,List.range 14,List.range 15,List.range 16,List.range 17,List.range 18,List.range 15,[0,1,2,3,4,5,6,7,8,9,10,11,12,13,14,19],[0,1,2,3,4,5,6,7,8,9,10,11,12,13,14,19,20],[0,1,2,3,4,5,6,7,8,9,10,11,12,13,14,19,20,21],List.range 23,List.range 24,List.range 25,List.range 26,List.range 27,List.range 28,List.range 29,List.range 26,[0,1,2,3,4,5,6,7,8,9,10,11,12,13,14,15,16,17,18,19,20,21,22,23,24,25,30],[0,1,2,3,4,5,6,7,8,9,10,11,12,13,14,15,16,17,18,19,20,21,22,23,24,25,30,31],[0,1,2,3,4,5,6,7,8,9,10,11,12,13,14,15,16,17,18,19,20,21,22,23,24,25,30,31,32],[0,1,2,3,4,5,6,7,8,9,10,11,12,13,14,15,16,17,18,19,20,21,22,23,24,25,30,31,32,33],[0,1,2,3,4,5,6,7,8,9,10,11,12,13,14,15,16,17,18,19,20,21,22,23,24,25,30,31,32,33,34],List.range 36,List.range 37])],[]⟩
def h164 : Hints:=⟨[(0,[0]),(1,[2])],[],[],[]⟩
def h165 : Hints:=⟨[(0,[0]),(1,[0,3]),(2,[0,3,9,10,11]),(3,[0,3,9,10,11,12]),(4,[0,3,5,9,10,11]),(5,[0,3,9,10,11]),(6,[0,3,9,10,11,20]),(7,[0,3,9,10,11]),(8,[0,3,9,10,11]),(9,[0,6]),(10,[6,25,26,27]),(11,[6,25,26,27,28]),(12,[6,8,25,26,27]),(13,[6,25,26,27]),(14,[6,25,26,27]),(15,[2])],[(0,[0,3,9,10,11]),(2,[6,25,26,27])],[],[]⟩
def h170 : Hints:=⟨[(0,[0,1]),(1,[4])],[],[],[]⟩
def h171 : Hints:=⟨[(0,[0,2,3,4,10]),(1,[0,2,4,10,11]),(2,[0,2,4,10,11,20]),(3,[0,2,4,10,11,23]),(4,[0,2,4,10,11]),(5,[0,2,4,10,11]),(6,[0,2,4,10,11]),(7,[0,2,4,10,11]),(8,[])],[(0,[0,2,4,10,11])],[],[]⟩
def h172 : Hints:=⟨[(0,[0,1]),(1,[4])],[],[],[]⟩
def h173 : Hints:=⟨[(0,[0]),(1,[2])],[],[],[]⟩
def h174 : Hints:=⟨[(0,[0,1]),(1,[3])],[],[],[]⟩
def h175 : Hints:=⟨[(0,[0,1]),(1,[0,1,6]),(2,[0,1]),(3,[0,1]),(4,[0,1,16]),(5,[0]),(6,[4])],[],[],[]⟩
def h176 : Hints:=⟨[(0,[0,1,2,3,10]),(1,[0,1,2,3,10,13]),(2,[0,1,2,3,10]),(3,[0,1,2,3,10])],[(0,[0,1,2,3,10])],[(3,[[],[],[],[1,2],[],[],[],[5,6],[],[],[],[9,10],[8,9,10,11],[8,9,10,11,12],[],[],[],[15,16],[14,15,16,17],[14,15,16,17,18],[0,1,2,3,8,9,10,11,12,13,14,15,16,17,18,19],[0,1,2,3,8,9,10,11,12,13,14,15,16,17,18,19,20],List.range 22,List.range 23])],[]⟩
def h177 : Hints:=⟨[(0,[0,1]),(1,[0,1,7,8]),(2,[0,1,7,8,9]),(3,[0,1,5,7,8]),(4,[0,1,5,7,8,16]),(5,[4]),(6,[0,1,7,8]),(7,[4])],[(0,[0,1,7,8])],[],[]⟩
def F : Nat → Option AFn
  | 6 => some a6
  | 8 => some a8
  | 9 => some a9
  | 10 => some a10
  | 14 => some a14
  | 15 => some a15
  | 17 => some a17
  | 25 => some a25
  | 29 => some a29
  | 30 => some a30
  | 31 => some a31
  | 32 => some a32
  | 33 => some a33
  | 34 => some a34
  | 35 => some a35
  | 41 => some a41
  | 42 => some a42
  | 43 => some a43
  | 44 => some a44
  | 45 => some a45
  | 47 => some a47
  | 49 => some a49
  | 64 => some a64
  | 65 => some a65
  | 66 => some a66
  | 67 => some a67
  | 68 => some a68
  | 69 => some a69
  | 70 => some a70
  | 71 => some a71
  | 72 => some a72
  | 73 => some a73
  | 74 => some a74
  | 82 => some a82
  | 87 => some a87
  | 100 => some a100
  | 101 => some a101
  | 102 => some a102
  | 103 => some a103
  | 104 => some a104
  | 105 => some a105
  | 106 => some a106
  | 107 => some a107
  | 108 => some a108
  | 109 => some a109
  | 110 => some a110
  | 111 => some a111
  | 112 => some a112
  | 119 => some a119
  | 133 => some a133
  | 134 => some a134
  | 135 => some a135
  | 136 => some a136
  | 137 => some a137
  | 138 => some a138
  | 139 => some a139
  | 140 => some a140
  | 141 => some a141
  | 142 => some a142
  | 143 => some a143
  | 144 => some a144
  | 157 => some a157
  | 158 => some a158
  | 159 => some a159
  | 160 => some a160
  | 161 => some a161
  | 162 => some a162
  | 163 => some a163
  | 164 => some a164
  | 165 => some a165
  | 170 => some a170
  | 171 => some a171
  | 172 => some a172
  | 173 => some a173
  | 174 => some a174
  | 175 => some a175
  | 176 => some a176
  | 177 => some a177
  | _ => none
theorem c6 : compFn Try.prog bor h6 Try.f6 = some a6:=by kernel_rfl
theorem c8 : compFn Try.prog bor h8 Try.f8 = some a8:=by kernel_rfl
theorem c9 : compFn Try.prog bor h9 Try.f9 = some a9:=by kernel_rfl
theorem c10 : compFn Try.prog bor h10 Try.f10 = some a10:=by kernel_rfl
theorem c14 : compFn Try.prog bor h14 Try.f14 = some a14:=by kernel_rfl
theorem c15 : compFn Try.prog bor h15 Try.f15 = some a15:=by kernel_rfl
theorem c17 : compFn Try.prog bor h17 Try.f17 = some a17:=by kernel_rfl
theorem c25 : compFn Try.prog bor h25 Try.f25 = some a25:=by kernel_rfl
theorem c29 : compFn Try.prog bor h29 Try.f29 = some a29:=by kernel_rfl
theorem c30 : compFn Try.prog bor h30 Try.f30 = some a30:=by kernel_rfl
theorem c31 : compFn Try.prog bor h31 Try.f31 = some a31:=by kernel_rfl
theorem c32 : compFn Try.prog bor h32 Try.f32 = some a32:=by kernel_rfl
theorem c33 : compFn Try.prog bor h33 Try.f33 = some a33:=by kernel_rfl
theorem c34 : compFn Try.prog bor h34 Try.f34 = some a34:=by kernel_rfl
theorem c35 : compFn Try.prog bor h35 Try.f35 = some a35:=by kernel_rfl
theorem c41 : compFn Try.prog bor h41 Try.f41 = some a41:=by kernel_rfl
theorem c42 : compFn Try.prog bor h42 Try.f42 = some a42:=by kernel_rfl
theorem c43 : compFn Try.prog bor h43 Try.f43 = some a43:=by kernel_rfl
theorem c44 : compFn Try.prog bor h44 Try.f44 = some a44:=by kernel_rfl
theorem c45 : compFn Try.prog bor h45 Try.f45 = some a45:=by kernel_rfl
theorem c47 : compFn Try.prog bor h47 Try.f47 = some a47:=by kernel_rfl
theorem c49 : compFn Try.prog bor h49 Try.f49 = some a49:=by kernel_rfl
theorem c64 : compFn Try.prog bor h64 Try.f64 = some a64:=by kernel_rfl
theorem c65 : compFn Try.prog bor h65 Try.f65 = some a65:=by kernel_rfl
theorem c66 : compFn Try.prog bor h66 Try.f66 = some a66:=by kernel_rfl
theorem c67 : compFn Try.prog bor h67 Try.f67 = some a67:=by kernel_rfl
theorem c68 : compFn Try.prog bor h68 Try.f68 = some a68:=by kernel_rfl
theorem c69 : compFn Try.prog bor h69 Try.f69 = some a69:=by kernel_rfl
theorem c70 : compFn Try.prog bor h70 Try.f70 = some a70:=by kernel_rfl
theorem c71 : compFn Try.prog bor h71 Try.f71 = some a71:=by kernel_rfl
theorem c72 : compFn Try.prog bor h72 Try.f72 = some a72:=by kernel_rfl
theorem c73 : compFn Try.prog bor h73 Try.f73 = some a73:=by kernel_rfl
theorem c74 : compFn Try.prog bor h74 Try.f74 = some a74:=by kernel_rfl
theorem c82 : compFn Try.prog bor h82 Try.f82 = some a82:=by kernel_rfl
theorem c87 : compFn Try.prog bor h87 Try.f87 = some a87:=by kernel_rfl
theorem c100 : compFn Try.prog bor h100 Try.f100 = some a100:=by kernel_rfl
theorem c101 : compFn Try.prog bor h101 Try.f101 = some a101:=by kernel_rfl
theorem c102 : compFn Try.prog bor h102 Try.f102 = some a102:=by kernel_rfl
theorem c103 : compFn Try.prog bor h103 Try.f103 = some a103:=by kernel_rfl
theorem c104 : compFn Try.prog bor h104 Try.f104 = some a104:=by kernel_rfl
theorem c105 : compFn Try.prog bor h105 Try.f105 = some a105:=by kernel_rfl
theorem c106 : compFn Try.prog bor h106 Try.f106 = some a106:=by kernel_rfl
theorem c107 : compFn Try.prog bor h107 Try.f107 = some a107:=by kernel_rfl
theorem c108 : compFn Try.prog bor h108 Try.f108 = some a108:=by kernel_rfl
theorem c109 : compFn Try.prog bor h109 Try.f109 = some a109:=by kernel_rfl
theorem c110 : compFn Try.prog bor h110 Try.f110 = some a110:=by kernel_rfl
theorem c111 : compFn Try.prog bor h111 Try.f111 = some a111:=by kernel_rfl
theorem c112 : compFn Try.prog bor h112 Try.f112 = some a112:=by kernel_rfl
theorem c119 : compFn Try.prog bor h119 Try.f119 = some a119:=by kernel_rfl
theorem c133 : compFn Try.prog bor h133 Try.f133 = some a133:=by kernel_rfl
theorem c134 : compFn Try.prog bor h134 Try.f134 = some a134:=by kernel_rfl
theorem c135 : compFn Try.prog bor h135 Try.f135 = some a135:=by kernel_rfl
theorem c136 : compFn Try.prog bor h136 Try.f136 = some a136:=by kernel_rfl
theorem c137 : compFn Try.prog bor h137 Try.f137 = some a137:=by kernel_rfl
theorem c138 : compFn Try.prog bor h138 Try.f138 = some a138:=by kernel_rfl
theorem c139 : compFn Try.prog bor h139 Try.f139 = some a139:=by kernel_rfl
theorem c140 : compFn Try.prog bor h140 Try.f140 = some a140:=by kernel_rfl
theorem c141 : compFn Try.prog bor h141 Try.f141 = some a141:=by kernel_rfl
theorem c142 : compFn Try.prog bor h142 Try.f142 = some a142:=by kernel_rfl
theorem c143 : compFn Try.prog bor h143 Try.f143 = some a143:=by kernel_rfl
theorem c144 : compFn Try.prog bor h144 Try.f144 = some a144:=by kernel_rfl
theorem c157 : compFn Try.prog bor h157 Try.f157 = some a157:=by kernel_rfl
theorem c158 : compFn Try.prog bor h158 Try.f158 = some a158:=by kernel_rfl
theorem c159 : compFn Try.prog bor h159 Try.f159 = some a159:=by kernel_rfl
theorem c160 : compFn Try.prog bor h160 Try.f160 = some a160:=by kernel_rfl
theorem c161 : compFn Try.prog bor h161 Try.f161 = some a161:=by kernel_rfl
theorem c162 : compFn Try.prog bor h162 Try.f162 = some a162:=by kernel_rfl
theorem c163 : compFn Try.prog bor h163 Try.f163 = some a163:=by kernel_rfl
theorem c164 : compFn Try.prog bor h164 Try.f164 = some a164:=by kernel_rfl
theorem c165 : compFn Try.prog bor h165 Try.f165 = some a165:=by kernel_rfl
theorem c170 : compFn Try.prog bor h170 Try.f170 = some a170:=by kernel_rfl
theorem c171 : compFn Try.prog bor h171 Try.f171 = some a171:=by kernel_rfl
theorem c172 : compFn Try.prog bor h172 Try.f172 = some a172:=by kernel_rfl
theorem c173 : compFn Try.prog bor h173 Try.f173 = some a173:=by kernel_rfl
theorem c174 : compFn Try.prog bor h174 Try.f174 = some a174:=by kernel_rfl
theorem c175 : compFn Try.prog bor h175 Try.f175 = some a175:=by kernel_rfl
theorem c176 : compFn Try.prog bor h176 Try.f176 = some a176:=by kernel_rfl
theorem c177 : compFn Try.prog bor h177 Try.f177 = some a177:=by kernel_rfl
theorem F_ok (f : Nat) (afn : AFn) (h : F f = some afn) : ∃ fn hh,Try.prog.funcs[f]? = some fn∧compFn Try.prog bor hh fn = some afn:=by
  unfold F at h
  split at h
  · cases h; exact ⟨_,_,Try.func6,c6⟩
  · cases h; exact ⟨_,_,Try.func8,c8⟩
  · cases h; exact ⟨_,_,Try.func9,c9⟩
  · cases h; exact ⟨_,_,Try.func10,c10⟩
  · cases h; exact ⟨_,_,Try.func14,c14⟩
  · cases h; exact ⟨_,_,Try.func15,c15⟩
  · cases h; exact ⟨_,_,Try.func17,c17⟩
  · cases h; exact ⟨_,_,Try.func25,c25⟩
  · cases h; exact ⟨_,_,Try.func29,c29⟩
  · cases h; exact ⟨_,_,Try.func30,c30⟩
  · cases h; exact ⟨_,_,Try.func31,c31⟩
  · cases h; exact ⟨_,_,Try.func32,c32⟩
  · cases h; exact ⟨_,_,Try.func33,c33⟩
  · cases h; exact ⟨_,_,Try.func34,c34⟩
  · cases h; exact ⟨_,_,Try.func35,c35⟩
  · cases h; exact ⟨_,_,Try.func41,c41⟩
  · cases h; exact ⟨_,_,Try.func42,c42⟩
  · cases h; exact ⟨_,_,Try.func43,c43⟩
  · cases h; exact ⟨_,_,Try.func44,c44⟩
  · cases h; exact ⟨_,_,Try.func45,c45⟩
  · cases h; exact ⟨_,_,Try.func47,c47⟩
  · cases h; exact ⟨_,_,Try.func49,c49⟩
  · cases h; exact ⟨_,_,Try.func64,c64⟩
  · cases h; exact ⟨_,_,Try.func65,c65⟩
  · cases h; exact ⟨_,_,Try.func66,c66⟩
  · cases h; exact ⟨_,_,Try.func67,c67⟩
  · cases h; exact ⟨_,_,Try.func68,c68⟩
  · cases h; exact ⟨_,_,Try.func69,c69⟩
  · cases h; exact ⟨_,_,Try.func70,c70⟩
  · cases h; exact ⟨_,_,Try.func71,c71⟩
  · cases h; exact ⟨_,_,Try.func72,c72⟩
  · cases h; exact ⟨_,_,Try.func73,c73⟩
  · cases h; exact ⟨_,_,Try.func74,c74⟩
  · cases h; exact ⟨_,_,Try.func82,c82⟩
  · cases h; exact ⟨_,_,Try.func87,c87⟩
  · cases h; exact ⟨_,_,Try.func100,c100⟩
  · cases h; exact ⟨_,_,Try.func101,c101⟩
  · cases h; exact ⟨_,_,Try.func102,c102⟩
  · cases h; exact ⟨_,_,Try.func103,c103⟩
  · cases h; exact ⟨_,_,Try.func104,c104⟩
  · cases h; exact ⟨_,_,Try.func105,c105⟩
  · cases h; exact ⟨_,_,Try.func106,c106⟩
  · cases h; exact ⟨_,_,Try.func107,c107⟩
  · cases h; exact ⟨_,_,Try.func108,c108⟩
  · cases h; exact ⟨_,_,Try.func109,c109⟩
  · cases h; exact ⟨_,_,Try.func110,c110⟩
  · cases h; exact ⟨_,_,Try.func111,c111⟩
  · cases h; exact ⟨_,_,Try.func112,c112⟩
  · cases h; exact ⟨_,_,Try.func119,c119⟩
  · cases h; exact ⟨_,_,Try.func133,c133⟩
  · cases h; exact ⟨_,_,Try.func134,c134⟩
  · cases h; exact ⟨_,_,Try.func135,c135⟩
  · cases h; exact ⟨_,_,Try.func136,c136⟩
  · cases h; exact ⟨_,_,Try.func137,c137⟩
  · cases h; exact ⟨_,_,Try.func138,c138⟩
  · cases h; exact ⟨_,_,Try.func139,c139⟩
  · cases h; exact ⟨_,_,Try.func140,c140⟩
  · cases h; exact ⟨_,_,Try.func141,c141⟩
  · cases h; exact ⟨_,_,Try.func142,c142⟩
  · cases h; exact ⟨_,_,Try.func143,c143⟩
  · cases h; exact ⟨_,_,Try.func144,c144⟩
  · cases h; exact ⟨_,_,Try.func157,c157⟩
  · cases h; exact ⟨_,_,Try.func158,c158⟩
  · cases h; exact ⟨_,_,Try.func159,c159⟩
  · cases h; exact ⟨_,_,Try.func160,c160⟩
  · cases h; exact ⟨_,_,Try.func161,c161⟩
  · cases h; exact ⟨_,_,Try.func162,c162⟩
  · cases h; exact ⟨_,_,Try.func163,c163⟩
  · cases h; exact ⟨_,_,Try.func164,c164⟩
  · cases h; exact ⟨_,_,Try.func165,c165⟩
  · cases h; exact ⟨_,_,Try.func170,c170⟩
  · cases h; exact ⟨_,_,Try.func171,c171⟩
  · cases h; exact ⟨_,_,Try.func172,c172⟩
  · cases h; exact ⟨_,_,Try.func173,c173⟩
  · cases h; exact ⟨_,_,Try.func174,c174⟩
  · cases h; exact ⟨_,_,Try.func175,c175⟩
  · cases h; exact ⟨_,_,Try.func176,c176⟩
  · cases h; exact ⟨_,_,Try.func177,c177⟩
  · cases h
end Go.Abs
