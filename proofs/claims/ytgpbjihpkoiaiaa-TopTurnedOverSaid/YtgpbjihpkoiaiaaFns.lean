/-
  The functions of this seat are what the compile step gives: proved by the kernel.
-/
import Derived.Test.YtgpbjihpkoiaiaaProg
import Derived.Test.YtgpbjihpkoiaiaaComp
import Derived.Test.YtgpbjihpkoiaiaaFnsA
import Derived.Test.YtgpbjihpkoiaiaaFnsB
import Derived.KernelRfl
set_option linter.all false
set_option maxRecDepth 100000
set_option maxHeartbeats 0
namespace Go.Abs
open Go.Proofs
def bor : Nat → List Nat
  | 139 => [0]
  | 156 => [3000]
  | 174 => [3000]
  | 176 => [0]
  | 177 => [0]
  | 178 => [0]
  | 180 => [0]
  | _ => []

def h6 : Hints := ⟨[(0, [1]), (1, [3]), (2, [3, 4]), (3, [3, 4, 5, 6]), (4, [3, 4, 5, 6, 7, 9]), (5, [3, 4, 5, 6, 7, 9, 10, 11]), (6, [3, 4, 5, 6, 7, 9, 10, 11, 12, 13]), (7, [3, 4, 5, 7, 10, 12, 81]), (8, [2]), (9, [3, 4, 5, 7, 10, 12, 14]), (10, [3, 4, 5, 7, 10, 12, 14, 84]), (11, [3, 4, 5, 7, 10, 12, 14]), (12, [3, 4, 5, 7, 10, 12, 14]), (13, [3, 4, 7, 10, 12, 15, 17]), (14, [3, 4, 7, 10, 12, 15, 17, 18, 19]), (15, [3, 4, 7, 10, 12, 15, 17, 18, 19, 20, 21]), (16, [3, 4, 10, 15, 17, 18, 19, 20, 21, 22, 23]), (17, [3, 4, 18, 20, 22, 163]), (18, [2]), (19, [3, 4, 18, 20, 22, 24]), (20, [3, 4, 18, 20, 22, 24, 166]), (21, [3, 4, 18, 20, 22, 24]), (22, [3, 4, 18, 20, 22, 24, 196]), (23, [2]), (24, [3, 4, 18, 20, 22, 24, 25]), (25, [3, 4, 18, 20, 22, 24, 25, 200]), (26, [3, 4, 18, 20, 22, 24, 25]), (27, [3, 4, 18, 20, 22, 24, 25, 234]), (28, [2]), (29, [2])], [(0, [3, 4, 5, 7, 10, 12, 14]), (2, [3, 4, 18, 20, 22, 24]), (4, [3, 4, 18, 20, 22, 24, 25])], [(13, [[], [], [1], [0, 1, 2], [0, 1, 2, 3], List.range 5, List.range 5, List.range 5, List.range 6, [0, 1, 2, 3, 4, 5, 6, 8], List.range 10]), (14, [[], [0], [], [0, 1, 2], [0, 1, 2, 3], List.range 5, List.range 6, List.range 6, List.range 7, List.range 9]), (15, [[], [0], [], [2], [], [0, 1, 4], List.range 6, List.range 7, List.range 8, List.range 9, List.range 9, List.range 10, List.range 12]), (22, [[], [], [0, 1], [0, 1, 2], [0, 1, 2, 3], [], [5], List.range 7, List.range 8, List.range 9, List.range 9, List.range 11, List.range 12, List.range 13, List.range 9, [0, 1, 2, 3, 4, 5, 6, 7, 8, 14], List.range 16, List.range 17, List.range 18, List.range 19, List.range 19, List.range 21, List.range 22, List.range 23, List.range 19, [0, 1, 2, 3, 4, 5, 6, 7, 8, 9, 10, 11, 12, 13, 14, 15, 16, 17, 18, 24], List.range 26, List.range 27]), (27, [[], [], [0, 1], [0, 1, 2], [], List.range 5, [], [], [6, 7], [6, 7, 8], [], [10], [10, 11], [], [10, 11, 12, 13], [6, 7, 8, 9, 10, 11, 12, 13, 14], List.range 16, List.range 17, List.range 18, List.range 18, List.range 20, List.range 21, List.range 18, List.range 23, List.range 18, List.range 18, [0, 1, 2, 3, 4, 5, 6, 7, 8, 9, 10, 11, 12, 13, 14, 15, 16, 17, 24, 25], [0, 1, 2, 3, 4, 5, 6, 7, 8, 9, 10, 11, 12, 13, 14, 15, 16, 17, 24, 25, 26], List.range 18, [0, 1, 2, 3, 4, 5, 6, 7, 8, 9, 10, 11, 12, 13, 14, 15, 16, 17, 24, 25, 26, 27, 28], List.range 30, List.range 31])], []⟩
def h10 : Hints := ⟨[(0, [1, 2]), (1, [1, 2, 3]), (2, [1, 2, 3, 4]), (3, [1, 2, 3, 4, 24]), (4, [1, 2, 3, 4]), (5, [1, 2, 3, 4, 5]), (6, [1, 2, 3, 4, 5, 31]), (7, [1, 2, 3, 4, 5]), (8, [1, 2, 3, 4]), (9, [2])], [(0, [1, 2, 3, 4])], [], []⟩
def h14 : Hints := ⟨[(0, []), (1, [1, 3]), (2, [3, 4, 5]), (3, [0])], [], [], []⟩
def h21 : Hints := ⟨[(0, [0]), (1, [2])], [], [], []⟩
def h23 : Hints := ⟨[(0, [2, 3, 4]), (1, [2, 3, 4, 6]), (2, [2, 3, 4, 6, 13]), (3, [4, 5]), (4, [2, 3, 4, 7]), (5, [2, 3, 4, 7, 17]), (6, [4, 5]), (7, [2, 3, 4, 21]), (8, [4, 5]), (9, [2, 4, 28, 29, 30]), (10, [2, 4, 28, 29, 30, 31]), (11, [2, 4, 9, 28, 29, 30]), (12, [2, 4, 28, 29, 30]), (13, [2, 4, 28, 29, 30]), (14, [4, 5])], [(1, [2, 4, 28, 29, 30])], [], []⟩
def h24 : Hints := ⟨[(0, [1, 2]), (1, [2])], [], [(1, [[], [0], [], [2], [2, 3], List.range 5, List.range 6])], []⟩
def h25 : Hints := ⟨[(0, [1, 2]), (1, [2])], [], [(1, [[], [0], [], [2], [2, 3], List.range 5, List.range 6])], []⟩
def h26 : Hints := ⟨[(0, [0, 1]), (1, [0, 1, 10]), (2, [4]), (3, [0, 1, 5]), (4, [0, 1, 5, 14]), (5, [0, 1, 5]), (6, [0, 1, 5, 25]), (7, [4]), (8, [4])], [(0, [0, 1, 5])], [(6, [[], [], [0, 1], [0, 1, 2], [], [], [4, 5], [4, 5, 6], List.range 8])], []⟩
def h31 : Hints := ⟨[(0, [0, 1, 4]), (1, [0, 1, 4, 10]), (2, [4, 5, 6]), (3, [0, 1, 4, 16]), (4, [4, 5, 6]), (5, [0, 1, 4, 21]), (6, [4, 5, 6]), (7, [0, 1, 4, 7]), (8, [0, 4, 7, 26, 27, 28]), (9, [0, 4, 7, 26, 27, 28, 29]), (10, [0, 4, 7, 8, 9, 26, 27, 28]), (11, [0, 4, 7, 8, 9, 26, 27, 28, 58]), (12, [4, 5, 6]), (13, [0, 4, 7, 8, 26, 27, 28]), (14, [0, 4, 7, 8, 26, 27, 28, 71]), (15, [4, 5, 6]), (16, [0, 4, 7, 26, 27, 28]), (17, [4, 5, 6])], [(1, [0, 4, 7, 26, 27, 28])], [(13, [[], [], [1], [1, 2], [], [4], [1, 2, 3, 4, 5], List.range 7, List.range 8])], []⟩
def h41 : Hints := ⟨[(0, []), (1, [1, 2, 3]), (2, [0])], [], [], []⟩
def h42 : Hints := ⟨[(0, [1, 2]), (1, [1, 2, 4]), (2, [1, 2, 4, 9]), (3, [2, 3]), (4, [1, 2, 4, 14]), (5, [2, 3]), (6, [1, 2, 4, 20]), (7, [2, 3]), (8, [1, 2, 26]), (9, [2, 3]), (10, [1, 2]), (11, [2, 37, 38, 39]), (12, [2, 37, 38, 39, 40]), (13, [2, 5, 6, 37, 38, 39]), (14, [2, 37, 38, 39]), (15, [2, 37, 38, 39]), (16, [2, 3])], [(1, [2, 37, 38, 39])], [], []⟩
def h43 : Hints := ⟨[(0, [1, 2]), (1, [2, 3])], [], [], []⟩
def h44 : Hints := ⟨[(0, [1, 2]), (1, [1, 2, 4]), (2, [1, 2, 4, 8]), (3, [2, 3]), (4, [2, 3])], [], [], []⟩
def h45 : Hints := ⟨[(0, [1, 2, 3, 6]), (1, [1, 2, 3, 6, 8, 9]), (2, [1, 2, 3, 6, 8, 9, 17]), (3, [6, 7, 8]), (4, [1, 2, 6, 9, 21]), (5, [6, 7, 8]), (6, [1, 2, 6, 9, 30]), (7, [6, 7, 8]), (8, [1, 2, 6, 9, 34]), (9, [6, 7, 8]), (10, [2, 6, 7, 9]), (11, [6, 7, 9, 39, 40, 41]), (12, [6, 7, 9, 39, 40, 41, 42]), (13, [6, 7, 9, 11, 39, 40, 41]), (14, [6, 7, 9, 11, 39, 40, 41]), (15, [6, 7, 9, 39, 40, 41]), (16, [6, 7, 9, 39, 40, 41]), (17, [6, 7, 8])], [(1, [6, 7, 9, 39, 40, 41])], [], []⟩
def h46 : Hints := ⟨[(0, [0, 1]), (1, [0, 1, 5]), (2, [0, 1, 5, 6]), (3, [0, 1, 5, 6, 12]), (4, [0, 1, 5, 6]), (5, [0, 1, 5, 6]), (6, [4])], [(0, [0, 1, 5, 6])], [], []⟩
def h47 : Hints := ⟨[(0, [0, 1]), (1, [0, 1, 10]), (2, [4]), (3, [0, 1, 5]), (4, [0, 1, 5, 14]), (5, [0, 1, 5]), (6, [0, 1, 5, 25]), (7, [4]), (8, [4])], [(0, [0, 1, 5])], [(6, [[], [], [0, 1], [0, 1, 2], [], [], [4, 5], [4, 5, 6], List.range 8])], []⟩
def h48 : Hints := ⟨[(0, []), (1, [1]), (2, [1, 2, 3]), (3, [2, 3, 4, 5, 6]), (4, [0])], [], [], []⟩
def h68 : Hints := ⟨[(0, [1]), (1, [1, 3]), (2, [2]), (3, [1, 9]), (4, [2]), (5, [1, 14]), (6, [2]), (7, [19]), (8, [2]), (9, [2])], [], [], []⟩
def h69 : Hints := ⟨[(0, [1]), (1, [1, 3]), (2, [2]), (3, [1, 9]), (4, [2]), (5, [1, 14]), (6, [2]), (7, [19]), (8, [2]), (9, [2])], [], [(7, [[], [0], [0, 1], [0, 1, 2], [], [4], List.range 6, List.range 7, List.range 8])], []⟩
def h76 : Hints := ⟨[(0, [0, 1]), (1, [4])], [], [], []⟩
def h78 : Hints := ⟨[(0, [2, 3, 4]), (1, [6])], [], [], []⟩
def h79 : Hints := ⟨[(0, [0, 1]), (1, [0, 1, 10]), (2, [0, 1]), (3, [0, 5, 6]), (4, [0, 6, 26]), (5, [0, 6]), (6, [0, 7]), (7, [7, 8]), (8, [7, 8, 37]), (9, [7, 8]), (10, [4])], [(0, [7, 8])], [(9, [[], [], [], [1, 2], [], [], [4, 5], [1, 2, 3, 4, 5, 6], List.range 8, List.range 9])], []⟩
def h80 : Hints := ⟨[(0, [1]), (1, [1, 3]), (2, [3, 16]), (3, [3, 4]), (4, [3, 4, 21]), (5, [3, 4]), (6, [3, 4]), (7, [2])], [(0, [3, 4])], [], []⟩
def h85 : Hints := ⟨[(0, [1, 2, 3, 6, 7]), (1, [1, 2, 3, 6, 7, 9]), (2, [1, 2, 3, 6, 7, 9, 16]), (3, [6, 7, 8]), (4, [1, 2, 3, 6, 7, 21]), (5, [6, 7, 8]), (6, [1, 2, 3, 6, 7, 29]), (7, [6, 7, 8]), (8, [1, 2, 3, 6, 7, 38]), (9, [6, 7, 8]), (10, [1, 2, 3, 6, 7]), (11, [1, 2, 3, 6, 7, 48, 49, 50]), (12, [1, 2, 3, 6, 7, 48, 49, 50, 51]), (13, [1, 2, 3, 6, 7, 10, 11, 48, 49, 50]), (14, [1, 2, 3, 6, 7, 12, 13, 48, 49, 50]), (15, [1, 2, 3, 6, 7, 12, 13, 48, 49, 50, 70]), (16, [6, 7, 8]), (17, [1, 2, 3, 6, 7, 48, 49, 50]), (18, [1, 2, 3, 6, 7, 48, 49, 50]), (19, [6, 7, 8])], [(1, [1, 2, 3, 6, 7, 48, 49, 50])], [(14, [[], [], [], [1, 2], [1, 2, 3], [], [5], [], List.range 8, List.range 9, List.range 10, List.range 11, List.range 12, List.range 12, List.range 13, List.range 15])], []⟩
def h93 : Hints := ⟨[(0, [0]), (1, [2])], [], [], []⟩
def h94 : Hints := ⟨[(0, [0, 1]), (1, [4])], [], [], []⟩
def h95 : Hints := ⟨[(0, [2, 3, 4]), (1, [2, 3, 4, 6]), (2, [2, 3, 4, 6, 10]), (3, [4, 5]), (4, [4, 5])], [], [], []⟩
def h96 : Hints := ⟨[(0, [0, 1, 2]), (1, [5, 6])], [], [(1, [[], [], [1], [1, 2], [], [1, 2, 3, 4], [0], List.range 7])], []⟩
def h97 : Hints := ⟨[(0, [0, 1, 2, 6]), (1, [0, 1, 2, 6, 7]), (2, [1, 2, 6, 7, 14, 15]), (3, [1, 2, 6, 7, 14, 15, 16]), (4, [1, 2, 6, 7, 8, 14, 15]), (5, [1, 2, 6, 7, 8, 14, 15, 18, 19]), (6, [1, 2, 6, 7, 8, 14, 15, 18, 19, 20]), (7, [1, 2, 6, 7, 8, 9, 14, 15, 18, 19]), (8, [1, 2, 6, 7, 8, 9, 14, 15, 18, 19, 25]), (9, [1, 2, 6, 7, 8, 14, 15, 18, 19]), (10, [1, 2, 6, 7, 8, 14, 15, 18, 19]), (11, [1, 2, 6, 7, 14, 15]), (12, [6])], [(0, [1, 2, 6, 7, 14, 15]), (2, [1, 2, 6, 7, 8, 14, 15, 18, 19])], [(9, [[], [0], [], [0, 1, 2], [0, 1, 2, 3], [], [5], List.range 7, List.range 8, List.range 9])], []⟩
def h98 : Hints := ⟨[(0, [0, 1, 2]), (1, [5])], [], [], []⟩
def h99 : Hints := ⟨[(0, [1, 2, 3]), (1, [6])], [], [(1, [[], [0], [0, 1], [], [], [4], [4, 5], [4, 5, 6], [3, 4, 5, 6, 7], List.range 9, List.range 10, [], [], [12], [12, 13], [11, 12, 13, 14], List.range 16, List.range 17, List.range 18, List.range 19])], []⟩
def h100 : Hints := ⟨[(0, [1, 2]), (1, [1, 2, 4]), (2, [1, 2, 4, 9]), (3, [2, 3]), (4, [1, 2, 4, 15]), (5, [2, 3]), (6, [2, 4, 21]), (7, [2, 3]), (8, [2, 3])], [], [], []⟩
def h101 : Hints := ⟨[(0, [2, 3, 4]), (1, [6])], [], [], []⟩
def h102 : Hints := ⟨[(0, [1, 2]), (1, [1, 2, 5]), (2, [1, 2, 5, 13]), (3, [4]), (4, [4])], [], [], []⟩
def h103 : Hints := ⟨[(0, [1, 2, 3]), (1, [6])], [], [], []⟩
def h104 : Hints := ⟨[(0, [1, 2]), (1, [1, 2, 3, 4]), (2, [1, 2, 3, 4, 14]), (3, [2, 3]), (4, [1, 2, 4, 5]), (5, [1, 2, 4, 5, 6]), (6, [1, 2, 4, 5, 6, 22, 23]), (7, [1, 2, 4, 5, 6, 22, 23, 24]), (8, [1, 2, 4, 5, 6, 7, 22, 23]), (9, [1, 2, 4, 5, 6, 7, 22, 23]), (10, [1, 2, 4, 5, 6, 7, 22, 23, 32]), (11, [1, 2, 4, 5, 6, 22, 23]), (12, [1, 2, 4, 5, 6, 22, 23]), (13, [1, 2, 4, 5, 6, 22, 23, 46]), (14, [1, 2, 4, 5, 6, 22, 23]), (15, [2, 3])], [(0, [1, 2, 4, 5, 6, 22, 23])], [], []⟩
def h127 : Hints := ⟨[(0, [2, 3, 4]), (1, [6])], [], [], []⟩
def h132 : Hints := ⟨[(0, [0, 1]), (1, [0, 1, 7, 8]), (2, [0, 1, 7, 8, 9]), (3, [0, 1, 5, 7, 8]), (4, [0, 1, 5, 7, 8, 16]), (5, [4]), (6, [0, 1, 7, 8]), (7, [4])], [(0, [0, 1, 7, 8])], [], []⟩
def h133 : Hints := ⟨[(0, [0, 1, 2]), (1, [4])], [], [], []⟩
def h134 : Hints := ⟨[(0, [0, 1]), (1, [6, 7]), (2, [4, 5]), (3, [8, 9]), (4, [4, 5])], [], [], []⟩
def h135 : Hints := ⟨[(0, [0]), (1, [2])], [], [], []⟩
def h136 : Hints := ⟨[(0, [2, 3]), (1, [4])], [], [], []⟩
def h139 : Hints := ⟨[(0, [0]), (1, [0, 3]), (2, [0, 3, 4]), (3, [0, 3, 4, 15, 16]), (4, [0, 3, 4, 15, 16, 17]), (5, [0, 3, 4, 6, 15, 16]), (6, [0, 3, 4, 6, 7, 15, 16]), (7, [0, 3, 4, 7, 8, 15, 16]), (8, [0, 3, 4, 7, 8, 15, 16, 36]), (9, [0, 3, 4, 15, 16]), (10, [0, 3, 4, 15, 16]), (11, [0, 3, 4, 41]), (12, [2, 3]), (13, [0, 3, 4]), (14, [0, 3, 4, 9]), (15, [0, 2, 3, 4, 9]), (16, [0, 2, 3, 4, 9, 62]), (17, [0, 2, 3, 4, 9, 63, 64]), (18, [0, 2, 3, 4, 9, 63, 64, 65]), (19, [0, 2, 3, 4, 9, 11, 63, 64]), (20, [0, 2, 3, 4, 9, 11, 12, 13, 63, 64]), (21, [0, 2, 3, 4, 9, 11, 12, 13, 14, 63, 64]), (22, [0, 2, 3, 4, 9, 11, 12, 14, 63, 64, 89]), (23, [0, 2, 3, 4, 9]), (24, [0, 2, 3, 4, 9, 63, 64]), (25, [2, 3])], [(0, [0, 3, 4, 15, 16]), (2, [0, 2, 3, 4, 9]), (4, [0, 2, 3, 4, 9, 63, 64])], [(7, [[], [], [1], [1, 2], [1, 2, 3], [1, 2, 3, 4], [], List.range 7, [], [], List.range 10, List.range 11, List.range 12]), (14, [[], [], [], [2], [2, 3], [2, 3, 4], [2, 3, 4, 5], [], [7], [1, 2, 3, 4, 5, 6, 7, 8], List.range 10, List.range 11]), (23, [[], [], [], [1, 2], [], [4], [], [6], [4, 5, 6, 7], [0, 6, 7], [0, 1, 2, 3, 6, 7, 9], List.range 11])], []⟩
def h150 : Hints := ⟨[(0, [0, 1, 2, 3]), (1, [6])], [], [(1, [[], [0], [], [], [], [2, 3, 4], [2, 3, 4, 5], [2, 3, 4, 5], List.range 8, List.range 9])], []⟩
def h151 : Hints := ⟨[(0, [1, 2]), (1, [1, 5]), (2, [4])], [], [], []⟩
def h152 : Hints := ⟨[(0, [0, 1, 2]), (1, [4])], [], [], []⟩
def h153 : Hints := ⟨[(0, [0, 1]), (1, [4])], [], [], []⟩
def h154 : Hints := ⟨[(0, [1, 2]), (1, [1, 2, 4, 5]), (2, [1, 2, 4, 5, 15]), (3, [2, 3]), (4, [1, 2, 4, 6]), (5, [1, 2, 4, 6, 20, 21, 22]), (6, [1, 2, 4, 6, 20, 21, 22, 23]), (7, [1, 2, 4, 6, 8, 20, 21, 22]), (8, [1, 2, 4, 6, 20, 21, 22]), (9, [1, 2, 4, 6, 20, 21, 22]), (10, [1, 2, 4, 6, 30]), (11, [2, 3]), (12, [2, 4, 34]), (13, [2, 3]), (14, [2, 3])], [(0, [1, 2, 4, 6, 20, 21, 22])], [], []⟩
def h155 : Hints := ⟨[(0, [1, 2, 4]), (1, [1, 2, 4, 9, 10]), (2, [1, 2, 4, 9, 10, 11]), (3, [1, 2, 4, 5, 9, 10]), (4, [1, 2, 4, 5, 9, 10, 16]), (5, [1, 2, 4, 9, 10]), (6, [1, 2, 4, 9, 10]), (7, [4])], [(0, [1, 2, 4, 9, 10])], [], []⟩
def h170 : Hints := ⟨[(0, [0, 1, 2]), (1, [4])], [], [], []⟩
def h172 : Hints := ⟨[(0, [0, 1]), (1, [6]), (2, [4, 5])], [], [], []⟩
def h173 : Hints := ⟨[(0, [0, 1]), (1, [0, 1, 6]), (2, [0, 1, 6, 7]), (3, [0, 1, 6, 7, 8]), (4, [0, 1, 6, 7, 8, 9]), (5, [0, 1, 6, 7, 8, 9, 10]), (6, [0, 1, 6, 7, 9, 11]), (7, [0, 1, 6, 7, 9, 11, 12]), (8, [0, 1, 6, 7, 9, 12, 13]), (9, [0, 1, 7, 9, 12, 13]), (10, [0, 1, 4]), (11, [4, 5])], [], [], []⟩
def h174 : Hints := ⟨[(0, [1, 2]), (1, [2, 6]), (2, [2, 5]), (3, [2]), (4, [4])], [(0, [2])], [], []⟩
def h175 : Hints := ⟨[(0, [0, 1, 2, 4]), (1, [0, 1, 2, 4, 8]), (2, [0, 1, 2, 4]), (3, [0, 1, 4, 5]), (4, [0, 1, 4, 5]), (5, [0, 1, 4, 5, 21])], [(0, [0, 1, 4, 5])], [], []⟩
def h176 : Hints := ⟨[(0, [0, 1, 4]), (1, [0, 1, 4]), (2, [4])], [], [], []⟩
def h177 : Hints := ⟨[(0, [0, 1, 2]), (1, [0, 1, 2, 7]), (2, [0, 1, 16]), (3, [6]), (4, [20]), (5, [6]), (6, [6])], [], [], []⟩
def h178 : Hints := ⟨[(0, [0, 3]), (1, [0, 3, 14]), (2, [38]), (3, [4]), (4, [4]), (5, [0, 3, 5, 6]), (6, [0, 3, 5, 48]), (7, [4]), (8, [0, 3, 7]), (9, [0, 3, 7, 50, 51]), (10, [0, 3, 7, 50, 51, 52]), (11, [0, 3, 7, 9, 50, 51]), (12, [0, 3, 7, 9, 10, 11, 50, 51]), (13, [0, 3, 7, 9, 10, 50, 51, 61]), (14, [0, 3, 7, 50, 51]), (15, [0, 3, 7, 50, 51]), (16, [7]), (17, [4])], [(0, [0, 3, 7, 50, 51])], [(2, [[], [0], [0, 1], [0, 1, 2], [0, 1, 2, 3], List.range 5, [0, 1, 2, 3], [0, 1, 2, 3, 6], [0, 1, 2, 3, 6, 7], [0, 1, 2, 3, 6, 7, 8], List.range 10, List.range 11, List.range 12, List.range 13, List.range 12, [0, 1, 2, 3, 4, 5, 6, 7, 8, 9, 10, 11, 14], List.range 16, List.range 12, [0, 1, 2, 3, 4, 5, 6, 7, 8, 9, 10, 11, 17], [0, 1, 2, 3, 4, 5, 6, 7, 8, 9, 10, 11, 17, 18], [0, 1, 2, 3, 4, 5, 6, 7, 8, 9, 10, 11, 17, 18, 19], List.range 21, List.range 22, List.range 23]), (5, [[], [0], [0, 1], [0, 1, 2], [], List.range 5, List.range 6, List.range 7, List.range 7, List.range 8, List.range 10]), (14, [[], [], [], [2], [], [1, 2, 3, 4], [], [], [1, 2, 3, 4, 5, 6, 7], [1, 2, 3, 4, 5, 6, 7, 8], List.range 10, List.range 11]), (16, [[], [0], [0, 1], [0, 1, 2], [], [], List.range 6])], []⟩
def h179 : Hints := ⟨[(0, [0]), (1, [3]), (2, [2]), (3, [2])], [], [], []⟩
def h180 : Hints := ⟨[(0, [0, 2, 4, 6]), (1, [0, 2, 4, 6, 8]), (2, [0, 4, 6, 8, 16]), (3, [0, 6, 8]), (4, [0, 4, 6, 8, 25]), (5, [0, 6, 8]), (6, [6, 7])], [], [(6, [[], [], [1], [], [3], [3, 4], [3, 4, 5], [1, 2, 3, 4, 5, 6], [0], List.range 9])], []⟩
def h186 : Hints := ⟨[(0, [1, 2]), (1, [3])], [], [], []⟩
def h187 : Hints := ⟨[(0, [0, 1]), (1, [4])], [], [], []⟩
def h188 : Hints := ⟨[(0, [0]), (1, [0]), (2, [0]), (3, [0]), (4, [2])], [], [], []⟩
def h189 : Hints := ⟨[(0, [1, 3, 5, 6]), (1, [1, 3, 5, 6, 7]), (2, [1, 3, 5, 6, 7]), (3, [3, 5, 6, 7, 21]), (4, [3, 5, 6, 7, 8]), (5, [3, 5, 6, 7, 8, 23, 24, 25]), (6, [3, 5, 6, 7, 8, 23, 24, 25, 26]), (7, [3, 5, 6, 7, 8, 9, 10, 23, 24, 25]), (8, [3, 5, 6, 7, 8, 10, 23, 24, 25, 54]), (9, [3, 5, 6, 7, 8, 23, 24, 25]), (10, [3, 5, 6, 7, 8, 23, 24, 25]), (11, [3, 5, 6, 7]), (12, [6])], [(0, [3, 5, 6, 7]), (2, [3, 5, 6, 7, 8, 23, 24, 25])], [(8, [[], [0], [0, 1], [0, 1, 2], [0, 1, 2], List.range 5, List.range 6, List.range 7, List.range 8, List.range 9, List.range 10, List.range 11, List.range 9, List.range 13, List.range 14, List.range 15, List.range 9, [0, 1, 2, 3, 4, 5, 6, 7, 8, 16], [0, 1, 2, 3, 4, 5, 6, 7, 8, 16, 17], List.range 9, [0, 1, 2, 3, 4, 5, 6, 7, 8, 16, 17, 18, 19], [0, 1, 2, 3, 4, 5, 6, 7, 8, 16, 17, 18, 19, 20], [0, 1, 2, 3, 4, 5, 6, 7, 8, 16, 17, 18, 19, 20, 21], List.range 23, List.range 24]), (9, [[], [], [], [], [2, 3], [2, 3, 4], [], [6], [2, 3, 4, 5, 6, 7], List.range 9, List.range 10]), (11, [[], [], [], [1, 2], [1, 2, 3], List.range 5, List.range 6])], []⟩
def h196 : Hints := ⟨[(0, [0, 1]), (1, [0, 1, 7, 8]), (2, [0, 1, 7, 8, 9]), (3, [0, 1, 5, 7, 8]), (4, [0, 1, 5, 7, 8, 16]), (5, [4]), (6, [0, 1, 7, 8]), (7, [4])], [(0, [0, 1, 7, 8])], [], []⟩
def h197 : Hints := ⟨[(0, [0]), (1, [0]), (2, [0]), (3, [2])], [], [], []⟩
def h198 : Hints := ⟨[(0, [2, 3]), (1, [4])], [], [], []⟩
def h200 : Hints := ⟨[(0, [0, 1, 2, 8, 9]), (1, [0, 1, 2, 8, 9, 10]), (2, [0, 1, 2, 4, 8, 9]), (3, [0, 1, 2, 8, 9, 18]), (4, [0, 1, 2, 8, 9])], [(0, [0, 1, 2, 8, 9])], [], []⟩
def F : Nat → Option AFn
  | 6 => some a6
  | 10 => some a10
  | 14 => some a14
  | 21 => some a21
  | 23 => some a23
  | 24 => some a24
  | 25 => some a25
  | 26 => some a26
  | 31 => some a31
  | 41 => some a41
  | 42 => some a42
  | 43 => some a43
  | 44 => some a44
  | 45 => some a45
  | 46 => some a46
  | 47 => some a47
  | 48 => some a48
  | 68 => some a68
  | 69 => some a69
  | 70 => some a70
  | 76 => some a76
  | 78 => some a78
  | 79 => some a79
  | 80 => some a80
  | 85 => some a85
  | 93 => some a93
  | 94 => some a94
  | 95 => some a95
  | 96 => some a96
  | 97 => some a97
  | 98 => some a98
  | 99 => some a99
  | 100 => some a100
  | 101 => some a101
  | 102 => some a102
  | 103 => some a103
  | 104 => some a104
  | 127 => some a127
  | 132 => some a132
  | 133 => some a133
  | 134 => some a134
  | 135 => some a135
  | 136 => some a136
  | 139 => some a139
  | 150 => some a150
  | 151 => some a151
  | 152 => some a152
  | 153 => some a153
  | 154 => some a154
  | 155 => some a155
  | 170 => some a170
  | 172 => some a172
  | 173 => some a173
  | 174 => some a174
  | 175 => some a175
  | 176 => some a176
  | 177 => some a177
  | 178 => some a178
  | 179 => some a179
  | 180 => some a180
  | 186 => some a186
  | 187 => some a187
  | 188 => some a188
  | 189 => some a189
  | 196 => some a196
  | 197 => some a197
  | 198 => some a198
  | 200 => some a200
  | _ => none
theorem c6 : compFn Try.prog bor h6 Try.f6 = some a6 := by kernel_rfl
theorem c10 : compFn Try.prog bor h10 Try.f10 = some a10 := by kernel_rfl
theorem c14 : compFn Try.prog bor h14 Try.f14 = some a14 := by kernel_rfl
theorem c21 : compFn Try.prog bor h21 Try.f21 = some a21 := by kernel_rfl
theorem c23 : compFn Try.prog bor h23 Try.f23 = some a23 := by kernel_rfl
theorem c24 : compFn Try.prog bor h24 Try.f24 = some a24 := by kernel_rfl
theorem c25 : compFn Try.prog bor h25 Try.f25 = some a25 := by kernel_rfl
theorem c26 : compFn Try.prog bor h26 Try.f26 = some a26 := by kernel_rfl
theorem c31 : compFn Try.prog bor h31 Try.f31 = some a31 := by kernel_rfl
theorem c41 : compFn Try.prog bor h41 Try.f41 = some a41 := by kernel_rfl
theorem c42 : compFn Try.prog bor h42 Try.f42 = some a42 := by kernel_rfl
theorem c43 : compFn Try.prog bor h43 Try.f43 = some a43 := by kernel_rfl
theorem c44 : compFn Try.prog bor h44 Try.f44 = some a44 := by kernel_rfl
theorem c45 : compFn Try.prog bor h45 Try.f45 = some a45 := by kernel_rfl
theorem c46 : compFn Try.prog bor h46 Try.f46 = some a46 := by kernel_rfl
theorem c47 : compFn Try.prog bor h47 Try.f47 = some a47 := by kernel_rfl
theorem c48 : compFn Try.prog bor h48 Try.f48 = some a48 := by kernel_rfl
theorem c68 : compFn Try.prog bor h68 Try.f68 = some a68 := by kernel_rfl
theorem c69 : compFn Try.prog bor h69 Try.f69 = some a69 := by kernel_rfl
theorem c76 : compFn Try.prog bor h76 Try.f76 = some a76 := by kernel_rfl
theorem c78 : compFn Try.prog bor h78 Try.f78 = some a78 := by kernel_rfl
theorem c79 : compFn Try.prog bor h79 Try.f79 = some a79 := by kernel_rfl
theorem c80 : compFn Try.prog bor h80 Try.f80 = some a80 := by kernel_rfl
theorem c85 : compFn Try.prog bor h85 Try.f85 = some a85 := by kernel_rfl
theorem c93 : compFn Try.prog bor h93 Try.f93 = some a93 := by kernel_rfl
theorem c94 : compFn Try.prog bor h94 Try.f94 = some a94 := by kernel_rfl
theorem c95 : compFn Try.prog bor h95 Try.f95 = some a95 := by kernel_rfl
theorem c96 : compFn Try.prog bor h96 Try.f96 = some a96 := by kernel_rfl
theorem c97 : compFn Try.prog bor h97 Try.f97 = some a97 := by kernel_rfl
theorem c98 : compFn Try.prog bor h98 Try.f98 = some a98 := by kernel_rfl
theorem c99 : compFn Try.prog bor h99 Try.f99 = some a99 := by kernel_rfl
theorem c100 : compFn Try.prog bor h100 Try.f100 = some a100 := by kernel_rfl
theorem c101 : compFn Try.prog bor h101 Try.f101 = some a101 := by kernel_rfl
theorem c102 : compFn Try.prog bor h102 Try.f102 = some a102 := by kernel_rfl
theorem c103 : compFn Try.prog bor h103 Try.f103 = some a103 := by kernel_rfl
theorem c104 : compFn Try.prog bor h104 Try.f104 = some a104 := by kernel_rfl
theorem c127 : compFn Try.prog bor h127 Try.f127 = some a127 := by kernel_rfl
theorem c132 : compFn Try.prog bor h132 Try.f132 = some a132 := by kernel_rfl
theorem c133 : compFn Try.prog bor h133 Try.f133 = some a133 := by kernel_rfl
theorem c134 : compFn Try.prog bor h134 Try.f134 = some a134 := by kernel_rfl
theorem c135 : compFn Try.prog bor h135 Try.f135 = some a135 := by kernel_rfl
theorem c136 : compFn Try.prog bor h136 Try.f136 = some a136 := by kernel_rfl
theorem c139 : compFn Try.prog bor h139 Try.f139 = some a139 := by kernel_rfl
theorem c150 : compFn Try.prog bor h150 Try.f150 = some a150 := by kernel_rfl
theorem c151 : compFn Try.prog bor h151 Try.f151 = some a151 := by kernel_rfl
theorem c152 : compFn Try.prog bor h152 Try.f152 = some a152 := by kernel_rfl
theorem c153 : compFn Try.prog bor h153 Try.f153 = some a153 := by kernel_rfl
theorem c154 : compFn Try.prog bor h154 Try.f154 = some a154 := by kernel_rfl
theorem c155 : compFn Try.prog bor h155 Try.f155 = some a155 := by kernel_rfl
theorem c170 : compFn Try.prog bor h170 Try.f170 = some a170 := by kernel_rfl
theorem c172 : compFn Try.prog bor h172 Try.f172 = some a172 := by kernel_rfl
theorem c173 : compFn Try.prog bor h173 Try.f173 = some a173 := by kernel_rfl
theorem c174 : compFn Try.prog bor h174 Try.f174 = some a174 := by kernel_rfl
theorem c175 : compFn Try.prog bor h175 Try.f175 = some a175 := by kernel_rfl
theorem c176 : compFn Try.prog bor h176 Try.f176 = some a176 := by kernel_rfl
theorem c177 : compFn Try.prog bor h177 Try.f177 = some a177 := by kernel_rfl
theorem c178 : compFn Try.prog bor h178 Try.f178 = some a178 := by kernel_rfl
theorem c179 : compFn Try.prog bor h179 Try.f179 = some a179 := by kernel_rfl
theorem c180 : compFn Try.prog bor h180 Try.f180 = some a180 := by kernel_rfl
theorem c186 : compFn Try.prog bor h186 Try.f186 = some a186 := by kernel_rfl
theorem c187 : compFn Try.prog bor h187 Try.f187 = some a187 := by kernel_rfl
theorem c188 : compFn Try.prog bor h188 Try.f188 = some a188 := by kernel_rfl
theorem c189 : compFn Try.prog bor h189 Try.f189 = some a189 := by kernel_rfl
theorem c196 : compFn Try.prog bor h196 Try.f196 = some a196 := by kernel_rfl
theorem c197 : compFn Try.prog bor h197 Try.f197 = some a197 := by kernel_rfl
theorem c198 : compFn Try.prog bor h198 Try.f198 = some a198 := by kernel_rfl
theorem c200 : compFn Try.prog bor h200 Try.f200 = some a200 := by kernel_rfl
theorem F_ok (f : Nat) (afn : AFn) (h : F f = some afn) : (∃ fn hh, Try.prog.funcs[f]? = some fn ∧ compFn Try.prog bor hh fn = some afn) ∨ f = 70 ∧ afn = a70 := by
  unfold F at h
  split at h
  · cases h; exact .inl ⟨_, _, Try.func6, c6⟩
  · cases h; exact .inl ⟨_, _, Try.func10, c10⟩
  · cases h; exact .inl ⟨_, _, Try.func14, c14⟩
  · cases h; exact .inl ⟨_, _, Try.func21, c21⟩
  · cases h; exact .inl ⟨_, _, Try.func23, c23⟩
  · cases h; exact .inl ⟨_, _, Try.func24, c24⟩
  · cases h; exact .inl ⟨_, _, Try.func25, c25⟩
  · cases h; exact .inl ⟨_, _, Try.func26, c26⟩
  · cases h; exact .inl ⟨_, _, Try.func31, c31⟩
  · cases h; exact .inl ⟨_, _, Try.func41, c41⟩
  · cases h; exact .inl ⟨_, _, Try.func42, c42⟩
  · cases h; exact .inl ⟨_, _, Try.func43, c43⟩
  · cases h; exact .inl ⟨_, _, Try.func44, c44⟩
  · cases h; exact .inl ⟨_, _, Try.func45, c45⟩
  · cases h; exact .inl ⟨_, _, Try.func46, c46⟩
  · cases h; exact .inl ⟨_, _, Try.func47, c47⟩
  · cases h; exact .inl ⟨_, _, Try.func48, c48⟩
  · cases h; exact .inl ⟨_, _, Try.func68, c68⟩
  · cases h; exact .inl ⟨_, _, Try.func69, c69⟩
  · cases h; simp
  · cases h; exact .inl ⟨_, _, Try.func76, c76⟩
  · cases h; exact .inl ⟨_, _, Try.func78, c78⟩
  · cases h; exact .inl ⟨_, _, Try.func79, c79⟩
  · cases h; exact .inl ⟨_, _, Try.func80, c80⟩
  · cases h; exact .inl ⟨_, _, Try.func85, c85⟩
  · cases h; exact .inl ⟨_, _, Try.func93, c93⟩
  · cases h; exact .inl ⟨_, _, Try.func94, c94⟩
  · cases h; exact .inl ⟨_, _, Try.func95, c95⟩
  · cases h; exact .inl ⟨_, _, Try.func96, c96⟩
  · cases h; exact .inl ⟨_, _, Try.func97, c97⟩
  · cases h; exact .inl ⟨_, _, Try.func98, c98⟩
  · cases h; exact .inl ⟨_, _, Try.func99, c99⟩
  · cases h; exact .inl ⟨_, _, Try.func100, c100⟩
  · cases h; exact .inl ⟨_, _, Try.func101, c101⟩
  · cases h; exact .inl ⟨_, _, Try.func102, c102⟩
  · cases h; exact .inl ⟨_, _, Try.func103, c103⟩
  · cases h; exact .inl ⟨_, _, Try.func104, c104⟩
  · cases h; exact .inl ⟨_, _, Try.func127, c127⟩
  · cases h; exact .inl ⟨_, _, Try.func132, c132⟩
  · cases h; exact .inl ⟨_, _, Try.func133, c133⟩
  · cases h; exact .inl ⟨_, _, Try.func134, c134⟩
  · cases h; exact .inl ⟨_, _, Try.func135, c135⟩
  · cases h; exact .inl ⟨_, _, Try.func136, c136⟩
  · cases h; exact .inl ⟨_, _, Try.func139, c139⟩
  · cases h; exact .inl ⟨_, _, Try.func150, c150⟩
  · cases h; exact .inl ⟨_, _, Try.func151, c151⟩
  · cases h; exact .inl ⟨_, _, Try.func152, c152⟩
  · cases h; exact .inl ⟨_, _, Try.func153, c153⟩
  · cases h; exact .inl ⟨_, _, Try.func154, c154⟩
  · cases h; exact .inl ⟨_, _, Try.func155, c155⟩
  · cases h; exact .inl ⟨_, _, Try.func170, c170⟩
  · cases h; exact .inl ⟨_, _, Try.func172, c172⟩
  · cases h; exact .inl ⟨_, _, Try.func173, c173⟩
  · cases h; exact .inl ⟨_, _, Try.func174, c174⟩
  · cases h; exact .inl ⟨_, _, Try.func175, c175⟩
  · cases h; exact .inl ⟨_, _, Try.func176, c176⟩
  · cases h; exact .inl ⟨_, _, Try.func177, c177⟩
  · cases h; exact .inl ⟨_, _, Try.func178, c178⟩
  · cases h; exact .inl ⟨_, _, Try.func179, c179⟩
  · cases h; exact .inl ⟨_, _, Try.func180, c180⟩
  · cases h; exact .inl ⟨_, _, Try.func186, c186⟩
  · cases h; exact .inl ⟨_, _, Try.func187, c187⟩
  · cases h; exact .inl ⟨_, _, Try.func188, c188⟩
  · cases h; exact .inl ⟨_, _, Try.func189, c189⟩
  · cases h; exact .inl ⟨_, _, Try.func196, c196⟩
  · cases h; exact .inl ⟨_, _, Try.func197, c197⟩
  · cases h; exact .inl ⟨_, _, Try.func198, c198⟩
  · cases h; exact .inl ⟨_, _, Try.func200, c200⟩
  · cases h
end Go.Abs
