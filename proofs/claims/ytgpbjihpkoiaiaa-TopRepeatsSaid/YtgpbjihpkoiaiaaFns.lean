/-
  The functions of this seat are what the compile step gives: proved by the kernel.
-/
import Derived.Test.YtgpbjihpkoiaiaaProg
import Derived.Test.YtgpbjihpkoiaiaaComp
import Derived.Test.YtgpbjihpkoiaiaaFnsA
import Derived.Test.YtgpbjihpkoiaiaaFnsB
import Derived.KernelRfl
set_option linter.all false
set_option maxRecDepth 100000
set_option maxHeartbeats 0
namespace Go.Abs
open Go.Proofs
def bor : Nat → List Nat
  | 139 => [0]
  | 156 => [3000]
  | 174 => [3000]
  | 176 => [0]
  | 177 => [0]
  | 178 => [0]
  | 180 => [0]
  | _ => []

def h4 : Hints := ⟨[(0, [0, 2, 4]), (1, [2, 4, 7, 8]), (2, [2, 4, 7, 8, 9, 11]), (3, [2, 4, 7, 8, 9, 11, 12]), (4, [2, 4, 7, 8, 9, 12, 58]), (5, [6]), (6, [2, 4, 7, 8, 9, 12, 13]), (7, [2, 4, 7, 8, 9, 12, 13, 14, 16]), (8, [2, 4, 7, 8, 9, 12, 13, 14, 16, 17, 18]), (9, [2, 4, 7, 8, 9, 12, 13, 16, 17, 18, 19, 20]), (10, [2, 4, 7, 8, 9, 12, 13, 19, 119]), (11, [6]), (12, [2, 4, 7, 8, 9, 12, 13, 19, 21]), (13, [2, 4, 7, 8, 9, 12, 13, 19, 21, 122]), (14, [2, 4, 7, 8, 9, 12, 13, 19, 21]), (15, [2, 4, 7, 8, 9, 12, 13, 19, 21, 147]), (16, [6]), (17, [2, 4, 7, 8, 9, 12, 13, 19, 21, 22]), (18, [2, 4, 7, 8, 9, 12, 13, 19, 21, 22, 154]), (19, [2, 4, 7, 8, 9, 12, 13, 19, 21, 22]), (20, [2, 4, 7, 8, 9, 12, 13, 19, 21, 22, 172]), (21, [6]), (22, [8, 9, 23]), (23, [8, 9, 23, 24, 25]), (24, [8, 9, 23, 24, 199]), (25, [6]), (26, [8, 9, 23, 26]), (27, [8, 9, 23, 26, 204]), (28, [8, 9, 23, 26, 27, 28]), (29, [8, 9, 23, 26, 222]), (30, [6]), (31, [23, 29, 30]), (32, [6])], [(0, [2, 4, 7, 8, 9, 12, 13, 19, 21]), (2, [2, 4, 7, 8, 9, 12, 13, 19, 21, 22])], [(1, [[], [0], [], [0, 1, 2], [], List.range 5, [], [], List.range 8, List.range 9]), (8, [[], [0], [], [2], [2, 3], List.range 5, List.range 6, List.range 7, List.range 8, List.range 8, List.range 9, List.range 11]), (9, [[], [0], [], [2], [2, 3], List.range 5, [], [2, 3, 4, 6], List.range 8, List.range 9, List.range 10, List.range 10, List.range 11, List.range 13]), (15, [[], [], [0, 1], [0, 1, 2], [0, 1, 2, 3], [], [], [6], [5, 6, 7], List.range 9, List.range 10, List.range 11, List.range 11, List.range 13, List.range 14, List.range 11, List.range 11, List.range 11, [0, 1, 2, 3, 4, 5, 6, 7, 8, 9, 10, 16, 17], [0, 1, 2, 3, 4, 5, 6, 7, 8, 9, 10, 15, 16, 17, 18], [0, 1, 2, 3, 4, 5, 6, 7, 8, 9, 10, 15, 16, 17, 18, 19], List.range 21, List.range 22]), (20, [[], [], [0, 1], [0, 1, 2], [], List.range 5, [], [], [6, 7], [6, 7, 8], [], [], [11], [10, 11, 12], [6, 7, 8, 9, 10, 11, 12, 13], List.range 15])], []⟩
def h12 : Hints := ⟨[(0, [1, 2]), (1, [1, 2, 4]), (2, [1, 2, 4, 8]), (3, [2, 3]), (4, [2, 3])], [], [], []⟩
def h23 : Hints := ⟨[(0, [2, 3, 4]), (1, [2, 3, 4, 6]), (2, [2, 3, 4, 6, 13]), (3, [4, 5]), (4, [2, 3, 4, 7]), (5, [2, 3, 4, 7, 17]), (6, [4, 5]), (7, [2, 3, 4, 21]), (8, [4, 5]), (9, [2, 4, 28, 29, 30]), (10, [2, 4, 28, 29, 30, 31]), (11, [2, 4, 9, 28, 29, 30]), (12, [2, 4, 28, 29, 30]), (13, [2, 4, 28, 29, 30]), (14, [4, 5])], [(1, [2, 4, 28, 29, 30])], [], []⟩
def h27 : Hints := ⟨[(0, [0, 1, 4]), (1, [1, 4, 5]), (2, [1, 4, 5, 6]), (3, [1, 4, 5, 6, 24]), (4, [1, 4, 5, 6]), (5, [1, 4, 5, 6, 7]), (6, [1, 4, 5, 6, 7, 30]), (7, [1, 4, 5, 6, 7]), (8, [1, 4, 5, 6]), (9, [4])], [(0, [1, 4, 5, 6])], [(7, [[], [], [0, 1], [0, 1, 2], [0, 1, 2, 3], [], [5], [5, 6], [5, 6, 7], List.range 9, List.range 10])], []⟩
def h28 : Hints := ⟨[(0, [1, 2]), (1, [2])], [], [], []⟩
def h29 : Hints := ⟨[(0, [1]), (1, [1, 5]), (2, [1, 5, 9]), (3, [2, 3, 4]), (4, [1, 2]), (5, [2, 3]), (6, [2, 3, 4])], [], [], []⟩
def h30 : Hints := ⟨[(0, [1, 2]), (1, [1, 2]), (2, [2])], [], [], []⟩
def h31 : Hints := ⟨[(0, [0, 1, 4]), (1, [0, 1, 4, 10]), (2, [4, 5, 6]), (3, [0, 1, 4, 16]), (4, [4, 5, 6]), (5, [0, 1, 4, 21]), (6, [4, 5, 6]), (7, [0, 1, 4, 7]), (8, [0, 4, 7, 26, 27, 28]), (9, [0, 4, 7, 26, 27, 28, 29]), (10, [0, 4, 7, 8, 9, 26, 27, 28]), (11, [0, 4, 7, 8, 9, 26, 27, 28, 58]), (12, [4, 5, 6]), (13, [0, 4, 7, 8, 26, 27, 28]), (14, [0, 4, 7, 8, 26, 27, 28, 71]), (15, [4, 5, 6]), (16, [0, 4, 7, 26, 27, 28]), (17, [4, 5, 6])], [(1, [0, 4, 7, 26, 27, 28])], [(13, [[], [], [1], [1, 2], [], [4], [1, 2, 3, 4, 5], List.range 7, List.range 8])], []⟩
def h32 : Hints := ⟨[(0, [1]), (1, [1, 4]), (2, [1, 4, 10]), (3, [2, 3]), (4, [1, 5]), (5, [1, 5, 6]), (6, [1, 5, 6, 17]), (7, [1, 5, 6]), (8, [1, 5, 6, 36]), (9, [2, 3]), (10, [2, 3])], [(0, [1, 5, 6])], [(8, [[], [], [0, 1], [0, 1, 2], [0, 1, 2, 3], List.range 5, List.range 6, List.range 5, List.range 8, List.range 5, [0, 1, 2, 3, 4, 9], List.range 5, List.range 5, [0, 1, 2, 3, 4, 11, 12], [0, 1, 2, 3, 4, 9, 10, 11, 12, 13], List.range 15, List.range 16])], []⟩
def h33 : Hints := ⟨[(0, [0]), (1, [2])], [], [], []⟩
def h34 : Hints := ⟨[(0, [1, 2]), (1, [1, 2, 6]), (2, [1, 2, 6, 11]), (3, [4, 5]), (4, [1, 2, 16]), (5, [4, 5]), (6, [1, 7]), (7, [4, 5])], [], [], []⟩
def h35 : Hints := ⟨[(0, [1, 2]), (1, [1, 2]), (2, [2])], [], [], []⟩
def h36 : Hints := ⟨[(0, [2, 3, 4, 6]), (1, [2, 3, 4, 6, 7]), (2, [2, 3, 4, 6, 7, 11]), (3, [6, 7]), (4, [2, 3, 4, 6, 16]), (5, [6, 7]), (6, [2, 3, 4, 6, 21]), (7, [6, 7]), (8, [2, 4, 6, 8]), (9, [6, 7])], [], [(9, [[], [], [], [2], [0, 1, 2, 3], [], [], [], [7], List.range 9, List.range 10, List.range 11, List.range 12])], []⟩
def h37 : Hints := ⟨[(0, []), (1, [1]), (2, [1, 2, 3, 4]), (3, [2, 3, 4, 5, 6]), (4, [2, 3, 4, 5, 6, 7, 8]), (5, [0])], [], [], []⟩
def h38 : Hints := ⟨[(0, []), (1, [1, 3]), (2, [1, 3, 4, 5]), (3, [0])], [], [], []⟩
def h39 : Hints := ⟨[(0, []), (1, [1]), (2, [1, 2, 3]), (3, [2, 3, 4, 5]), (4, [2, 3, 4, 5, 6, 7]), (5, [0])], [], [], []⟩
def h59 : Hints := ⟨[(0, [1]), (1, [1, 3]), (2, [1, 3, 4]), (3, [2]), (4, [1, 3, 9]), (5, [1, 3, 9]), (6, [1, 3, 9]), (7, [9]), (8, [2]), (9, [2])], [], [], []⟩
def h60 : Hints := ⟨[(0, [1, 2]), (1, [1, 2, 3]), (2, [2, 3, 16, 17, 18]), (3, [2, 3, 16, 17, 18, 19]), (4, [2, 3, 5, 16, 17, 18]), (5, [2, 3, 5, 16, 17, 18]), (6, [2, 3, 16, 17, 18]), (7, [2, 3, 16, 17, 18]), (8, [2])], [(0, [2, 3, 16, 17, 18])], [], []⟩
def h68 : Hints := ⟨[(0, [1]), (1, [1, 3]), (2, [2]), (3, [1, 9]), (4, [2]), (5, [1, 14]), (6, [2]), (7, [19]), (8, [2]), (9, [2])], [], [], []⟩
def h69 : Hints := ⟨[(0, [1]), (1, [1, 3]), (2, [2]), (3, [1, 9]), (4, [2]), (5, [1, 14]), (6, [2]), (7, [19]), (8, [2]), (9, [2])], [], [(7, [[], [0], [0, 1], [0, 1, 2], [], [4], List.range 6, List.range 7, List.range 8])], []⟩
def h71 : Hints := ⟨[(0, [0, 1]), (1, [0, 1, 6, 7]), (2, [0, 1, 6, 7, 8]), (3, [0, 1, 5, 6, 7]), (4, [0, 1, 5, 6, 7, 22]), (5, [4]), (6, [0, 1, 6, 7]), (7, [4])], [(0, [0, 1, 6, 7])], [], []⟩
def h72 : Hints := ⟨[(0, [0, 1]), (1, [3])], [], [(1, [[], [0], [], [0, 1, 2], [], [4], [], [6], [6, 7], [], [6, 7, 8, 9], [4, 5, 6, 7, 8, 9, 10], List.range 12, List.range 13])], []⟩
def h73 : Hints := ⟨[(0, [0, 1]), (1, [0, 1, 10]), (2, [4]), (3, [0, 1, 12, 13]), (4, [0, 1, 12, 13, 14]), (5, [0, 1, 5, 12, 13]), (6, [0, 1, 12, 13, 24]), (7, [4]), (8, [0, 1, 12, 13]), (9, [4])], [(0, [0, 1, 12, 13])], [(6, [[], [], [0, 1], [0, 1, 2], [], [], [4, 5], [4, 5, 6], List.range 8])], []⟩
def h74 : Hints := ⟨[(0, [1, 2]), (1, [1, 4]), (2, [3])], [], [], []⟩
def h75 : Hints := ⟨[(0, [0, 1, 2]), (1, [4])], [], [(1, [[], [], [0, 1], [], [], [4], [], [4, 5, 6], [4, 5, 6, 7], [4, 5, 6, 7, 8], [3, 4, 5, 6, 7, 8, 9], List.range 11, List.range 12])], []⟩
def h76 : Hints := ⟨[(0, [0, 1]), (1, [4])], [], [], []⟩
def h77 : Hints := ⟨[(0, [0, 1]), (1, [3])], [], [], []⟩
def h78 : Hints := ⟨[(0, [2, 3, 4]), (1, [6])], [], [], []⟩
def h79 : Hints := ⟨[(0, [0, 1]), (1, [0, 1, 10]), (2, [0, 1]), (3, [0, 5, 6]), (4, [0, 6, 26]), (5, [0, 6]), (6, [0, 7]), (7, [7, 8]), (8, [7, 8, 37]), (9, [7, 8]), (10, [4])], [(0, [7, 8])], [(9, [[], [], [], [1, 2], [], [], [4, 5], [1, 2, 3, 4, 5, 6], List.range 8, List.range 9])], []⟩
def h80 : Hints := ⟨[(0, [1]), (1, [1, 3]), (2, [3, 16]), (3, [3, 4]), (4, [3, 4, 21]), (5, [3, 4]), (6, [3, 4]), (7, [2])], [(0, [3, 4])], [], []⟩
def h81 : Hints := ⟨[(0, [0]), (1, [2])], [], [], []⟩
def h82 : Hints := ⟨[(0, [1]), (1, [2])], [], [], []⟩
def h83 : Hints := ⟨[(0, [2, 3, 4]), (1, [6])], [], [], []⟩
def h84 : Hints := ⟨[(0, [1, 2, 3]), (1, [6])], [], [], []⟩
def h85 : Hints := ⟨[(0, [1, 2, 3, 6, 7]), (1, [1, 2, 3, 6, 7, 9]), (2, [1, 2, 3, 6, 7, 9, 16]), (3, [6, 7, 8]), (4, [1, 2, 3, 6, 7, 21]), (5, [6, 7, 8]), (6, [1, 2, 3, 6, 7, 29]), (7, [6, 7, 8]), (8, [1, 2, 3, 6, 7, 38]), (9, [6, 7, 8]), (10, [1, 2, 3, 6, 7]), (11, [1, 2, 3, 6, 7, 48, 49, 50]), (12, [1, 2, 3, 6, 7, 48, 49, 50, 51]), (13, [1, 2, 3, 6, 7, 10, 11, 48, 49, 50]), (14, [1, 2, 3, 6, 7, 12, 13, 48, 49, 50]), (15, [1, 2, 3, 6, 7, 12, 13, 48, 49, 50, 70]), (16, [6, 7, 8]), (17, [1, 2, 3, 6, 7, 48, 49, 50]), (18, [1, 2, 3, 6, 7, 48, 49, 50]), (19, [6, 7, 8])], [(1, [1, 2, 3, 6, 7, 48, 49, 50])], [(14, [[], [], [], [1, 2], [1, 2, 3], [], [5], [], List.range 8, List.range 9, List.range 10, List.range 11, List.range 12, List.range 12, List.range 13, List.range 15])], []⟩
def h86 : Hints := ⟨[(0, [1, 3, 5, 6]), (1, [1, 3, 5, 6, 8]), (2, [1, 3, 5, 6, 8, 12]), (3, [6, 7]), (4, [1, 3, 5, 6, 16]), (5, [6, 7]), (6, [1, 3, 5, 6, 23]), (7, [6, 7]), (8, [5, 6, 31]), (9, [5, 6, 9]), (10, [5, 6, 9, 36]), (11, [5, 6]), (12, [6, 7])], [(1, [5, 6])], [], []⟩
def h87 : Hints := ⟨[(0, [3, 4, 5, 6]), (1, [3, 4, 5, 6, 8]), (2, [3, 4, 5, 6, 8, 11]), (3, [6, 7]), (4, [3, 4, 5, 6, 16]), (5, [3, 4, 5, 6, 16]), (6, [6, 7]), (7, [6, 7])], [], [], []⟩
def h88 : Hints := ⟨[(0, [0, 1]), (1, [0, 1, 10]), (2, [4]), (3, [0, 1, 5]), (4, [0, 1, 5, 14]), (5, [0, 1, 5]), (6, [0, 1, 5, 25]), (7, [4]), (8, [4])], [(0, [0, 1, 5])], [(6, [[], [], [0, 1], [0, 1, 2], [], [], [4, 5], [4, 5, 6], List.range 8])], []⟩
def h89 : Hints := ⟨[(0, [2, 3]), (1, [2, 3, 6]), (2, [2, 3, 6, 11]), (3, [4, 5]), (4, [2, 3, 16]), (5, [4, 5]), (6, [7]), (7, [7, 20]), (8, [4, 5]), (9, [4, 5])], [], [], []⟩
def h90 : Hints := ⟨[(0, [0, 1, 4]), (1, [4])], [], [], []⟩
def h95 : Hints := ⟨[(0, [2, 3, 4]), (1, [2, 3, 4, 6]), (2, [2, 3, 4, 6, 10]), (3, [4, 5]), (4, [4, 5])], [], [], []⟩
def h97 : Hints := ⟨[(0, [0, 1, 2, 6]), (1, [0, 1, 2, 6, 7]), (2, [1, 2, 6, 7, 14, 15]), (3, [1, 2, 6, 7, 14, 15, 16]), (4, [1, 2, 6, 7, 8, 14, 15]), (5, [1, 2, 6, 7, 8, 14, 15, 18, 19]), (6, [1, 2, 6, 7, 8, 14, 15, 18, 19, 20]), (7, [1, 2, 6, 7, 8, 9, 14, 15, 18, 19]), (8, [1, 2, 6, 7, 8, 9, 14, 15, 18, 19, 25]), (9, [1, 2, 6, 7, 8, 14, 15, 18, 19]), (10, [1, 2, 6, 7, 8, 14, 15, 18, 19]), (11, [1, 2, 6, 7, 14, 15]), (12, [6])], [(0, [1, 2, 6, 7, 14, 15]), (2, [1, 2, 6, 7, 8, 14, 15, 18, 19])], [(9, [[], [0], [], [0, 1, 2], [0, 1, 2, 3], [], [5], List.range 7, List.range 8, List.range 9])], []⟩
def h99 : Hints := ⟨[(0, [1, 2, 3]), (1, [6])], [], [(1, [[], [0], [0, 1], [], [], [4], [4, 5], [4, 5, 6], [3, 4, 5, 6, 7], List.range 9, List.range 10, [], [], [12], [12, 13], [11, 12, 13, 14], List.range 16, List.range 17, List.range 18, List.range 19])], []⟩
def h115 : Hints := ⟨[(0, [1]), (1, [2])], [], [], []⟩
def h116 : Hints := ⟨[(0, [0]), (1, [2])], [], [], []⟩
def h117 : Hints := ⟨[(0, [0, 1]), (1, [4])], [], [], []⟩
def h118 : Hints := ⟨[(0, [1, 2]), (1, [1, 2, 3, 4]), (2, [1, 2, 3, 4, 12]), (3, [1, 2, 3, 4]), (4, [2])], [(0, [1, 2, 3, 4])], [(1, [[], [0], [0, 1], [], [3], [3, 4], [0, 1, 2], List.range 7]), (3, [[], [], [], [1, 2], [0, 1], List.range 5]), (4, [[], [0], [0, 1], [], [0, 1, 2, 3], [], [5], [5, 6], [], [5, 6, 7, 8], List.range 10, List.range 11, List.range 12])], []⟩
def h127 : Hints := ⟨[(0, [2, 3, 4]), (1, [6])], [], [], []⟩
def h132 : Hints := ⟨[(0, [0, 1]), (1, [0, 1, 7, 8]), (2, [0, 1, 7, 8, 9]), (3, [0, 1, 5, 7, 8]), (4, [0, 1, 5, 7, 8, 16]), (5, [4]), (6, [0, 1, 7, 8]), (7, [4])], [(0, [0, 1, 7, 8])], [], []⟩
def h133 : Hints := ⟨[(0, [0, 1, 2]), (1, [4])], [], [], []⟩
def h134 : Hints := ⟨[(0, [0, 1]), (1, [6, 7]), (2, [4, 5]), (3, [8, 9]), (4, [4, 5])], [], [], []⟩
def h135 : Hints := ⟨[(0, [0]), (1, [2])], [], [], []⟩
def h136 : Hints := ⟨[(0, [2, 3]), (1, [4])], [], [], []⟩
def h137 : Hints := ⟨[(0, [1, 2, 3]), (1, [6])], [], [], []⟩
def h138 : Hints := ⟨[(0, [0, 1, 2]), (1, [4])], [], [], []⟩
def h139 : Hints := ⟨[(0, [0]), (1, [0, 3]), (2, [0, 3, 4]), (3, [0, 3, 4, 15, 16]), (4, [0, 3, 4, 15, 16, 17]), (5, [0, 3, 4, 6, 15, 16]), (6, [0, 3, 4, 6, 7, 15, 16]), (7, [0, 3, 4, 7, 8, 15, 16]), (8, [0, 3, 4, 7, 8, 15, 16, 36]), (9, [0, 3, 4, 15, 16]), (10, [0, 3, 4, 15, 16]), (11, [0, 3, 4, 41]), (12, [2, 3]), (13, [0, 3, 4]), (14, [0, 3, 4, 9]), (15, [0, 2, 3, 4, 9]), (16, [0, 2, 3, 4, 9, 62]), (17, [0, 2, 3, 4, 9, 63, 64]), (18, [0, 2, 3, 4, 9, 63, 64, 65]), (19, [0, 2, 3, 4, 9, 11, 63, 64]), (20, [0, 2, 3, 4, 9, 11, 12, 13, 63, 64]), (21, [0, 2, 3, 4, 9, 11, 12, 13, 14, 63, 64]), (22, [0, 2, 3, 4, 9, 11, 12, 14, 63, 64, 89]), (23, [0, 2, 3, 4, 9]), (24, [0, 2, 3, 4, 9, 63, 64]), (25, [2, 3])], [(0, [0, 3, 4, 15, 16]), (2, [0, 2, 3, 4, 9]), (4, [0, 2, 3, 4, 9, 63, 64])], [(7, [[], [], [1], [1, 2], [1, 2, 3], [1, 2, 3, 4], [], List.range 7, [], [], List.range 10, List.range 11, List.range 12]), (14, [[], [], [], [2], [2, 3], [2, 3, 4], [2, 3, 4, 5], [], [7], [1, 2, 3, 4, 5, 6, 7, 8], List.range 10, List.range 11]), (23, [[], [], [], [1, 2], [], [4], [], [6], [4, 5, 6, 7], [0, 6, 7], [0, 1, 2, 3, 6, 7, 9], List.range 11])], []⟩
def h140 : Hints := ⟨[(0, [2, 3]), (1, [2, 3, 5, 6]), (2, [2, 3, 5, 6, 14]), (3, [3, 5, 6]), (4, [4])], [], [(1, [[], [0], [], [2], [2, 3], [2, 3, 4], [], [], [0, 1, 6, 7], List.range 9]), (3, [[], [0], [], [2], [2, 3], [0, 1], List.range 6])], []⟩
def h141 : Hints := ⟨[(0, List.range 5), (1, [7, 8])], [], [(1, [[], [], [1], [1, 2], [0, 1, 2, 3], [], List.range 6, [], [], [8], [7, 8, 9], [], [7, 8, 9, 10, 11], List.range 7, List.range 14])], []⟩
def h142 : Hints := ⟨[(0, [1]), (1, [24]), (2, [2]), (3, [2])], [], [], []⟩
def h143 : Hints := ⟨[(0, [0, 1]), (1, [1, 5, 6]), (2, [1, 5, 6, 11]), (3, [1, 5, 6, 7]), (4, [1, 5, 6, 7, 21]), (5, [1, 5, 6]), (6, [1, 5, 6]), (7, [4])], [(0, [1, 5, 6])], [], []⟩
def h144 : Hints := ⟨[(0, [0, 1, 2]), (1, [4])], [], [(1, [[], [0], [], [0, 1, 2], [], List.range 5, List.range 6])], []⟩
def h145 : Hints := ⟨[(0, [1, 2]), (1, [2])], [], [], []⟩
def h146 : Hints := ⟨[(0, [1, 2]), (1, [2, 5]), (2, [4])], [], [], []⟩
def h150 : Hints := ⟨[(0, [0, 1, 2, 3]), (1, [6])], [], [(1, [[], [0], [], [], [], [2, 3, 4], [2, 3, 4, 5], [2, 3, 4, 5], List.range 8, List.range 9])], []⟩
def h165 : Hints := ⟨[(0, [0, 1]), (1, [0, 1, 7, 8]), (2, [0, 1, 7, 8, 9]), (3, [0, 1, 5, 7, 8]), (4, [0, 1, 5, 7, 8, 16]), (5, [4]), (6, [0, 1, 7, 8]), (7, [4])], [(0, [0, 1, 7, 8])], [], []⟩
def h170 : Hints := ⟨[(0, [0, 1, 2]), (1, [4])], [], [], []⟩
def h172 : Hints := ⟨[(0, [0, 1]), (1, [6]), (2, [4, 5])], [], [], []⟩
def h173 : Hints := ⟨[(0, [0, 1]), (1, [0, 1, 6]), (2, [0, 1, 6, 7]), (3, [0, 1, 6, 7, 8]), (4, [0, 1, 6, 7, 8, 9]), (5, [0, 1, 6, 7, 8, 9, 10]), (6, [0, 1, 6, 7, 9, 11]), (7, [0, 1, 6, 7, 9, 11, 12]), (8, [0, 1, 6, 7, 9, 12, 13]), (9, [0, 1, 7, 9, 12, 13]), (10, [0, 1, 4]), (11, [4, 5])], [], [], []⟩
def h174 : Hints := ⟨[(0, [1, 2]), (1, [2, 6]), (2, [2, 5]), (3, [2]), (4, [4])], [(0, [2])], [], []⟩
def h175 : Hints := ⟨[(0, [0, 1, 2, 4]), (1, [0, 1, 2, 4, 8]), (2, [0, 1, 2, 4]), (3, [0, 1, 4, 5]), (4, [0, 1, 4, 5]), (5, [0, 1, 4, 5, 21])], [(0, [0, 1, 4, 5])], [], []⟩
def h176 : Hints := ⟨[(0, [0, 1, 4]), (1, [0, 1, 4]), (2, [4])], [], [], []⟩
def h177 : Hints := ⟨[(0, [0, 1, 2]), (1, [0, 1, 2, 7]), (2, [0, 1, 16]), (3, [6]), (4, [20]), (5, [6]), (6, [6])], [], [], []⟩
def h178 : Hints := ⟨[(0, [0, 3]), (1, [0, 3, 14]), (2, [38]), (3, [4]), (4, [4]), (5, [0, 3, 5, 6]), (6, [0, 3, 5, 48]), (7, [4]), (8, [0, 3, 7]), (9, [0, 3, 7, 50, 51]), (10, [0, 3, 7, 50, 51, 52]), (11, [0, 3, 7, 9, 50, 51]), (12, [0, 3, 7, 9, 10, 11, 50, 51]), (13, [0, 3, 7, 9, 10, 50, 51, 61]), (14, [0, 3, 7, 50, 51]), (15, [0, 3, 7, 50, 51]), (16, [7]), (17, [4])], [(0, [0, 3, 7, 50, 51])], [(2, [[], [0], [0, 1], [0, 1, 2], [0, 1, 2, 3], List.range 5, [0, 1, 2, 3], [0, 1, 2, 3, 6], [0, 1, 2, 3, 6, 7], [0, 1, 2, 3, 6, 7, 8], List.range 10, List.range 11, List.range 12, List.range 13, List.range 12, [0, 1, 2, 3, 4, 5, 6, 7, 8, 9, 10, 11, 14], List.range 16, List.range 12, [0, 1, 2, 3, 4, 5, 6, 7, 8, 9, 10, 11, 17], [0, 1, 2, 3, 4, 5, 6, 7, 8, 9, 10, 11, 17, 18], [0, 1, 2, 3, 4, 5, 6, 7, 8, 9, 10, 11, 17, 18, 19], List.range 21, List.range 22, List.range 23]), (5, [[], [0], [0, 1], [0, 1, 2], [], List.range 5, List.range 6, List.range 7, List.range 7, List.range 8, List.range 10]), (14, [[], [], [], [2], [], [1, 2, 3, 4], [], [], [1, 2, 3, 4, 5, 6, 7], [1, 2, 3, 4, 5, 6, 7, 8], List.range 10, List.range 11]), (16, [[], [0], [0, 1], [0, 1, 2], [], [], List.range 6])], []⟩
def h179 : Hints := ⟨[(0, [0]), (1, [3]), (2, [2]), (3, [2])], [], [], []⟩
def h180 : Hints := ⟨[(0, [0, 2, 4, 6]), (1, [0, 2, 4, 6, 8]), (2, [0, 4, 6, 8, 16]), (3, [0, 6, 8]), (4, [0, 4, 6, 8, 25]), (5, [0, 6, 8]), (6, [6, 7])], [], [(6, [[], [], [1], [], [3], [3, 4], [3, 4, 5], [1, 2, 3, 4, 5, 6], [0], List.range 9])], []⟩
def h181 : Hints := ⟨[(0, [1, 2, 4]), (1, [1, 2, 4, 8, 9]), (2, [1, 2, 4, 8, 9, 10]), (3, [1, 2, 4, 5, 8, 9]), (4, [1, 2, 4, 8, 9]), (5, [1, 2, 4, 8, 9]), (6, [4])], [(0, [1, 2, 4, 8, 9])], [], []⟩
def h182 : Hints := ⟨[(0, [1, 2, 4]), (1, [1, 4, 9, 10, 11]), (2, [1, 4, 9, 10, 11, 12]), (3, [1, 4, 6, 9, 10, 11]), (4, [1, 4, 9, 10, 11]), (5, [1, 4, 9, 10, 11]), (6, [4])], [(0, [1, 4, 9, 10, 11])], [], []⟩
def h183 : Hints := ⟨[(0, [1, 2, 3, 4]), (1, [2, 3, 4, 8, 9]), (2, [2, 3, 4, 8, 9, 10]), (3, [2, 3, 4, 5, 8, 9]), (4, [2, 3, 4, 5, 8, 9, 15]), (5, [2, 3, 4, 5, 6, 8, 9]), (6, [2, 3, 4, 5, 6, 7, 8, 9]), (7, [2, 3, 4, 5, 6, 7, 8, 9, 26]), (8, [2, 3, 4, 5, 7, 8, 9]), (9, [2, 3, 4, 5, 8, 9, 35]), (10, [2, 3, 4, 8, 9])], [(0, [2, 3, 4, 8, 9]), (2, [2, 3, 4, 5, 8, 9])], [(8, [[], [0], [], [0, 1], [0, 1, 3], List.range 5, List.range 6])], []⟩
def h184 : Hints := ⟨[(0, [1, 2]), (1, [1, 2, 4]), (2, [1, 2, 4, 5]), (3, [1, 2, 4, 5, 10, 11]), (4, [1, 2, 4, 5, 10, 11, 12]), (5, [1, 2, 4, 5, 6, 10, 11]), (6, [1, 2, 4, 5, 6, 10, 11, 17]), (7, [1, 2, 4, 5, 6, 10, 11]), (8, [1, 2, 4, 5, 6, 7, 10, 11]), (9, [1, 2, 4, 5, 6, 7, 10, 11, 33]), (10, [1, 2, 4, 5, 6, 7, 10, 11]), (11, [1, 2, 4, 5, 10, 11, 41]), (12, [1, 2, 4, 5, 10, 11]), (13, [1, 2, 43]), (14, [])], [(0, [1, 2, 4, 5, 10, 11]), (2, [1, 2, 4, 5, 6, 7, 10, 11])], [], []⟩
def h195 : Hints := ⟨[(0, [0, 1]), (1, [3])], [], [(1, [[], [], [0, 1], [0, 1, 2], [], [], [], [6], [5, 6, 7], [5, 6, 7, 8], [], [10], [5, 6, 7, 8, 9, 10, 11], [4, 5, 6, 7, 8, 9, 10, 11, 12], [4, 5, 6, 7, 8, 9, 10, 11, 12, 13], List.range 15, List.range 16])], []⟩
def F : Nat → Option AFn
  | 4 => some a4
  | 12 => some a12
  | 23 => some a23
  | 27 => some a27
  | 28 => some a28
  | 29 => some a29
  | 30 => some a30
  | 31 => some a31
  | 32 => some a32
  | 33 => some a33
  | 34 => some a34
  | 35 => some a35
  | 36 => some a36
  | 37 => some a37
  | 38 => some a38
  | 39 => some a39
  | 59 => some a59
  | 60 => some a60
  | 68 => some a68
  | 69 => some a69
  | 70 => some a70
  | 71 => some a71
  | 72 => some a72
  | 73 => some a73
  | 74 => some a74
  | 75 => some a75
  | 76 => some a76
  | 77 => some a77
  | 78 => some a78
  | 79 => some a79
  | 80 => some a80
  | 81 => some a81
  | 82 => some a82
  | 83 => some a83
  | 84 => some a84
  | 85 => some a85
  | 86 => some a86
  | 87 => some a87
  | 88 => some a88
  | 89 => some a89
  | 90 => some a90
  | 95 => some a95
  | 97 => some a97
  | 99 => some a99
  | 115 => some a115
  | 116 => some a116
  | 117 => some a117
  | 118 => some a118
  | 127 => some a127
  | 132 => some a132
  | 133 => some a133
  | 134 => some a134
  | 135 => some a135
  | 136 => some a136
  | 137 => some a137
  | 138 => some a138
  | 139 => some a139
  | 140 => some a140
  | 141 => some a141
  | 142 => some a142
  | 143 => some a143
  | 144 => some a144
  | 145 => some a145
  | 146 => some a146
  | 150 => some a150
  | 165 => some a165
  | 170 => some a170
  | 172 => some a172
  | 173 => some a173
  | 174 => some a174
  | 175 => some a175
  | 176 => some a176
  | 177 => some a177
  | 178 => some a178
  | 179 => some a179
  | 180 => some a180
  | 181 => some a181
  | 182 => some a182
  | 183 => some a183
  | 184 => some a184
  | 195 => some a195
  | _ => none
theorem c4 : compFn Try.prog bor h4 Try.f4 = some a4 := by kernel_rfl
theorem c12 : compFn Try.prog bor h12 Try.f12 = some a12 := by kernel_rfl
theorem c23 : compFn Try.prog bor h23 Try.f23 = some a23 := by kernel_rfl
theorem c27 : compFn Try.prog bor h27 Try.f27 = some a27 := by kernel_rfl
theorem c28 : compFn Try.prog bor h28 Try.f28 = some a28 := by kernel_rfl
theorem c29 : compFn Try.prog bor h29 Try.f29 = some a29 := by kernel_rfl
theorem c30 : compFn Try.prog bor h30 Try.f30 = some a30 := by kernel_rfl
theorem c31 : compFn Try.prog bor h31 Try.f31 = some a31 := by kernel_rfl
theorem c32 : compFn Try.prog bor h32 Try.f32 = some a32 := by kernel_rfl
theorem c33 : compFn Try.prog bor h33 Try.f33 = some a33 := by kernel_rfl
theorem c34 : compFn Try.prog bor h34 Try.f34 = some a34 := by kernel_rfl
theorem c35 : compFn Try.prog bor h35 Try.f35 = some a35 := by kernel_rfl
theorem c36 : compFn Try.prog bor h36 Try.f36 = some a36 := by kernel_rfl
theorem c37 : compFn Try.prog bor h37 Try.f37 = some a37 := by kernel_rfl
theorem c38 : compFn Try.prog bor h38 Try.f38 = some a38 := by kernel_rfl
theorem c39 : compFn Try.prog bor h39 Try.f39 = some a39 := by kernel_rfl
theorem c59 : compFn Try.prog bor h59 Try.f59 = some a59 := by kernel_rfl
theorem c60 : compFn Try.prog bor h60 Try.f60 = some a60 := by kernel_rfl
theorem c68 : compFn Try.prog bor h68 Try.f68 = some a68 := by kernel_rfl
theorem c69 : compFn Try.prog bor h69 Try.f69 = some a69 := by kernel_rfl
theorem c71 : compFn Try.prog bor h71 Try.f71 = some a71 := by kernel_rfl
theorem c72 : compFn Try.prog bor h72 Try.f72 = some a72 := by kernel_rfl
theorem c73 : compFn Try.prog bor h73 Try.f73 = some a73 := by kernel_rfl
theorem c74 : compFn Try.prog bor h74 Try.f74 = some a74 := by kernel_rfl
theorem c75 : compFn Try.prog bor h75 Try.f75 = some a75 := by kernel_rfl
theorem c76 : compFn Try.prog bor h76 Try.f76 = some a76 := by kernel_rfl
theorem c77 : compFn Try.prog bor h77 Try.f77 = some a77 := by kernel_rfl
theorem c78 : compFn Try.prog bor h78 Try.f78 = some a78 := by kernel_rfl
theorem c79 : compFn Try.prog bor h79 Try.f79 = some a79 := by kernel_rfl
theorem c80 : compFn Try.prog bor h80 Try.f80 = some a80 := by kernel_rfl
theorem c81 : compFn Try.prog bor h81 Try.f81 = some a81 := by kernel_rfl
theorem c82 : compFn Try.prog bor h82 Try.f82 = some a82 := by kernel_rfl
theorem c83 : compFn Try.prog bor h83 Try.f83 = some a83 := by kernel_rfl
theorem c84 : compFn Try.prog bor h84 Try.f84 = some a84 := by kernel_rfl
theorem c85 : compFn Try.prog bor h85 Try.f85 = some a85 := by kernel_rfl
theorem c86 : compFn Try.prog bor h86 Try.f86 = some a86 := by kernel_rfl
theorem c87 : compFn Try.prog bor h87 Try.f87 = some a87 := by kernel_rfl
theorem c88 : compFn Try.prog bor h88 Try.f88 = some a88 := by kernel_rfl
theorem c89 : compFn Try.prog bor h89 Try.f89 = some a89 := by kernel_rfl
theorem c90 : compFn Try.prog bor h90 Try.f90 = some a90 := by kernel_rfl
theorem c95 : compFn Try.prog bor h95 Try.f95 = some a95 := by kernel_rfl
theorem c97 : compFn Try.prog bor h97 Try.f97 = some a97 := by kernel_rfl
theorem c99 : compFn Try.prog bor h99 Try.f99 = some a99 := by kernel_rfl
theorem c115 : compFn Try.prog bor h115 Try.f115 = some a115 := by kernel_rfl
theorem c116 : compFn Try.prog bor h116 Try.f116 = some a116 := by kernel_rfl
theorem c117 : compFn Try.prog bor h117 Try.f117 = some a117 := by kernel_rfl
theorem c118 : compFn Try.prog bor h118 Try.f118 = some a118 := by kernel_rfl
theorem c127 : compFn Try.prog bor h127 Try.f127 = some a127 := by kernel_rfl
theorem c132 : compFn Try.prog bor h132 Try.f132 = some a132 := by kernel_rfl
theorem c133 : compFn Try.prog bor h133 Try.f133 = some a133 := by kernel_rfl
theorem c134 : compFn Try.prog bor h134 Try.f134 = some a134 := by kernel_rfl
theorem c135 : compFn Try.prog bor h135 Try.f135 = some a135 := by kernel_rfl
theorem c136 : compFn Try.prog bor h136 Try.f136 = some a136 := by kernel_rfl
theorem c137 : compFn Try.prog bor h137 Try.f137 = some a137 := by kernel_rfl
theorem c138 : compFn Try.prog bor h138 Try.f138 = some a138 := by kernel_rfl
theorem c139 : compFn Try.prog bor h139 Try.f139 = some a139 := by kernel_rfl
theorem c140 : compFn Try.prog bor h140 Try.f140 = some a140 := by kernel_rfl
theorem c141 : compFn Try.prog bor h141 Try.f141 = some a141 := by kernel_rfl
theorem c142 : compFn Try.prog bor h142 Try.f142 = some a142 := by kernel_rfl
theorem c143 : compFn Try.prog bor h143 Try.f143 = some a143 := by kernel_rfl
theorem c144 : compFn Try.prog bor h144 Try.f144 = some a144 := by kernel_rfl
theorem c145 : compFn Try.prog bor h145 Try.f145 = some a145 := by kernel_rfl
theorem c146 : compFn Try.prog bor h146 Try.f146 = some a146 := by kernel_rfl
theorem c150 : compFn Try.prog bor h150 Try.f150 = some a150 := by kernel_rfl
theorem c165 : compFn Try.prog bor h165 Try.f165 = some a165 := by kernel_rfl
theorem c170 : compFn Try.prog bor h170 Try.f170 = some a170 := by kernel_rfl
theorem c172 : compFn Try.prog bor h172 Try.f172 = some a172 := by kernel_rfl
theorem c173 : compFn Try.prog bor h173 Try.f173 = some a173 := by kernel_rfl
theorem c174 : compFn Try.prog bor h174 Try.f174 = some a174 := by kernel_rfl
theorem c175 : compFn Try.prog bor h175 Try.f175 = some a175 := by kernel_rfl
theorem c176 : compFn Try.prog bor h176 Try.f176 = some a176 := by kernel_rfl
theorem c177 : compFn Try.prog bor h177 Try.f177 = some a177 := by kernel_rfl
theorem c178 : compFn Try.prog bor h178 Try.f178 = some a178 := by kernel_rfl
theorem c179 : compFn Try.prog bor h179 Try.f179 = some a179 := by kernel_rfl
theorem c180 : compFn Try.prog bor h180 Try.f180 = some a180 := by kernel_rfl
theorem c181 : compFn Try.prog bor h181 Try.f181 = some a181 := by kernel_rfl
theorem c182 : compFn Try.prog bor h182 Try.f182 = some a182 := by kernel_rfl
theorem c183 : compFn Try.prog bor h183 Try.f183 = some a183 := by kernel_rfl
theorem c184 : compFn Try.prog bor h184 Try.f184 = some a184 := by kernel_rfl
theorem c195 : compFn Try.prog bor h195 Try.f195 = some a195 := by kernel_rfl
theorem F_ok (f : Nat) (afn : AFn) (h : F f = some afn) : (∃ fn hh, Try.prog.funcs[f]? = some fn ∧ compFn Try.prog bor hh fn = some afn) ∨ f = 70 ∧ afn = a70 := by
  unfold F at h
  split at h
  · cases h; exact .inl ⟨_, _, Try.func4, c4⟩
  · cases h; exact .inl ⟨_, _, Try.func12, c12⟩
  · cases h; exact .inl ⟨_, _, Try.func23, c23⟩
  · cases h; exact .inl ⟨_, _, Try.func27, c27⟩
  · cases h; exact .inl ⟨_, _, Try.func28, c28⟩
  · cases h; exact .inl ⟨_, _, Try.func29, c29⟩
  · cases h; exact .inl ⟨_, _, Try.func30, c30⟩
  · cases h; exact .inl ⟨_, _, Try.func31, c31⟩
  · cases h; exact .inl ⟨_, _, Try.func32, c32⟩
  · cases h; exact .inl ⟨_, _, Try.func33, c33⟩
  · cases h; exact .inl ⟨_, _, Try.func34, c34⟩
  · cases h; exact .inl ⟨_, _, Try.func35, c35⟩
  · cases h; exact .inl ⟨_, _, Try.func36, c36⟩
  · cases h; exact .inl ⟨_, _, Try.func37, c37⟩
  · cases h; exact .inl ⟨_, _, Try.func38, c38⟩
  · cases h; exact .inl ⟨_, _, Try.func39, c39⟩
  · cases h; exact .inl ⟨_, _, Try.func59, c59⟩
  · cases h; exact .inl ⟨_, _, Try.func60, c60⟩
  · cases h; exact .inl ⟨_, _, Try.func68, c68⟩
  · cases h; exact .inl ⟨_, _, Try.func69, c69⟩
  · cases h; simp
  · cases h; exact .inl ⟨_, _, Try.func71, c71⟩
  · cases h; exact .inl ⟨_, _, Try.func72, c72⟩
  · cases h; exact .inl ⟨_, _, Try.func73, c73⟩
  · cases h; exact .inl ⟨_, _, Try.func74, c74⟩
  · cases h; exact .inl ⟨_, _, Try.func75, c75⟩
  · cases h; exact .inl ⟨_, _, Try.func76, c76⟩
  · cases h; exact .inl ⟨_, _, Try.func77, c77⟩
  · cases h; exact .inl ⟨_, _, Try.func78, c78⟩
  · cases h; exact .inl ⟨_, _, Try.func79, c79⟩
  · cases h; exact .inl ⟨_, _, Try.func80, c80⟩
  · cases h; exact .inl ⟨_, _, Try.func81, c81⟩
  · cases h; exact .inl ⟨_, _, Try.func82, c82⟩
  · cases h; exact .inl ⟨_, _, Try.func83, c83⟩
  · cases h; exact .inl ⟨_, _, Try.func84, c84⟩
  · cases h; exact .inl ⟨_, _, Try.func85, c85⟩
  · cases h; exact .inl ⟨_, _, Try.func86, c86⟩
  · cases h; exact .inl ⟨_, _, Try.func87, c87⟩
  · cases h; exact .inl ⟨_, _, Try.func88, c88⟩
  · cases h; exact .inl ⟨_, _, Try.func89, c89⟩
  · cases h; exact .inl ⟨_, _, Try.func90, c90⟩
  · cases h; exact .inl ⟨_, _, Try.func95, c95⟩
  · cases h; exact .inl ⟨_, _, Try.func97, c97⟩
  · cases h; exact .inl ⟨_, _, Try.func99, c99⟩
  · cases h; exact .inl ⟨_, _, Try.func115, c115⟩
  · cases h; exact .inl ⟨_, _, Try.func116, c116⟩
  · cases h; exact .inl ⟨_, _, Try.func117, c117⟩
  · cases h; exact .inl ⟨_, _, Try.func118, c118⟩
  · cases h; exact .inl ⟨_, _, Try.func127, c127⟩
  · cases h; exact .inl ⟨_, _, Try.func132, c132⟩
  · cases h; exact .inl ⟨_, _, Try.func133, c133⟩
  · cases h; exact .inl ⟨_, _, Try.func134, c134⟩
  · cases h; exact .inl ⟨_, _, Try.func135, c135⟩
  · cases h; exact .inl ⟨_, _, Try.func136, c136⟩
  · cases h; exact .inl ⟨_, _, Try.func137, c137⟩
  · cases h; exact .inl ⟨_, _, Try.func138, c138⟩
  · cases h; exact .inl ⟨_, _, Try.func139, c139⟩
  · cases h; exact .inl ⟨_, _, Try.func140, c140⟩
  · cases h; exact .inl ⟨_, _, Try.func141, c141⟩
  · cases h; exact .inl ⟨_, _, Try.func142, c142⟩
  · cases h; exact .inl ⟨_, _, Try.func143, c143⟩
  · cases h; exact .inl ⟨_, _, Try.func144, c144⟩
  · cases h; exact .inl ⟨_, _, Try.func145, c145⟩
  · cases h; exact .inl ⟨_, _, Try.func146, c146⟩
  · cases h; exact .inl ⟨_, _, Try.func150, c150⟩
  · cases h; exact .inl ⟨_, _, Try.func165, c165⟩
  · cases h; exact .inl ⟨_, _, Try.func170, c170⟩
  · cases h; exact .inl ⟨_, _, Try.func172, c172⟩
  · cases h; exact .inl ⟨_, _, Try.func173, c173⟩
  · cases h; exact .inl ⟨_, _, Try.func174, c174⟩
  · cases h; exact .inl ⟨_, _, Try.func175, c175⟩
  · cases h; exact .inl ⟨_, _, Try.func176, c176⟩
  · cases h; exact .inl ⟨_, _, Try.func177, c177⟩
  · cases h; exact .inl ⟨_, _, Try.func178, c178⟩
  · cases h; exact .inl ⟨_, _, Try.func179, c179⟩
  · cases h; exact .inl ⟨_, _, Try.func180, c180⟩
  · cases h; exact .inl ⟨_, _, Try.func181, c181⟩
  · cases h; exact .inl ⟨_, _, Try.func182, c182⟩
  · cases h; exact .inl ⟨_, _, Try.func183, c183⟩
  · cases h; exact .inl ⟨_, _, Try.func184, c184⟩
  · cases h; exact .inl ⟨_, _, Try.func195, c195⟩
  · cases h
end Go.Abs
