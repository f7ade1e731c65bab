/-
  The functions of this seat are what the compile step gives: proved by the kernel.
-/
import Derived.Test.YtgpbjihpkoiaiaaProg
import Derived.Test.YtgpbjihpkoiaiaaComp
import Derived.Test.YtgpbjihpkoiaiaaFnsA
import Derived.Test.YtgpbjihpkoiaiaaFnsB
import Derived.KernelRfl
set_option linter.all false
set_option maxRecDepth 100000
set_option maxHeartbeats 0
namespace Go.Abs
open Go.Proofs
def bor : Nat → List Nat
  | 139 => [0]
  | 156 => [3000]
  | 174 => [3000]
  | 176 => [0]
  | 177 => [0]
  | 178 => [0]
  | 180 => [0]
  | _ => []

def h3 : Hints := ⟨[(0, [3, 4, 5]), (1, [4, 5, 7, 8]), (2, [4, 5, 7, 8, 9, 10]), (3, [4, 5, 7, 8, 9, 10, 11]), (4, [4, 5, 7, 8, 9, 10, 11, 45]), (5, [4, 5, 7, 8, 9, 10, 11]), (6, [4, 5, 7, 8, 9, 10, 11, 12, 13]), (7, [4, 5, 7, 8, 9, 10, 11, 13, 14, 15]), (8, [4, 5, 7, 8, 9, 10, 11, 13, 14, 83]), (9, [6]), (10, [4, 5, 7, 8, 9, 10, 11, 16]), (11, [4, 5, 7, 8, 9, 10, 11, 16, 89]), (12, [6]), (13, [4, 5, 7, 8, 9, 10, 11]), (14, [7, 8, 9, 10, 17, 18]), (15, [7, 8, 9, 10, 17, 122]), (16, [6]), (17, [7, 8, 9, 10, 17, 21]), (18, [7, 8, 9, 10, 21, 22, 23]), (19, [7, 8, 9, 10, 152]), (20, [6]), (21, [7, 8, 9, 10, 24]), (22, [7, 8, 9, 10, 24, 25]), (23, [7, 8, 9, 10, 24, 25, 156]), (24, [7, 8, 9, 10, 24, 25]), (25, [7, 8, 9, 10, 24, 25]), (26, [7, 8, 9, 10, 26, 27]), (27, [7, 8, 9, 10, 26, 27, 28, 29]), (28, [7, 8, 9, 26, 27, 28, 29, 30]), (29, [7, 8, 9, 26, 27, 28, 29, 220]), (30, [6]), (31, [7, 8, 9, 26, 28, 29, 222]), (32, [7, 8, 9, 26, 28, 29, 31]), (33, [7, 8, 9, 26, 28, 29, 31, 226]), (34, [7, 8, 9, 26, 28, 29, 31]), (35, [7, 8, 9, 26, 28, 29, 31, 234]), (36, [6]), (37, [7, 8, 249]), (38, [6]), (39, [7, 8, 32, 33]), (40, [32, 33, 34, 35]), (41, [6])], [(0, [4, 5, 7, 8, 9, 10, 11]), (2, [7, 8, 9, 10, 24, 25]), (4, [7, 8, 9, 26, 28, 29, 31])], [(1, [[], [0], [], [0, 1, 2], [], [], List.range 6, List.range 7]), (14, [[], [], [1], [0, 1, 2], [], [4], List.range 6, List.range 7, List.range 8, List.range 8, List.range 9, List.range 11]), (26, [[], [0], [], [2], [], [4], List.range 6, List.range 7, List.range 8, List.range 8, List.range 9, List.range 11]), (28, [[], [0], [0, 1], [0, 1, 2], [0, 1, 2, 3], List.range 5, [], [6], [6, 7], [6, 7, 8], [6, 7, 8, 9], [6, 7, 8, 9, 10], List.range 12, List.range 13, List.range 14, List.range 15, List.range 16, List.range 17, List.range 18, List.range 19, List.range 14, [0, 1, 2, 3, 4, 5, 6, 7, 8, 9, 10, 11, 12, 13, 20], [0, 1, 2, 3, 4, 5, 6, 7, 8, 9, 10, 11, 12, 13, 20, 21], [0, 1, 2, 3, 4, 5, 6, 7, 8, 9, 10, 11, 12, 13, 20, 21, 22], [0, 1, 2, 3, 4, 5, 6, 7, 8, 9, 10, 11, 12, 13, 20, 21, 22, 23], [0, 1, 2, 3, 4, 5, 6, 7, 8, 9, 10, 11, 12, 13, 20, 21, 22, 23, 24], List.range 26, List.range 27, List.range 28]), (35, [[], [], [0, 1], [0, 1, 2], [], List.range 5]), (39, [[], [0], [], [0, 1, 2], [0, 1, 2, 3], List.range 5, List.range 6, List.range 6, List.range 7, List.range 9])], []⟩
def h9 : Hints := ⟨[(0, [1, 2]), (1, [1, 2, 3]), (2, [1, 2, 3, 4]), (3, [1, 2, 3, 4, 24]), (4, [1, 2, 3, 4]), (5, [1, 2, 3, 4, 5]), (6, [1, 2, 3, 4, 5, 31]), (7, [1, 2, 3, 4, 5]), (8, [1, 2, 3, 4]), (9, [2])], [(0, [1, 2, 3, 4])], [(7, [[], [0], [], [0, 1, 2], [0, 1, 2, 3], List.range 5, [], [6], List.range 8, List.range 9])], []⟩
def h10 : Hints := ⟨[(0, [1, 2]), (1, [1, 2, 3]), (2, [1, 2, 3, 4]), (3, [1, 2, 3, 4, 24]), (4, [1, 2, 3, 4]), (5, [1, 2, 3, 4, 5]), (6, [1, 2, 3, 4, 5, 31]), (7, [1, 2, 3, 4, 5]), (8, [1, 2, 3, 4]), (9, [2])], [(0, [1, 2, 3, 4])], [], []⟩
def h11 : Hints := ⟨[(0, [1, 2, 3]), (1, [1, 2, 3, 4]), (2, [2, 3])], [], [(2, [[], [], [1], [1, 2], [1, 2, 3], [1, 2, 3, 4], [], [6], [6, 7], [6, 7, 8], [6, 7, 8, 9], [], [11], [11, 12], [11, 12, 13], [11, 12, 13, 14], [6, 7, 8, 9, 10, 11, 12, 13, 14, 15], [1, 2, 3, 4, 5, 6, 7, 8, 9, 10, 11, 12, 13, 14, 15, 16], List.range 18, List.range 19])], []⟩
def h12 : Hints := ⟨[(0, [1, 2]), (1, [1, 2, 4]), (2, [1, 2, 4, 8]), (3, [2, 3]), (4, [2, 3])], [], [], []⟩
def h13 : Hints := ⟨[(0, [2, 3, 4]), (1, [2, 3, 4, 5]), (2, [4, 5, 6]), (3, [4])], [], [], []⟩
def h14 : Hints := ⟨[(0, []), (1, [1, 3]), (2, [3, 4, 5]), (3, [0])], [], [], []⟩
def h15 : Hints := ⟨[(0, []), (1, [1]), (2, [1, 2, 3]), (3, [2, 3, 4, 5]), (4, [0])], [], [], []⟩
def h16 : Hints := ⟨[(0, []), (1, [1, 2]), (2, [1, 2, 3, 4]), (3, [3, 4, 5, 6, 7]), (4, [0])], [], [], []⟩
def h17 : Hints := ⟨[(0, [0, 1, 2]), (1, [9, 10]), (2, [9, 10, 20]), (3, [6, 7]), (4, [6, 7])], [], [], []⟩
def h18 : Hints := ⟨[(0, [0, 1, 2, 3]), (1, [3, 10, 12]), (2, [3, 10, 12, 23]), (3, [8, 9, 10]), (4, [3, 12, 27]), (5, [8, 9, 10]), (6, [3, 32, 33, 34]), (7, [3, 32, 33, 34, 35]), (8, [3, 13, 14, 32, 33, 34]), (9, [3, 13, 14, 32, 33, 34, 42]), (10, [8, 9, 10]), (11, [3, 32, 33, 34]), (12, [8, 9, 10])], [(1, [3, 32, 33, 34])], [], []⟩
def h19 : Hints := ⟨[(0, [0, 1, 2, 6]), (1, [2, 6, 7, 8]), (2, [2, 6, 7, 8, 23]), (3, [6, 7]), (4, [2, 6, 8, 27]), (5, [6, 7]), (6, [2, 6, 8, 9]), (7, [2, 6, 8, 9, 10, 11]), (8, [2, 6, 8, 9, 10, 11, 12]), (9, [2, 6, 8, 9, 10, 11, 12, 43]), (10, [2, 6, 8, 9, 10, 11, 12]), (11, [2, 6, 8, 9, 10, 11, 12, 51]), (12, [2, 6, 8, 9, 10, 11, 12]), (13, [2, 6, 8, 9, 10, 11, 12, 13]), (14, [2, 6, 8, 9, 10, 11, 12, 13, 59]), (15, [2, 6, 8, 9, 10, 11, 12, 13]), (16, [2, 6, 8, 9, 10, 11, 12, 13, 85]), (17, [2, 6, 8, 9, 10, 11, 12, 13, 14, 15]), (18, [2, 6, 8, 9, 10, 11, 12, 13, 99]), (19, [2, 6, 8, 9, 10, 11, 12, 13]), (20, [6, 11, 115]), (21, [6, 7]), (22, [6, 11, 16]), (23, [6, 11, 16, 120]), (24, [6, 11, 16]), (25, [6, 11, 16]), (26, [6, 7])], [(1, [2, 6, 8, 9, 10, 11, 12]), (3, [2, 6, 8, 9, 10, 11, 12, 13]), (5, [6, 11, 16])], [(7, [[], [0], [0, 1], [], [3], [3, 4], [0, 1, 2], List.range 7]), (16, [[], [], [0, 1], [0, 1, 2], [0, 1, 2, 3], List.range 5, List.range 6, List.range 6, List.range 8, List.range 9, List.range 10, List.range 11, List.range 12, List.range 12, List.range 14, List.range 15, List.range 16, List.range 12, List.range 12, [0, 1, 2, 3, 4, 5, 6, 7, 8, 9, 10, 11, 17, 18], [0, 1, 2, 3, 4, 5, 6, 7, 8, 9, 10, 11, 17, 18, 19], List.range 21, List.range 22, List.range 23])], []⟩
def h20 : Hints := ⟨[(0, [0, 1, 2]), (1, [9, 10]), (2, [9, 10, 20]), (3, [6, 7]), (4, [6, 7])], [], [], []⟩
def h21 : Hints := ⟨[(0, [0]), (1, [2])], [], [], []⟩
def h22 : Hints := ⟨[(0, [0, 1, 4]), (1, [4])], [], [], []⟩
def h23 : Hints := ⟨[(0, [2, 3, 4]), (1, [2, 3, 4, 6]), (2, [2, 3, 4, 6, 13]), (3, [4, 5]), (4, [2, 3, 4, 7]), (5, [2, 3, 4, 7, 17]), (6, [4, 5]), (7, [2, 3, 4, 21]), (8, [4, 5]), (9, [2, 4, 28, 29, 30]), (10, [2, 4, 28, 29, 30, 31]), (11, [2, 4, 9, 28, 29, 30]), (12, [2, 4, 28, 29, 30]), (13, [2, 4, 28, 29, 30]), (14, [4, 5])], [(1, [2, 4, 28, 29, 30])], [], []⟩
def h24 : Hints := ⟨[(0, [1, 2]), (1, [2])], [], [(1, [[], [0], [], [2], [2, 3], List.range 5, List.range 6])], []⟩
def h25 : Hints := ⟨[(0, [1, 2]), (1, [2])], [], [(1, [[], [0], [], [2], [2, 3], List.range 5, List.range 6])], []⟩
def h26 : Hints := ⟨[(0, [0, 1]), (1, [0, 1, 10]), (2, [4]), (3, [0, 1, 5]), (4, [0, 1, 5, 14]), (5, [0, 1, 5]), (6, [0, 1, 5, 25]), (7, [4]), (8, [4])], [(0, [0, 1, 5])], [(6, [[], [], [0, 1], [0, 1, 2], [], [], [4, 5], [4, 5, 6], List.range 8])], []⟩
def h29 : Hints := ⟨[(0, [1]), (1, [1, 5]), (2, [1, 5, 9]), (3, [2, 3, 4]), (4, [1, 2]), (5, [2, 3]), (6, [2, 3, 4])], [], [], []⟩
def h31 : Hints := ⟨[(0, [0, 1, 4]), (1, [0, 1, 4, 10]), (2, [4, 5, 6]), (3, [0, 1, 4, 16]), (4, [4, 5, 6]), (5, [0, 1, 4, 21]), (6, [4, 5, 6]), (7, [0, 1, 4, 7]), (8, [0, 4, 7, 26, 27, 28]), (9, [0, 4, 7, 26, 27, 28, 29]), (10, [0, 4, 7, 8, 9, 26, 27, 28]), (11, [0, 4, 7, 8, 9, 26, 27, 28, 58]), (12, [4, 5, 6]), (13, [0, 4, 7, 8, 26, 27, 28]), (14, [0, 4, 7, 8, 26, 27, 28, 71]), (15, [4, 5, 6]), (16, [0, 4, 7, 26, 27, 28]), (17, [4, 5, 6])], [(1, [0, 4, 7, 26, 27, 28])], [(13, [[], [], [1], [1, 2], [], [4], [1, 2, 3, 4, 5], List.range 7, List.range 8])], []⟩
def h34 : Hints := ⟨[(0, [1, 2]), (1, [1, 2, 6]), (2, [1, 2, 6, 11]), (3, [4, 5]), (4, [1, 2, 16]), (5, [4, 5]), (6, [1, 7]), (7, [4, 5])], [], [], []⟩
def h47 : Hints := ⟨[(0, [0, 1]), (1, [0, 1, 10]), (2, [4]), (3, [0, 1, 5]), (4, [0, 1, 5, 14]), (5, [0, 1, 5]), (6, [0, 1, 5, 25]), (7, [4]), (8, [4])], [(0, [0, 1, 5])], [(6, [[], [], [0, 1], [0, 1, 2], [], [], [4, 5], [4, 5, 6], List.range 8])], []⟩
def h59 : Hints := ⟨[(0, [1]), (1, [1, 3]), (2, [1, 3, 4]), (3, [2]), (4, [1, 3, 9]), (5, [1, 3, 9]), (6, [1, 3, 9]), (7, [9]), (8, [2]), (9, [2])], [], [], []⟩
def h60 : Hints := ⟨[(0, [1, 2]), (1, [1, 2, 3]), (2, [2, 3, 16, 17, 18]), (3, [2, 3, 16, 17, 18, 19]), (4, [2, 3, 5, 16, 17, 18]), (5, [2, 3, 5, 16, 17, 18]), (6, [2, 3, 16, 17, 18]), (7, [2, 3, 16, 17, 18]), (8, [2])], [(0, [2, 3, 16, 17, 18])], [], []⟩
def h61 : Hints := ⟨[(0, [0, 1, 2, 6]), (1, [2, 6, 8]), (2, [2, 6, 8, 18]), (3, [6, 7, 8]), (4, [2, 6, 26]), (5, [6, 7, 8]), (6, [2, 6, 29, 30]), (7, [2, 6, 29, 30, 31]), (8, [2, 6, 9, 29, 30]), (9, [2, 6, 29, 30, 46]), (10, [6, 7, 8]), (11, [2, 6, 29, 30]), (12, [6, 7, 10]), (13, [6, 7, 56]), (14, [6, 7, 8]), (15, [6, 7, 8])], [(0, [2, 6, 29, 30])], [(9, [[], [0], [0, 1], [0, 1, 2], [0, 1, 2], List.range 5, List.range 6, [0, 1, 2], [0, 1, 2], [0, 1, 2, 8], [0, 1, 2, 7, 8, 9], [0, 1, 2, 7, 8, 9, 10], List.range 12, List.range 13])], []⟩
def h62 : Hints := ⟨[(0, [0, 2]), (1, [2, 5, 6, 7]), (2, [2, 5, 6, 7, 8]), (3, [2, 4, 5, 6, 7]), (4, [2, 5, 6, 7]), (5, [2, 5, 6, 7]), (6, [2])], [(0, [2, 5, 6, 7])], [], []⟩
def h63 : Hints := ⟨[(0, [2, 3, 4]), (1, [6])], [], [], []⟩
def h64 : Hints := ⟨[(0, [1]), (1, [2])], [], [], []⟩
def h65 : Hints := ⟨[(0, [0, 1, 4]), (1, [0, 1, 4, 13, 14]), (2, [0, 1, 4, 13, 14, 15]), (3, [0, 1, 4, 7, 13, 14]), (4, [0, 1, 4, 8, 13, 14]), (5, [0, 1, 4, 8, 13, 14, 20]), (6, [4, 5]), (7, [0, 1, 4, 13, 14]), (8, [4]), (9, [4, 36]), (10, [4, 5]), (11, [4, 39, 40, 41]), (12, [4, 39, 40, 41, 42]), (13, [4, 9, 10, 39, 40, 41]), (14, [4, 39, 40, 41]), (15, [4, 39, 40, 41]), (16, [4, 5])], [(0, [0, 1, 4, 13, 14]), (2, [4, 39, 40, 41])], [(14, [[], [0], [], [], [3], [], [3, 4, 5], [3, 4, 5, 6], [2, 3, 4, 5, 6, 7], [2, 3, 4, 5, 6, 7, 8], List.range 10, List.range 11, List.range 12])], []⟩
def h66 : Hints := ⟨[(0, [1, 2]), (1, [4])], [], [], []⟩
def h67 : Hints := ⟨[(0, [1, 2, 3]), (1, [6]), (2, [6, 8]), (3, [6, 8, 24, 25, 26]), (4, [6, 8, 24, 25, 26, 27]), (5, [6, 8, 9, 10, 24, 25, 26]), (6, [6, 8, 9, 10, 11, 24, 25, 26]), (7, [6, 8, 24, 25, 26]), (8, [6, 8, 24, 25, 26]), (9, [6, 7])], [(0, [6, 8, 24, 25, 26])], [(7, [[], [], [], [], [], [3, 4], [2, 3, 4, 5], List.range 7, List.range 8])], []⟩
def h68 : Hints := ⟨[(0, [1]), (1, [1, 3]), (2, [2]), (3, [1, 9]), (4, [2]), (5, [1, 14]), (6, [2]), (7, [19]), (8, [2]), (9, [2])], [], [], []⟩
def h69 : Hints := ⟨[(0, [1]), (1, [1, 3]), (2, [2]), (3, [1, 9]), (4, [2]), (5, [1, 14]), (6, [2]), (7, [19]), (8, [2]), (9, [2])], [], [(7, [[], [0], [0, 1], [0, 1, 2], [], [4], List.range 6, List.range 7, List.range 8])], []⟩
def h71 : Hints := ⟨[(0, [0, 1]), (1, [0, 1, 6, 7]), (2, [0, 1, 6, 7, 8]), (3, [0, 1, 5, 6, 7]), (4, [0, 1, 5, 6, 7, 22]), (5, [4]), (6, [0, 1, 6, 7]), (7, [4])], [(0, [0, 1, 6, 7])], [], []⟩
def h72 : Hints := ⟨[(0, [0, 1]), (1, [3])], [], [(1, [[], [0], [], [0, 1, 2], [], [4], [], [6], [6, 7], [], [6, 7, 8, 9], [4, 5, 6, 7, 8, 9, 10], List.range 12, List.range 13])], []⟩
def h73 : Hints := ⟨[(0, [0, 1]), (1, [0, 1, 10]), (2, [4]), (3, [0, 1, 12, 13]), (4, [0, 1, 12, 13, 14]), (5, [0, 1, 5, 12, 13]), (6, [0, 1, 12, 13, 24]), (7, [4]), (8, [0, 1, 12, 13]), (9, [4])], [(0, [0, 1, 12, 13])], [(6, [[], [], [0, 1], [0, 1, 2], [], [], [4, 5], [4, 5, 6], List.range 8])], []⟩
def h74 : Hints := ⟨[(0, [1, 2]), (1, [1, 4]), (2, [3])], [], [], []⟩
def h75 : Hints := ⟨[(0, [0, 1, 2]), (1, [4])], [], [(1, [[], [], [0, 1], [], [], [4], [], [4, 5, 6], [4, 5, 6, 7], [4, 5, 6, 7, 8], [3, 4, 5, 6, 7, 8, 9], List.range 11, List.range 12])], []⟩
def h76 : Hints := ⟨[(0, [0, 1]), (1, [4])], [], [], []⟩
def h77 : Hints := ⟨[(0, [0, 1]), (1, [3])], [], [], []⟩
def h78 : Hints := ⟨[(0, [2, 3, 4]), (1, [6])], [], [], []⟩
def h79 : Hints := ⟨[(0, [0, 1]), (1, [0, 1, 10]), (2, [0, 1]), (3, [0, 5, 6]), (4, [0, 6, 26]), (5, [0, 6]), (6, [0, 7]), (7, [7, 8]), (8, [7, 8, 37]), (9, [7, 8]), (10, [4])], [(0, [7, 8])], [(9, [[], [], [], [1, 2], [], [], [4, 5], [1, 2, 3, 4, 5, 6], List.range 8, List.range 9])], []⟩
def h80 : Hints := ⟨[(0, [1]), (1, [1, 3]), (2, [3, 16]), (3, [3, 4]), (4, [3, 4, 21]), (5, [3, 4]), (6, [3, 4]), (7, [2])], [(0, [3, 4])], [], []⟩
def h81 : Hints := ⟨[(0, [0]), (1, [2])], [], [], []⟩
def h83 : Hints := ⟨[(0, [2, 3, 4]), (1, [6])], [], [], []⟩
def h93 : Hints := ⟨[(0, [0]), (1, [2])], [], [], []⟩
def h94 : Hints := ⟨[(0, [0, 1]), (1, [4])], [], [], []⟩
def h100 : Hints := ⟨[(0, [1, 2]), (1, [1, 2, 4]), (2, [1, 2, 4, 9]), (3, [2, 3]), (4, [1, 2, 4, 15]), (5, [2, 3]), (6, [2, 4, 21]), (7, [2, 3]), (8, [2, 3])], [], [], []⟩
def h101 : Hints := ⟨[(0, [2, 3, 4]), (1, [6])], [], [], []⟩
def h115 : Hints := ⟨[(0, [1]), (1, [2])], [], [], []⟩
def h116 : Hints := ⟨[(0, [0]), (1, [2])], [], [], []⟩
def h117 : Hints := ⟨[(0, [0, 1]), (1, [4])], [], [], []⟩
def h118 : Hints := ⟨[(0, [1, 2]), (1, [1, 2, 3, 4]), (2, [1, 2, 3, 4, 12]), (3, [1, 2, 3, 4]), (4, [2])], [(0, [1, 2, 3, 4])], [(1, [[], [0], [0, 1], [], [3], [3, 4], [0, 1, 2], List.range 7]), (3, [[], [], [], [1, 2], [0, 1], List.range 5]), (4, [[], [0], [0, 1], [], [0, 1, 2, 3], [], [5], [5, 6], [], [5, 6, 7, 8], List.range 10, List.range 11, List.range 12])], []⟩
def h119 : Hints := ⟨[(0, [1, 2, 4]), (1, [1, 2, 4, 6]), (2, [2, 4, 6, 11, 12, 13]), (3, [2, 4, 6, 11, 12, 13, 14]), (4, [2, 4, 6, 8, 11, 12, 13]), (5, [2, 4, 8, 9, 10, 11, 12, 13]), (6, [2, 4, 8, 9, 11, 12, 13, 25]), (7, [4, 5]), (8, [2, 4, 8, 11, 12, 13]), (9, [2, 4, 6, 11, 12, 13]), (10, [2, 4, 6, 11, 12, 13]), (11, [4, 5])], [(0, [2, 4, 6, 11, 12, 13])], [], []⟩
def h120 : Hints := ⟨[(0, [0, 1, 2]), (1, [4])], [], [], []⟩
def h121 : Hints := ⟨[(0, [0]), (1, [0, 3]), (2, [2]), (3, [0, 7]), (4, [2]), (5, [0, 11]), (6, [2]), (7, [14]), (8, [2]), (9, [2])], [], [], []⟩
def h122 : Hints := ⟨[(0, [0, 2]), (1, [2, 5, 6, 7]), (2, [2, 5, 6, 7, 8]), (3, [2, 4, 5, 6, 7]), (4, [2, 4, 5, 6, 7, 12, 13]), (5, [2, 4, 5, 6, 7, 12, 13, 14]), (6, [2, 4, 5, 6, 7, 12, 13]), (7, [2, 4, 5, 6, 7, 12, 13]), (8, [2, 5, 6, 7]), (9, [2])], [(0, [2, 5, 6, 7]), (2, [2, 4, 5, 6, 7, 12, 13])], [], []⟩
def h123 : Hints := ⟨[(0, [2, 3, 4]), (1, [4])], [], [], []⟩
def h124 : Hints := ⟨[(0, [0]), (1, [0, 3]), (2, [3, 8, 9, 10]), (3, [3, 8, 9, 10, 11]), (4, [3, 4, 5, 8, 9, 10]), (5, [3, 8, 9, 10]), (6, [3, 8, 9, 10]), (7, [2])], [(0, [3, 8, 9, 10])], [(5, [[], [], [], [1, 2], [1, 2, 3], [], [1, 2, 3, 4, 5], [1, 2, 3, 4, 5, 6], List.range 8, List.range 9])], []⟩
def h125 : Hints := ⟨[(0, [2, 3, 4]), (1, [4])], [], [], []⟩
def h126 : Hints := ⟨[(0, [1, 2]), (1, [4])], [], [], []⟩
def h127 : Hints := ⟨[(0, [2, 3, 4]), (1, [6])], [], [], []⟩
def h132 : Hints := ⟨[(0, [0, 1]), (1, [0, 1, 7, 8]), (2, [0, 1, 7, 8, 9]), (3, [0, 1, 5, 7, 8]), (4, [0, 1, 5, 7, 8, 16]), (5, [4]), (6, [0, 1, 7, 8]), (7, [4])], [(0, [0, 1, 7, 8])], [], []⟩
def h133 : Hints := ⟨[(0, [0, 1, 2]), (1, [4])], [], [], []⟩
def h134 : Hints := ⟨[(0, [0, 1]), (1, [6, 7]), (2, [4, 5]), (3, [8, 9]), (4, [4, 5])], [], [], []⟩
def h135 : Hints := ⟨[(0, [0]), (1, [2])], [], [], []⟩
def h136 : Hints := ⟨[(0, [2, 3]), (1, [4])], [], [], []⟩
def h138 : Hints := ⟨[(0, [0, 1, 2]), (1, [4])], [], [], []⟩
def h151 : Hints := ⟨[(0, [1, 2]), (1, [1, 5]), (2, [4])], [], [], []⟩
def h152 : Hints := ⟨[(0, [0, 1, 2]), (1, [4])], [], [], []⟩
def h165 : Hints := ⟨[(0, [0, 1]), (1, [0, 1, 7, 8]), (2, [0, 1, 7, 8, 9]), (3, [0, 1, 5, 7, 8]), (4, [0, 1, 5, 7, 8, 16]), (5, [4]), (6, [0, 1, 7, 8]), (7, [4])], [(0, [0, 1, 7, 8])], [], []⟩
def h166 : Hints := ⟨[(0, [0, 1]), (1, [4])], [], [], []⟩
def h167 : Hints := ⟨[(0, [1]), (1, [2])], [], [], []⟩
def h168 : Hints := ⟨[(0, [1]), (1, [2])], [], [], []⟩
def h169 : Hints := ⟨[(0, [2, 3, 4]), (1, [4])], [], [], []⟩
def h170 : Hints := ⟨[(0, [0, 1, 2]), (1, [4])], [], [], []⟩
def h172 : Hints := ⟨[(0, [0, 1]), (1, [6]), (2, [4, 5])], [], [], []⟩
def h173 : Hints := ⟨[(0, [0, 1]), (1, [0, 1, 6]), (2, [0, 1, 6, 7]), (3, [0, 1, 6, 7, 8]), (4, [0, 1, 6, 7, 8, 9]), (5, [0, 1, 6, 7, 8, 9, 10]), (6, [0, 1, 6, 7, 9, 11]), (7, [0, 1, 6, 7, 9, 11, 12]), (8, [0, 1, 6, 7, 9, 12, 13]), (9, [0, 1, 7, 9, 12, 13]), (10, [0, 1, 4]), (11, [4, 5])], [], [], []⟩
def h174 : Hints := ⟨[(0, [1, 2]), (1, [2, 6]), (2, [2, 5]), (3, [2]), (4, [4])], [(0, [2])], [], []⟩
def h175 : Hints := ⟨[(0, [0, 1, 2, 4]), (1, [0, 1, 2, 4, 8]), (2, [0, 1, 2, 4]), (3, [0, 1, 4, 5]), (4, [0, 1, 4, 5]), (5, [0, 1, 4, 5, 21])], [(0, [0, 1, 4, 5])], [], []⟩
def h186 : Hints := ⟨[(0, [1, 2]), (1, [3])], [], [], []⟩
def h187 : Hints := ⟨[(0, [0, 1]), (1, [4])], [], [], []⟩
def h193 : Hints := ⟨[(0, [0, 1]), (1, [0, 1, 7, 8]), (2, [0, 1, 7, 8, 9]), (3, [0, 1, 5, 7, 8]), (4, [0, 1, 5, 7, 8, 16]), (5, [4]), (6, [0, 1, 7, 8]), (7, [4])], [(0, [0, 1, 7, 8])], [], []⟩
def h196 : Hints := ⟨[(0, [0, 1]), (1, [0, 1, 7, 8]), (2, [0, 1, 7, 8, 9]), (3, [0, 1, 5, 7, 8]), (4, [0, 1, 5, 7, 8, 16]), (5, [4]), (6, [0, 1, 7, 8]), (7, [4])], [(0, [0, 1, 7, 8])], [], []⟩
def F : Nat → Option AFn
  | 3 => some a3
  | 9 => some a9
  | 10 => some a10
  | 11 => some a11
  | 12 => some a12
  | 13 => some a13
  | 14 => some a14
  | 15 => some a15
  | 16 => some a16
  | 17 => some a17
  | 18 => some a18
  | 19 => some a19
  | 20 => some a20
  | 21 => some a21
  | 22 => some a22
  | 23 => some a23
  | 24 => some a24
  | 25 => some a25
  | 26 => some a26
  | 29 => some a29
  | 31 => some a31
  | 34 => some a34
  | 47 => some a47
  | 59 => some a59
  | 60 => some a60
  | 61 => some a61
  | 62 => some a62
  | 63 => some a63
  | 64 => some a64
  | 65 => some a65
  | 66 => some a66
  | 67 => some a67
  | 68 => some a68
  | 69 => some a69
  | 70 => some a70
  | 71 => some a71
  | 72 => some a72
  | 73 => some a73
  | 74 => some a74
  | 75 => some a75
  | 76 => some a76
  | 77 => some a77
  | 78 => some a78
  | 79 => some a79
  | 80 => some a80
  | 81 => some a81
  | 83 => some a83
  | 93 => some a93
  | 94 => some a94
  | 100 => some a100
  | 101 => some a101
  | 115 => some a115
  | 116 => some a116
  | 117 => some a117
  | 118 => some a118
  | 119 => some a119
  | 120 => some a120
  | 121 => some a121
  | 122 => some a122
  | 123 => some a123
  | 124 => some a124
  | 125 => some a125
  | 126 => some a126
  | 127 => some a127
  | 132 => some a132
  | 133 => some a133
  | 134 => some a134
  | 135 => some a135
  | 136 => some a136
  | 138 => some a138
  | 151 => some a151
  | 152 => some a152
  | 165 => some a165
  | 166 => some a166
  | 167 => some a167
  | 168 => some a168
  | 169 => some a169
  | 170 => some a170
  | 172 => some a172
  | 173 => some a173
  | 174 => some a174
  | 175 => some a175
  | 186 => some a186
  | 187 => some a187
  | 193 => some a193
  | 196 => some a196
  | _ => none
theorem c3 : compFn Try.prog bor h3 Try.f3 = some a3 := by kernel_rfl
theorem c9 : compFn Try.prog bor h9 Try.f9 = some a9 := by kernel_rfl
theorem c10 : compFn Try.prog bor h10 Try.f10 = some a10 := by kernel_rfl
theorem c11 : compFn Try.prog bor h11 Try.f11 = some a11 := by kernel_rfl
theorem c12 : compFn Try.prog bor h12 Try.f12 = some a12 := by kernel_rfl
theorem c13 : compFn Try.prog bor h13 Try.f13 = some a13 := by kernel_rfl
theorem c14 : compFn Try.prog bor h14 Try.f14 = some a14 := by kernel_rfl
theorem c15 : compFn Try.prog bor h15 Try.f15 = some a15 := by kernel_rfl
theorem c16 : compFn Try.prog bor h16 Try.f16 = some a16 := by kernel_rfl
theorem c17 : compFn Try.prog bor h17 Try.f17 = some a17 := by kernel_rfl
theorem c18 : compFn Try.prog bor h18 Try.f18 = some a18 := by kernel_rfl
theorem c19 : compFn Try.prog bor h19 Try.f19 = some a19 := by kernel_rfl
theorem c20 : compFn Try.prog bor h20 Try.f20 = some a20 := by kernel_rfl
theorem c21 : compFn Try.prog bor h21 Try.f21 = some a21 := by kernel_rfl
theorem c22 : compFn Try.prog bor h22 Try.f22 = some a22 := by kernel_rfl
theorem c23 : compFn Try.prog bor h23 Try.f23 = some a23 := by kernel_rfl
theorem c24 : compFn Try.prog bor h24 Try.f24 = some a24 := by kernel_rfl
theorem c25 : compFn Try.prog bor h25 Try.f25 = some a25 := by kernel_rfl
theorem c26 : compFn Try.prog bor h26 Try.f26 = some a26 := by kernel_rfl
theorem c29 : compFn Try.prog bor h29 Try.f29 = some a29 := by kernel_rfl
theorem c31 : compFn Try.prog bor h31 Try.f31 = some a31 := by kernel_rfl
theorem c34 : compFn Try.prog bor h34 Try.f34 = some a34 := by kernel_rfl
theorem c47 : compFn Try.prog bor h47 Try.f47 = some a47 := by kernel_rfl
theorem c59 : compFn Try.prog bor h59 Try.f59 = some a59 := by kernel_rfl
theorem c60 : compFn Try.prog bor h60 Try.f60 = some a60 := by kernel_rfl
theorem c61 : compFn Try.prog bor h61 Try.f61 = some a61 := by kernel_rfl
theorem c62 : compFn Try.prog bor h62 Try.f62 = some a62 := by kernel_rfl
theorem c63 : compFn Try.prog bor h63 Try.f63 = some a63 := by kernel_rfl
theorem c64 : compFn Try.prog bor h64 Try.f64 = some a64 := by kernel_rfl
theorem c65 : compFn Try.prog bor h65 Try.f65 = some a65 := by kernel_rfl
theorem c66 : compFn Try.prog bor h66 Try.f66 = some a66 := by kernel_rfl
theorem c67 : compFn Try.prog bor h67 Try.f67 = some a67 := by kernel_rfl
theorem c68 : compFn Try.prog bor h68 Try.f68 = some a68 := by kernel_rfl
theorem c69 : compFn Try.prog bor h69 Try.f69 = some a69 := by kernel_rfl
theorem c71 : compFn Try.prog bor h71 Try.f71 = some a71 := by kernel_rfl
theorem c72 : compFn Try.prog bor h72 Try.f72 = some a72 := by kernel_rfl
theorem c73 : compFn Try.prog bor h73 Try.f73 = some a73 := by kernel_rfl
theorem c74 : compFn Try.prog bor h74 Try.f74 = some a74 := by kernel_rfl
theorem c75 : compFn Try.prog bor h75 Try.f75 = some a75 := by kernel_rfl
theorem c76 : compFn Try.prog bor h76 Try.f76 = some a76 := by kernel_rfl
theorem c77 : compFn Try.prog bor h77 Try.f77 = some a77 := by kernel_rfl
theorem c78 : compFn Try.prog bor h78 Try.f78 = some a78 := by kernel_rfl
theorem c79 : compFn Try.prog bor h79 Try.f79 = some a79 := by kernel_rfl
theorem c80 : compFn Try.prog bor h80 Try.f80 = some a80 := by kernel_rfl
theorem c81 : compFn Try.prog bor h81 Try.f81 = some a81 := by kernel_rfl
theorem c83 : compFn Try.prog bor h83 Try.f83 = some a83 := by kernel_rfl
theorem c93 : compFn Try.prog bor h93 Try.f93 = some a93 := by kernel_rfl
theorem c94 : compFn Try.prog bor h94 Try.f94 = some a94 := by kernel_rfl
theorem c100 : compFn Try.prog bor h100 Try.f100 = some a100 := by kernel_rfl
theorem c101 : compFn Try.prog bor h101 Try.f101 = some a101 := by kernel_rfl
theorem c115 : compFn Try.prog bor h115 Try.f115 = some a115 := by kernel_rfl
theorem c116 : compFn Try.prog bor h116 Try.f116 = some a116 := by kernel_rfl
theorem c117 : compFn Try.prog bor h117 Try.f117 = some a117 := by kernel_rfl
theorem c118 : compFn Try.prog bor h118 Try.f118 = some a118 := by kernel_rfl
theorem c119 : compFn Try.prog bor h119 Try.f119 = some a119 := by kernel_rfl
theorem c120 : compFn Try.prog bor h120 Try.f120 = some a120 := by kernel_rfl
theorem c121 : compFn Try.prog bor h121 Try.f121 = some a121 := by kernel_rfl
theorem c122 : compFn Try.prog bor h122 Try.f122 = some a122 := by kernel_rfl
theorem c123 : compFn Try.prog bor h123 Try.f123 = some a123 := by kernel_rfl
theorem c124 : compFn Try.prog bor h124 Try.f124 = some a124 := by kernel_rfl
theorem c125 : compFn Try.prog bor h125 Try.f125 = some a125 := by kernel_rfl
theorem c126 : compFn Try.prog bor h126 Try.f126 = some a126 := by kernel_rfl
theorem c127 : compFn Try.prog bor h127 Try.f127 = some a127 := by kernel_rfl
theorem c132 : compFn Try.prog bor h132 Try.f132 = some a132 := by kernel_rfl
theorem c133 : compFn Try.prog bor h133 Try.f133 = some a133 := by kernel_rfl
theorem c134 : compFn Try.prog bor h134 Try.f134 = some a134 := by kernel_rfl
theorem c135 : compFn Try.prog bor h135 Try.f135 = some a135 := by kernel_rfl
theorem c136 : compFn Try.prog bor h136 Try.f136 = some a136 := by kernel_rfl
theorem c138 : compFn Try.prog bor h138 Try.f138 = some a138 := by kernel_rfl
theorem c151 : compFn Try.prog bor h151 Try.f151 = some a151 := by kernel_rfl
theorem c152 : compFn Try.prog bor h152 Try.f152 = some a152 := by kernel_rfl
theorem c165 : compFn Try.prog bor h165 Try.f165 = some a165 := by kernel_rfl
theorem c166 : compFn Try.prog bor h166 Try.f166 = some a166 := by kernel_rfl
theorem c167 : compFn Try.prog bor h167 Try.f167 = some a167 := by kernel_rfl
theorem c168 : compFn Try.prog bor h168 Try.f168 = some a168 := by kernel_rfl
theorem c169 : compFn Try.prog bor h169 Try.f169 = some a169 := by kernel_rfl
theorem c170 : compFn Try.prog bor h170 Try.f170 = some a170 := by kernel_rfl
theorem c172 : compFn Try.prog bor h172 Try.f172 = some a172 := by kernel_rfl
theorem c173 : compFn Try.prog bor h173 Try.f173 = some a173 := by kernel_rfl
theorem c174 : compFn Try.prog bor h174 Try.f174 = some a174 := by kernel_rfl
theorem c175 : compFn Try.prog bor h175 Try.f175 = some a175 := by kernel_rfl
theorem c186 : compFn Try.prog bor h186 Try.f186 = some a186 := by kernel_rfl
theorem c187 : compFn Try.prog bor h187 Try.f187 = some a187 := by kernel_rfl
theorem c193 : compFn Try.prog bor h193 Try.f193 = some a193 := by kernel_rfl
theorem c196 : compFn Try.prog bor h196 Try.f196 = some a196 := by kernel_rfl
theorem F_ok (f : Nat) (afn : AFn) (h : F f = some afn) : (∃ fn hh, Try.prog.funcs[f]? = some fn ∧ compFn Try.prog bor hh fn = some afn) ∨ f = 70 ∧ afn = a70 := by
  unfold F at h
  split at h
  · cases h; exact .inl ⟨_, _, Try.func3, c3⟩
  · cases h; exact .inl ⟨_, _, Try.func9, c9⟩
  · cases h; exact .inl ⟨_, _, Try.func10, c10⟩
  · cases h; exact .inl ⟨_, _, Try.func11, c11⟩
  · cases h; exact .inl ⟨_, _, Try.func12, c12⟩
  · cases h; exact .inl ⟨_, _, Try.func13, c13⟩
  · cases h; exact .inl ⟨_, _, Try.func14, c14⟩
  · cases h; exact .inl ⟨_, _, Try.func15, c15⟩
  · cases h; exact .inl ⟨_, _, Try.func16, c16⟩
  · cases h; exact .inl ⟨_, _, Try.func17, c17⟩
  · cases h; exact .inl ⟨_, _, Try.func18, c18⟩
  · cases h; exact .inl ⟨_, _, Try.func19, c19⟩
  · cases h; exact .inl ⟨_, _, Try.func20, c20⟩
  · cases h; exact .inl ⟨_, _, Try.func21, c21⟩
  · cases h; exact .inl ⟨_, _, Try.func22, c22⟩
  · cases h; exact .inl ⟨_, _, Try.func23, c23⟩
  · cases h; exact .inl ⟨_, _, Try.func24, c24⟩
  · cases h; exact .inl ⟨_, _, Try.func25, c25⟩
  · cases h; exact .inl ⟨_, _, Try.func26, c26⟩
  · cases h; exact .inl ⟨_, _, Try.func29, c29⟩
  · cases h; exact .inl ⟨_, _, Try.func31, c31⟩
  · cases h; exact .inl ⟨_, _, Try.func34, c34⟩
  · cases h; exact .inl ⟨_, _, Try.func47, c47⟩
  · cases h; exact .inl ⟨_, _, Try.func59, c59⟩
  · cases h; exact .inl ⟨_, _, Try.func60, c60⟩
  · cases h; exact .inl ⟨_, _, Try.func61, c61⟩
  · cases h; exact .inl ⟨_, _, Try.func62, c62⟩
  · cases h; exact .inl ⟨_, _, Try.func63, c63⟩
  · cases h; exact .inl ⟨_, _, Try.func64, c64⟩
  · cases h; exact .inl ⟨_, _, Try.func65, c65⟩
  · cases h; exact .inl ⟨_, _, Try.func66, c66⟩
  · cases h; exact .inl ⟨_, _, Try.func67, c67⟩
  · cases h; exact .inl ⟨_, _, Try.func68, c68⟩
  · cases h; exact .inl ⟨_, _, Try.func69, c69⟩
  · cases h; simp
  · cases h; exact .inl ⟨_, _, Try.func71, c71⟩
  · cases h; exact .inl ⟨_, _, Try.func72, c72⟩
  · cases h; exact .inl ⟨_, _, Try.func73, c73⟩
  · cases h; exact .inl ⟨_, _, Try.func74, c74⟩
  · cases h; exact .inl ⟨_, _, Try.func75, c75⟩
  · cases h; exact .inl ⟨_, _, Try.func76, c76⟩
  · cases h; exact .inl ⟨_, _, Try.func77, c77⟩
  · cases h; exact .inl ⟨_, _, Try.func78, c78⟩
  · cases h; exact .inl ⟨_, _, Try.func79, c79⟩
  · cases h; exact .inl ⟨_, _, Try.func80, c80⟩
  · cases h; exact .inl ⟨_, _, Try.func81, c81⟩
  · cases h; exact .inl ⟨_, _, Try.func83, c83⟩
  · cases h; exact .inl ⟨_, _, Try.func93, c93⟩
  · cases h; exact .inl ⟨_, _, Try.func94, c94⟩
  · cases h; exact .inl ⟨_, _, Try.func100, c100⟩
  · cases h; exact .inl ⟨_, _, Try.func101, c101⟩
  · cases h; exact .inl ⟨_, _, Try.func115, c115⟩
  · cases h; exact .inl ⟨_, _, Try.func116, c116⟩
  · cases h; exact .inl ⟨_, _, Try.func117, c117⟩
  · cases h; exact .inl ⟨_, _, Try.func118, c118⟩
  · cases h; exact .inl ⟨_, _, Try.func119, c119⟩
  · cases h; exact .inl ⟨_, _, Try.func120, c120⟩
  · cases h; exact .inl ⟨_, _, Try.func121, c121⟩
  · cases h; exact .inl ⟨_, _, Try.func122, c122⟩
  · cases h; exact .inl ⟨_, _, Try.func123, c123⟩
  · cases h; exact .inl ⟨_, _, Try.func124, c124⟩
  · cases h; exact .inl ⟨_, _, Try.func125, c125⟩
  · cases h; exact .inl ⟨_, _, Try.func126, c126⟩
  · cases h; exact .inl ⟨_, _, Try.func127, c127⟩
  · cases h; exact .inl ⟨_, _, Try.func132, c132⟩
  · cases h; exact .inl ⟨_, _, Try.func133, c133⟩
  · cases h; exact .inl ⟨_, _, Try.func134, c134⟩
  · cases h; exact .inl ⟨_, _, Try.func135, c135⟩
  · cases h; exact .inl ⟨_, _, Try.func136, c136⟩
  · cases h; exact .inl ⟨_, _, Try.func138, c138⟩
  · cases h; exact .inl ⟨_, _, Try.func151, c151⟩
  · cases h; exact .inl ⟨_, _, Try.func152, c152⟩
  · cases h; exact .inl ⟨_, _, Try.func165, c165⟩
  · cases h; exact .inl ⟨_, _, Try.func166, c166⟩
  · cases h; exact .inl ⟨_, _, Try.func167, c167⟩
  · cases h; exact .inl ⟨_, _, Try.func168, c168⟩
  · cases h; exact .inl ⟨_, _, Try.func169, c169⟩
  · cases h; exact .inl ⟨_, _, Try.func170, c170⟩
  · cases h; exact .inl ⟨_, _, Try.func172, c172⟩
  · cases h; exact .inl ⟨_, _, Try.func173, c173⟩
  · cases h; exact .inl ⟨_, _, Try.func174, c174⟩
  · cases h; exact .inl ⟨_, _, Try.func175, c175⟩
  · cases h; exact .inl ⟨_, _, Try.func186, c186⟩
  · cases h; exact .inl ⟨_, _, Try.func187, c187⟩
  · cases h; exact .inl ⟨_, _, Try.func193, c193⟩
  · cases h; exact .inl ⟨_, _, Try.func196, c196⟩
  · cases h
end Go.Abs
