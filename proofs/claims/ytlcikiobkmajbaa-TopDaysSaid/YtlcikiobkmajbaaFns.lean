/-
  The functions of this seat are what the compile step gives: proved by the kernel.
-/
import Derived.Test.YtlcikiobkmajbaaProg
import Derived.Test.YtlcikiobkmajbaaComp
import Derived.Test.YtlcikiobkmajbaaFnsA
import Derived.Test.YtlcikiobkmajbaaFnsB
import Derived.KernelRfl
set_option linter.all false
set_option maxRecDepth 100000
set_option maxHeartbeats 0
namespace Go.Abs
open Go.Proofs
def bor : Nat → List Nat
  | 40 => [2]
  | 156 => [1]
  | 175 => [3000]
  | _ => []

def h3 : Hints := ⟨[(0, [0, 2, 4]), (1, [4, 7, 8]), (2, [4, 7, 8, 9]), (3, [4, 7, 8, 9, 10, 11]), (4, [4, 7, 8, 9, 10, 11, 12, 13]), (5, [4, 7, 8, 9, 10, 12, 73]), (6, [6]), (7, [7, 8, 9, 10, 12, 14]), (8, [7, 8, 9, 10, 12, 14, 15, 16, 17]), (9, [7, 8, 9, 10, 12, 14, 15, 16, 17, 18]), (10, [7, 8, 9, 10, 12, 14, 15, 16, 17, 18, 97]), (11, [7, 8, 9, 10, 12, 14, 15, 16, 17, 18]), (12, [7, 8, 9, 10, 12, 14, 15, 16, 17, 18, 152]), (13, [6]), (14, [7, 8, 9, 10, 12, 14, 15, 16, 17, 18, 19]), (15, [7, 8, 9, 10, 12, 14, 15, 16, 17, 18, 19, 20, 21]), (16, [7, 8, 9, 10, 12, 14, 15, 16, 17, 18, 19, 20, 21, 22]), (17, [7, 8, 9, 10, 12, 14, 15, 16, 17, 18, 19, 20, 21, 22]), (18, [7, 8, 9, 10, 12, 14, 15, 16, 17, 18, 19, 20, 21, 23, 24]), (19, [7, 8, 9, 10, 12, 14, 15, 16, 17, 18, 19, 20, 186]), (20, [6]), (21, [7, 8, 9, 10, 12, 14, 15, 16, 17, 18]), (22, [9, 15, 16, 17, 25, 26]), (23, [15, 17, 25, 26, 27, 28]), (24, [6])], [(0, [7, 8, 9, 10, 12, 14, 15, 16, 17, 18])], [(7, [[], [0], [0, 1], [0, 1, 2], [0, 1, 2, 3], [], [5], [5, 6], [5, 6, 7], [], [9], [9, 10], [9, 10, 11], [], [13], [13, 14], [13, 14, 15], [9, 10, 11, 12, 13, 14, 15, 16], List.range 18, List.range 19, [], List.range 21]), (12, [[], [], [0, 1], [0, 1, 2], [0, 1, 2, 3], [], List.range 6, List.range 7, List.range 8, List.range 8, List.range 10, List.range 11, List.range 12, List.range 13, List.range 14, List.range 15, List.range 16, List.range 16, List.range 18, List.range 19, List.range 20, List.range 16, [0, 1, 2, 3, 4, 5, 6, 7, 8, 9, 10, 11, 12, 13, 14, 15, 21], [0, 1, 2, 3, 4, 5, 6, 7, 8, 9, 10, 11, 12, 13, 14, 15, 21, 22], List.range 24, List.range 25, List.range 26, List.range 27, List.range 27, List.range 29, List.range 30, List.range 31, List.range 32, List.range 33, List.range 34, List.range 35, List.range 35, List.range 37, List.range 38, List.range 39, List.range 35, List.range 35, [0, 1, 2, 3, 4, 5, 6, 7, 8, 9, 10, 11, 12, 13, 14, 15, 16, 17, 18, 19, 20, 21, 22, 23, 24, 25, 26, 27, 28, 29, 30, 31, 32, 33, 34, 40, 41], [0, 1, 2, 3, 4, 5, 6, 7, 8, 9, 10, 11, 12, 13, 14, 15, 16, 17, 18, 19, 20, 21, 22, 23, 24, 25, 26, 27, 28, 29, 30, 31, 32, 33, 34, 40, 41, 42], [0, 1, 2, 3, 4, 5, 6, 7, 8, 9, 10, 11, 12, 13, 14, 15, 16, 17, 18, 19, 20, 21, 22, 23, 24, 25, 26, 27, 28, 29, 30, 31, 32, 33, 34, 40, 41, 42, 43], List.range 45, List.range 35, List.range 35, [0, 1, 2, 3, 4, 5, 6, 7, 8, 9, 10, 11, 12, 13, 14, 15, 16, 17, 18, 19, 20, 21, 22, 23, 24, 25, 26, 27, 28, 29, 30, 31, 32, 33, 34, 46, 47], [0, 1, 2, 3, 4, 5, 6, 7, 8, 9, 10, 11, 12, 13, 14, 15, 16, 17, 18, 19, 20, 21, 22, 23, 24, 25, 26, 27, 28, 29, 30, 31, 32, 33, 34, 46, 47, 48], [0, 1, 2, 3, 4, 5, 6, 7, 8, 9, 10, 11, 12, 13, 14, 15, 16, 17, 18, 19, 20, 21, 22, 23, 24, 25, 26, 27, 28, 29, 30, 31, 32, 33, 34, 46, 47, 48, 49], List.range 51, List.range 52])], []⟩
def h7 : Hints := ⟨[(0, [0, 1, 2, 6]), (1, [0, 2, 6, 8, 9, 10]), (2, [0, 2, 6, 8, 9, 10, 11]), (3, [0, 2, 6, 8, 9, 10, 11, 23]), (4, [0, 2, 6, 8, 9, 10, 11]), (5, [0, 2, 6, 8, 9, 10, 11]), (6, [2, 6, 8, 9, 10, 12]), (7, [2, 6, 8, 9, 10, 12, 38]), (8, [2, 6, 8, 9, 10, 12]), (9, [2, 6, 8, 9, 10, 12, 13]), (10, [2, 6, 8, 9, 10, 12, 13]), (11, [2, 6, 8, 9, 10, 12, 13]), (12, [2, 6, 8, 9, 10, 12]), (13, [6, 7])], [(0, [0, 2, 6, 8, 9, 10, 11]), (2, [2, 6, 8, 9, 10, 12])], [(9, [[], [], [0, 1], [0, 1, 2], [0, 1, 2, 3], List.range 5, List.range 6, List.range 7, [], [], [8, 9], [8, 9, 10], [8, 9, 10, 11], [8, 9, 10, 11, 12], [8, 9, 10, 11, 12, 13], [], [], [15, 16], [15, 16, 17], [15, 16, 17, 18], [15, 16, 17, 18, 19], [15, 16, 17, 18, 19, 20], [15, 16, 17, 18, 19, 20, 21], List.range 23, [], List.range 25])], []⟩
def h8 : Hints := ⟨[(0, [1, 2]), (1, [2])], [], [], []⟩
def h9 : Hints := ⟨[(0, [1, 2]), (1, [1, 2, 6]), (2, [1, 2, 6, 11]), (3, [4, 5]), (4, [1, 2, 16]), (5, [4, 5]), (6, [1, 7]), (7, [4, 5])], [], [], []⟩
def h10 : Hints := ⟨[(0, [1, 2]), (1, [1, 2]), (2, [2])], [], [], []⟩
def h11 : Hints := ⟨[(0, [1, 2, 4]), (1, [1, 4, 5, 6]), (2, [1, 4, 5, 6, 16]), (3, [4, 5]), (4, [1, 4, 6, 7]), (5, [1, 4, 6, 7, 28]), (6, [4, 5]), (7, [4, 6, 7, 30, 31]), (8, [4, 6, 7, 30, 31, 32]), (9, [4, 6, 7, 8, 30, 31]), (10, [4, 6, 7, 8, 30, 31, 38]), (11, [4, 5]), (12, [4, 6, 7, 30, 31]), (13, [4, 6, 7, 30, 31]), (14, [4, 5])], [(0, [4, 6, 7, 30, 31])], [(5, [[], [], [1], [], [0, 1, 2, 3], [], List.range 6, List.range 7, List.range 8, List.range 9])], []⟩
def h12 : Hints := ⟨[(0, [1, 2]), (1, [1, 2]), (2, [2])], [], [], []⟩
def h13 : Hints := ⟨[(0, [0]), (1, [2])], [], [], []⟩
def h14 : Hints := ⟨[(0, [0, 1, 4]), (1, [4])], [], [], []⟩
def h15 : Hints := ⟨[(0, [2, 3]), (1, [2, 3, 6]), (2, [2, 3, 6, 11]), (3, [4, 5]), (4, [2, 3, 16]), (5, [4, 5]), (6, [7]), (7, [7, 20]), (8, [4, 5]), (9, [4, 5])], [], [], []⟩
def h16 : Hints := ⟨[(0, [1, 2]), (1, [1, 2, 4]), (2, [1, 2, 4, 8]), (3, [2, 3]), (4, [2, 3])], [], [(4, [[], [0], [], [2], [2, 3], List.range 5, [], List.range 7, [], [8], [8, 9], List.range 11, List.range 12, List.range 13, List.range 14])], []⟩
def h17 : Hints := ⟨[(0, []), (1, [1]), (2, [1, 2, 3]), (3, [2, 3, 4, 5]), (4, [2, 3, 4, 5, 6, 7]), (5, [0])], [], [], []⟩
def h18 : Hints := ⟨[(0, []), (1, [1]), (2, [1, 2]), (3, [1, 2, 3, 4]), (4, [1, 2, 3, 4]), (5, [3, 4, 5, 6]), (6, [0])], [], [], []⟩
def h33 : Hints := ⟨[(0, [1]), (1, [1, 3]), (2, [1, 3, 4]), (3, [2]), (4, [1, 3, 9]), (5, [1, 3, 9]), (6, [1, 3, 9]), (7, [9]), (8, [2]), (9, [2])], [], [], []⟩
def h34 : Hints := ⟨[(0, [0]), (1, [2])], [], [], []⟩
def h35 : Hints := ⟨[(0, [1, 2]), (1, [1, 2, 3]), (2, [2, 3, 16, 17, 18]), (3, [2, 3, 16, 17, 18, 19]), (4, [2, 3, 5, 16, 17, 18]), (5, [2, 3, 5, 16, 17, 18]), (6, [2, 3, 16, 17, 18]), (7, [2, 3, 16, 17, 18]), (8, [2])], [(0, [2, 3, 16, 17, 18])], [], []⟩
def h36 : Hints := ⟨[(0, [1, 2, 4]), (1, [1, 2, 4, 6]), (2, [1, 2, 4, 6, 7]), (3, [1, 2, 4, 6, 7]), (4, [4, 5]), (5, [1, 2, 4, 6, 16]), (6, [1, 2, 4, 6, 16]), (7, [1, 2, 4, 6, 16]), (8, [1, 2, 4, 16]), (9, [4, 5]), (10, [4, 5])], [], [], []⟩
def h37 : Hints := ⟨[(0, [1, 2, 3]), (1, [1, 2, 3, 7]), (2, [1, 2, 3, 7]), (3, [2, 3, 7, 21, 22, 23]), (4, [2, 3, 7, 21, 22, 23, 24]), (5, [2, 3, 7, 9, 21, 22, 23]), (6, [2, 3, 7, 10, 11, 21, 22, 23]), (7, [2, 3, 7, 10, 11, 21, 22, 23, 35, 36]), (8, [2, 3, 7, 10, 11, 21, 22, 23, 35, 36, 37]), (9, [2, 3, 7, 10, 11, 12, 21, 22, 23, 35, 36]), (10, [2, 3, 7, 10, 11, 12, 21, 22, 23, 35, 36, 40]), (11, [2, 3, 7, 10, 11, 12, 13, 21, 22, 23, 35, 36]), (12, [2, 3, 7, 10, 11, 12, 21, 22, 23, 35, 36]), (13, [2, 3, 7, 10, 11, 21, 22, 23, 35, 36]), (14, [2, 3, 7, 21, 22, 23]), (15, [2, 3, 7, 21, 22, 23]), (16, [6])], [(0, [2, 3, 7, 21, 22, 23]), (2, [2, 3, 7, 10, 11, 21, 22, 23, 35, 36]), (4, [2, 3, 7, 10, 11, 12, 21, 22, 23, 35, 36])], [(6, [[], [], [], [0, 1, 2], [], [4], [4, 5], [], [], [0, 1, 2, 3, 7, 8], List.range 10]), (12, [[], [], [], [], [2, 3], [2, 3, 4], [2, 3, 4, 5], [2, 3, 4, 5, 6], [2, 3, 4, 5, 6], [2, 3, 4, 5, 6, 7, 8], [2, 3, 4, 5, 6, 7, 8, 9], [2, 3, 4, 5, 6, 7, 8, 9, 10], [2, 3, 4, 5, 6, 7, 8, 9, 10, 11], [2, 3, 4, 5, 6, 7, 8, 9, 10, 11], [2, 3, 4, 5, 6, 7, 8, 9, 10, 11], [2, 3, 4, 5, 6, 7, 8, 9, 10, 11, 13, 14], [2, 3, 4, 5, 6, 7, 8, 9, 10, 11, 12, 13, 14, 15], [2, 3, 4, 5, 6, 7, 8, 9, 10, 11, 12, 13, 14, 15, 16], [2, 3, 4, 5, 6, 7, 8, 9, 10, 11, 12, 13, 14, 15, 16, 17], [2, 3, 4, 5, 6, 7, 8, 9, 10, 11, 12, 13, 14, 15, 16, 17, 18], List.range 20, List.range 21])], []⟩
def h38 : Hints := ⟨[(0, [1]), (1, [2])], [], [], []⟩
def h39 : Hints := ⟨[(0, [1]), (1, [2])], [], [], []⟩
def h40 : Hints := ⟨[(0, [1, 2, 3]), (1, [1, 2, 3, 7]), (2, [1, 2, 3, 7, 8]), (3, [1, 2, 3, 7, 8, 24]), (4, [1, 2, 3, 7, 8]), (5, [1, 2, 3, 7, 8, 28, 29, 30]), (6, [1, 2, 3, 7, 8, 28, 29, 30, 31]), (7, [1, 2, 3, 7, 8, 10, 28, 29, 30]), (8, [1, 2, 3, 7, 8, 28, 29, 30]), (9, [1, 2, 3, 7, 8, 28, 29, 30, 48]), (10, [6]), (11, [1, 2, 3, 7, 8, 28, 29, 30]), (12, [6])], [(0, [1, 2, 3, 7, 8]), (2, [1, 2, 3, 7, 8, 28, 29, 30])], [(9, [[], [], [1], [], [0, 1, 2, 3], [], List.range 6, List.range 7, List.range 8])], []⟩
def h41 : Hints := ⟨[(0, [1]), (1, [24]), (2, [2]), (3, [2])], [], [], []⟩
def h42 : Hints := ⟨[(0, [0, 1]), (1, [1, 5, 6]), (2, [1, 5, 6, 11]), (3, [1, 5, 6, 7]), (4, [1, 5, 6, 7, 21]), (5, [1, 5, 6]), (6, [1, 5, 6]), (7, [4])], [(0, [1, 5, 6])], [], []⟩
def h43 : Hints := ⟨[(0, [0, 1, 2]), (1, [4])], [], [(1, [[], [0], [], [0, 1, 2], [], List.range 5, List.range 6])], []⟩
def h44 : Hints := ⟨[(0, [1, 2]), (1, [2])], [], [], []⟩
def h45 : Hints := ⟨[(0, [1, 2]), (1, [2, 5]), (2, [4])], [], [], []⟩
def h46 : Hints := ⟨[(0, [1, 2]), (1, [2])], [], [], []⟩
def h47 : Hints := ⟨[(0, [1, 2]), (1, [1, 2, 4]), (2, [1, 2, 4, 8]), (3, [2, 3]), (4, [2, 3])], [], [], []⟩
def h48 : Hints := ⟨[(0, [1, 2]), (1, [1, 6, 7]), (2, [1, 6, 7, 18]), (3, [4, 5]), (4, [1, 8]), (5, [9, 10]), (6, [9, 32]), (7, [4, 5]), (8, [4, 5])], [], [(4, [[], [], [1], [0, 1, 2], [], List.range 5])], []⟩
def h49 : Hints := ⟨[(0, [0, 1]), (1, [0, 1, 10]), (2, [4]), (3, [0, 1, 5]), (4, [0, 1, 5, 14]), (5, [0, 1, 5]), (6, [0, 1, 5, 25]), (7, [4]), (8, [4])], [(0, [0, 1, 5])], [(6, [[], [], [0, 1], [0, 1, 2], [], [], [4, 5], [4, 5, 6], List.range 8])], []⟩
def h53 : Hints := ⟨[(0, [0, 1, 4, 5]), (1, [1, 4, 5, 9, 10]), (2, [1, 4, 5, 9, 10, 11]), (3, [1, 4, 5, 6, 9, 10]), (4, [1, 4, 5, 6, 7, 9, 10]), (5, [1, 4, 5, 7, 9, 10, 41]), (6, [1, 4, 5, 9, 10]), (7, [1, 4, 5, 9, 10]), (8, [4, 5])], [(0, [1, 4, 5, 9, 10])], [], []⟩
def h70 : Hints := ⟨[(0, [1]), (1, [2])], [], [], []⟩
def h71 : Hints := ⟨[(0, [0]), (1, [2])], [], [], []⟩
def h72 : Hints := ⟨[(0, [2, 3, 4]), (1, [6])], [], [], []⟩
def h73 : Hints := ⟨[(0, [0, 1]), (1, [4])], [], [], []⟩
def h74 : Hints := ⟨[(0, [1, 2]), (1, [1, 2, 3, 4]), (2, [1, 2, 3, 4, 12]), (3, [1, 2, 3, 4]), (4, [2])], [(0, [1, 2, 3, 4])], [(1, [[], [0], [0, 1], [], [3], [3, 4], [0, 1, 2], List.range 7]), (3, [[], [], [], [1, 2], [0, 1], List.range 5]), (4, [[], [0], [0, 1], [], [0, 1, 2, 3], [], [5], [5, 6], [], [5, 6, 7, 8], List.range 10, List.range 11, List.range 12])], []⟩
def h75 : Hints := ⟨[(0, [1]), (1, [2])], [], [], []⟩
def h76 : Hints := ⟨[(0, [1]), (1, [2])], [], [], []⟩
def h77 : Hints := ⟨[(0, [2, 3, 4]), (1, [6])], [], [], []⟩
def h78 : Hints := ⟨[(0, [0, 1]), (1, [4])], [], [], []⟩
def h79 : Hints := ⟨[(0, [1, 2, 3]), (1, [1, 2, 3, 7]), (2, [1, 2, 3, 7, 8]), (3, [1, 2, 3, 6, 7, 8]), (4, [1, 2, 3, 6, 7, 8]), (5, [1, 2, 3, 6, 7, 8, 9]), (6, [1, 2, 3, 6, 7, 8, 9, 22]), (7, [1, 2, 3, 6, 7, 8, 9]), (8, [1, 2, 3, 6, 7, 8, 9, 27, 28]), (9, [1, 2, 3, 6, 7, 8, 9, 27, 28, 29]), (10, [1, 2, 3, 6, 7, 8, 9, 10, 27, 28]), (11, [1, 2, 3, 6, 7, 8, 9, 10, 27, 28]), (12, [1, 2, 3, 6, 7, 8, 9, 10, 27, 28, 39]), (13, [1, 2, 3, 6, 7, 8, 9, 10, 11, 27, 28]), (14, [1, 2, 3, 6, 7, 8, 9, 10, 11, 27, 28, 47]), (15, [1, 2, 3, 6, 7, 8, 9, 27, 28]), (16, [1, 2, 3, 6, 7, 8, 9, 27, 28]), (17, [1, 2, 3, 6, 7, 8, 9, 27, 28]), (18, [6])], [(0, [1, 2, 3, 6, 7, 8, 9]), (2, [1, 2, 3, 6, 7, 8, 9, 27, 28])], [(15, [[], [], [], [], [3], [], [3, 4, 5], [3, 4, 5, 6], [3, 4, 5, 6, 7], [2, 3, 4, 5, 6, 7, 8], [0], List.range 11, List.range 12])], []⟩
def h80 : Hints := ⟨[(0, [1]), (1, [2])], [], [], []⟩
def h81 : Hints := ⟨[(0, [0, 2]), (1, [0, 2, 3]), (2, [0, 2, 3, 7]), (3, [0, 2, 3]), (4, [0, 2, 3, 14]), (5, [0, 2, 3]), (6, [2])], [(0, [0, 2, 3])], [], []⟩
def h82 : Hints := ⟨[(0, [1, 2, 3]), (1, [6])], [], [], []⟩
def h83 : Hints := ⟨[(0, [0, 1]), (1, [3])], [], [], []⟩
def h87 : Hints := ⟨[(0, [0, 1]), (1, [4])], [], [], []⟩
def h89 : Hints := ⟨[(0, [0, 1]), (1, [0, 1, 9, 10, 11]), (2, [0, 1, 9, 10, 11, 12]), (3, [0, 1, 5, 6, 9, 10, 11]), (4, [0, 1, 5, 6, 9, 10, 11, 19]), (5, [4]), (6, [0, 1, 6, 7, 9, 10, 11]), (7, [0, 1, 8, 9, 10, 11]), (8, [0, 1, 8, 9, 10, 11, 28]), (9, [4]), (10, [0, 1, 9, 10, 11]), (11, [35]), (12, [4]), (13, [4])], [(0, [0, 1, 9, 10, 11])], [], []⟩
def h106 : Hints := ⟨[(0, [0, 1]), (1, [0, 1, 5]), (2, [0, 1, 5, 6]), (3, [0, 1, 6, 11]), (4, [12]), (5, [4]), (6, [4]), (7, [0, 1, 13]), (8, [4]), (9, [0, 1, 16]), (10, [4]), (11, [19]), (12, [4]), (13, [4])], [], [], []⟩
def h111 : Hints := ⟨[(0, [0, 1, 2]), (1, [4])], [], [], []⟩
def h112 : Hints := ⟨[(0, [0, 1]), (1, [0, 1, 7, 8]), (2, [0, 1, 7, 8, 9]), (3, [0, 1, 5, 7, 8]), (4, [0, 1, 5, 7, 8, 16]), (5, [4]), (6, [0, 1, 7, 8]), (7, [4])], [(0, [0, 1, 7, 8])], [], []⟩
def h113 : Hints := ⟨[(0, [0]), (1, [2])], [], [], []⟩
def h114 : Hints := ⟨[(0, [0, 1, 2]), (1, [4])], [], [], []⟩
def h115 : Hints := ⟨[(0, [0, 1]), (1, [0, 1, 7, 8]), (2, [0, 1, 7, 8, 9]), (3, [0, 1, 5, 7, 8]), (4, [0, 1, 5, 7, 8, 16]), (5, [4]), (6, [0, 1, 7, 8]), (7, [4])], [(0, [0, 1, 7, 8])], [], []⟩
def h116 : Hints := ⟨[(0, [1, 2, 3, 4, 5, 6]), (1, [1, 3, 4, 5, 6, 13]), (2, [1, 3, 4, 5, 6, 13, 22]), (3, [12]), (4, [1, 3, 4, 5, 6, 13, 14]), (5, [1, 3, 4, 5, 6, 13, 14, 30, 31]), (6, [1, 3, 4, 5, 6, 13, 14, 30, 31, 32]), (7, [1, 3, 4, 5, 6, 13, 14, 15, 30, 31]), (8, [1, 3, 4, 5, 6, 13, 14, 15, 30, 31, 48]), (9, [1, 3, 4, 5, 6, 13, 14, 15, 16, 30, 31]), (10, [1, 3, 4, 5, 6, 13, 14, 16, 30, 31, 68]), (11, [1, 3, 4, 5, 6, 13, 14, 16, 30, 31]), (12, [1, 3, 4, 5, 6, 13, 14, 30, 31]), (13, [1, 3, 4, 5, 6, 13, 14, 30, 31]), (14, [12])], [(0, [1, 3, 4, 5, 6, 13, 14, 30, 31])], [(10, [[], [0], [], [0, 1, 2], [0, 1, 2, 3], List.range 5, [], [6], [], [6, 7, 8], [6, 7, 8, 9], [6, 7, 8, 9, 10], List.range 12])], []⟩
def h117 : Hints := ⟨[(0, [0, 1, 3]), (1, [0, 1, 3]), (2, [0, 1, 3, 16])], [(0, [0, 1, 3])], [], []⟩
def h119 : Hints := ⟨[(0, [0, 1]), (1, [0, 1, 7, 8]), (2, [0, 1, 7, 8, 9]), (3, [0, 1, 5, 7, 8]), (4, [0, 1, 5, 7, 8, 16]), (5, [4]), (6, [0, 1, 7, 8]), (7, [4])], [(0, [0, 1, 7, 8])], [], []⟩
def h140 : Hints := ⟨[(0, [0]), (1, [2])], [], [], []⟩
def h145 : Hints := ⟨[(0, [1, 2, 3, 4, 5]), (1, [1, 2, 3, 4, 5, 11]), (2, [1, 2, 4, 5, 11, 12]), (3, [2, 5, 11, 12, 13, 14]), (4, [2, 5, 11, 12, 13, 30]), (5, [2, 5, 11, 13, 40]), (6, [10]), (7, [2, 5, 11, 12]), (8, [12, 60]), (9, [10]), (10, [10])], [], [(8, [[], [0], [], [2], [2, 3], [], [2, 3, 4, 5], [2, 3, 4, 5, 6], List.range 8, List.range 9, List.range 10, List.range 10, [0, 1, 2, 3, 4, 5, 6, 7, 8, 9, 11], List.range 13, List.range 10, [0, 1, 2, 3, 4, 5, 6, 7, 8, 9, 14], List.range 16, List.range 17])], []⟩
def F : Nat → Option AFn
  | 3 => some a3
  | 7 => some a7
  | 8 => some a8
  | 9 => some a9
  | 10 => some a10
  | 11 => some a11
  | 12 => some a12
  | 13 => some a13
  | 14 => some a14
  | 15 => some a15
  | 16 => some a16
  | 17 => some a17
  | 18 => some a18
  | 33 => some a33
  | 34 => some a34
  | 35 => some a35
  | 36 => some a36
  | 37 => some a37
  | 38 => some a38
  | 39 => some a39
  | 40 => some a40
  | 41 => some a41
  | 42 => some a42
  | 43 => some a43
  | 44 => some a44
  | 45 => some a45
  | 46 => some a46
  | 47 => some a47
  | 48 => some a48
  | 49 => some a49
  | 53 => some a53
  | 70 => some a70
  | 71 => some a71
  | 72 => some a72
  | 73 => some a73
  | 74 => some a74
  | 75 => some a75
  | 76 => some a76
  | 77 => some a77
  | 78 => some a78
  | 79 => some a79
  | 80 => some a80
  | 81 => some a81
  | 82 => some a82
  | 83 => some a83
  | 87 => some a87
  | 89 => some a89
  | 106 => some a106
  | 111 => some a111
  | 112 => some a112
  | 113 => some a113
  | 114 => some a114
  | 115 => some a115
  | 116 => some a116
  | 117 => some a117
  | 119 => some a119
  | 140 => some a140
  | 145 => some a145
  | _ => none
theorem c3 : compFn Try.prog bor h3 Try.f3 = some a3 := by kernel_rfl
theorem c7 : compFn Try.prog bor h7 Try.f7 = some a7 := by kernel_rfl
theorem c8 : compFn Try.prog bor h8 Try.f8 = some a8 := by kernel_rfl
theorem c9 : compFn Try.prog bor h9 Try.f9 = some a9 := by kernel_rfl
theorem c10 : compFn Try.prog bor h10 Try.f10 = some a10 := by kernel_rfl
theorem c11 : compFn Try.prog bor h11 Try.f11 = some a11 := by kernel_rfl
theorem c12 : compFn Try.prog bor h12 Try.f12 = some a12 := by kernel_rfl
theorem c13 : compFn Try.prog bor h13 Try.f13 = some a13 := by kernel_rfl
theorem c14 : compFn Try.prog bor h14 Try.f14 = some a14 := by kernel_rfl
theorem c15 : compFn Try.prog bor h15 Try.f15 = some a15 := by kernel_rfl
theorem c16 : compFn Try.prog bor h16 Try.f16 = some a16 := by kernel_rfl
theorem c17 : compFn Try.prog bor h17 Try.f17 = some a17 := by kernel_rfl
theorem c18 : compFn Try.prog bor h18 Try.f18 = some a18 := by kernel_rfl
theorem c33 : compFn Try.prog bor h33 Try.f33 = some a33 := by kernel_rfl
theorem c34 : compFn Try.prog bor h34 Try.f34 = some a34 := by kernel_rfl
theorem c35 : compFn Try.prog bor h35 Try.f35 = some a35 := by kernel_rfl
theorem c36 : compFn Try.prog bor h36 Try.f36 = some a36 := by kernel_rfl
theorem c37 : compFn Try.prog bor h37 Try.f37 = some a37 := by kernel_rfl
theorem c38 : compFn Try.prog bor h38 Try.f38 = some a38 := by kernel_rfl
theorem c39 : compFn Try.prog bor h39 Try.f39 = some a39 := by kernel_rfl
theorem c40 : compFn Try.prog bor h40 Try.f40 = some a40 := by kernel_rfl
theorem c41 : compFn Try.prog bor h41 Try.f41 = some a41 := by kernel_rfl
theorem c42 : compFn Try.prog bor h42 Try.f42 = some a42 := by kernel_rfl
theorem c43 : compFn Try.prog bor h43 Try.f43 = some a43 := by kernel_rfl
theorem c44 : compFn Try.prog bor h44 Try.f44 = some a44 := by kernel_rfl
theorem c45 : compFn Try.prog bor h45 Try.f45 = some a45 := by kernel_rfl
theorem c46 : compFn Try.prog bor h46 Try.f46 = some a46 := by kernel_rfl
theorem c47 : compFn Try.prog bor h47 Try.f47 = some a47 := by kernel_rfl
theorem c48 : compFn Try.prog bor h48 Try.f48 = some a48 := by kernel_rfl
theorem c49 : compFn Try.prog bor h49 Try.f49 = some a49 := by kernel_rfl
theorem c53 : compFn Try.prog bor h53 Try.f53 = some a53 := by kernel_rfl
theorem c70 : compFn Try.prog bor h70 Try.f70 = some a70 := by kernel_rfl
theorem c71 : compFn Try.prog bor h71 Try.f71 = some a71 := by kernel_rfl
theorem c72 : compFn Try.prog bor h72 Try.f72 = some a72 := by kernel_rfl
theorem c73 : compFn Try.prog bor h73 Try.f73 = some a73 := by kernel_rfl
theorem c74 : compFn Try.prog bor h74 Try.f74 = some a74 := by kernel_rfl
theorem c75 : compFn Try.prog bor h75 Try.f75 = some a75 := by kernel_rfl
theorem c76 : compFn Try.prog bor h76 Try.f76 = some a76 := by kernel_rfl
theorem c77 : compFn Try.prog bor h77 Try.f77 = some a77 := by kernel_rfl
theorem c78 : compFn Try.prog bor h78 Try.f78 = some a78 := by kernel_rfl
theorem c79 : compFn Try.prog bor h79 Try.f79 = some a79 := by kernel_rfl
theorem c80 : compFn Try.prog bor h80 Try.f80 = some a80 := by kernel_rfl
theorem c81 : compFn Try.prog bor h81 Try.f81 = some a81 := by kernel_rfl
theorem c82 : compFn Try.prog bor h82 Try.f82 = some a82 := by kernel_rfl
theorem c83 : compFn Try.prog bor h83 Try.f83 = some a83 := by kernel_rfl
theorem c87 : compFn Try.prog bor h87 Try.f87 = some a87 := by kernel_rfl
theorem c89 : compFn Try.prog bor h89 Try.f89 = some a89 := by kernel_rfl
theorem c106 : compFn Try.prog bor h106 Try.f106 = some a106 := by kernel_rfl
theorem c111 : compFn Try.prog bor h111 Try.f111 = some a111 := by kernel_rfl
theorem c112 : compFn Try.prog bor h112 Try.f112 = some a112 := by kernel_rfl
theorem c113 : compFn Try.prog bor h113 Try.f113 = some a113 := by kernel_rfl
theorem c114 : compFn Try.prog bor h114 Try.f114 = some a114 := by kernel_rfl
theorem c115 : compFn Try.prog bor h115 Try.f115 = some a115 := by kernel_rfl
theorem c116 : compFn Try.prog bor h116 Try.f116 = some a116 := by kernel_rfl
theorem c117 : compFn Try.prog bor h117 Try.f117 = some a117 := by kernel_rfl
theorem c119 : compFn Try.prog bor h119 Try.f119 = some a119 := by kernel_rfl
theorem c140 : compFn Try.prog bor h140 Try.f140 = some a140 := by kernel_rfl
theorem c145 : compFn Try.prog bor h145 Try.f145 = some a145 := by kernel_rfl
theorem F_ok (f : Nat) (afn : AFn) (h : F f = some afn) : ∃ fn hh, Try.prog.funcs[f]? = some fn ∧ compFn Try.prog bor hh fn = some afn := by
  unfold F at h
  split at h
  · cases h; exact ⟨_, _, Try.func3, c3⟩
  · cases h; exact ⟨_, _, Try.func7, c7⟩
  · cases h; exact ⟨_, _, Try.func8, c8⟩
  · cases h; exact ⟨_, _, Try.func9, c9⟩
  · cases h; exact ⟨_, _, Try.func10, c10⟩
  · cases h; exact ⟨_, _, Try.func11, c11⟩
  · cases h; exact ⟨_, _, Try.func12, c12⟩
  · cases h; exact ⟨_, _, Try.func13, c13⟩
  · cases h; exact ⟨_, _, Try.func14, c14⟩
  · cases h; exact ⟨_, _, Try.func15, c15⟩
  · cases h; exact ⟨_, _, Try.func16, c16⟩
  · cases h; exact ⟨_, _, Try.func17, c17⟩
  · cases h; exact ⟨_, _, Try.func18, c18⟩
  · cases h; exact ⟨_, _, Try.func33, c33⟩
  · cases h; exact ⟨_, _, Try.func34, c34⟩
  · cases h; exact ⟨_, _, Try.func35, c35⟩
  · cases h; exact ⟨_, _, Try.func36, c36⟩
  · cases h; exact ⟨_, _, Try.func37, c37⟩
  · cases h; exact ⟨_, _, Try.func38, c38⟩
  · cases h; exact ⟨_, _, Try.func39, c39⟩
  · cases h; exact ⟨_, _, Try.func40, c40⟩
  · cases h; exact ⟨_, _, Try.func41, c41⟩
  · cases h; exact ⟨_, _, Try.func42, c42⟩
  · cases h; exact ⟨_, _, Try.func43, c43⟩
  · cases h; exact ⟨_, _, Try.func44, c44⟩
  · cases h; exact ⟨_, _, Try.func45, c45⟩
  · cases h; exact ⟨_, _, Try.func46, c46⟩
  · cases h; exact ⟨_, _, Try.func47, c47⟩
  · cases h; exact ⟨_, _, Try.func48, c48⟩
  · cases h; exact ⟨_, _, Try.func49, c49⟩
  · cases h; exact ⟨_, _, Try.func53, c53⟩
  · cases h; exact ⟨_, _, Try.func70, c70⟩
  · cases h; exact ⟨_, _, Try.func71, c71⟩
  · cases h; exact ⟨_, _, Try.func72, c72⟩
  · cases h; exact ⟨_, _, Try.func73, c73⟩
  · cases h; exact ⟨_, _, Try.func74, c74⟩
  · cases h; exact ⟨_, _, Try.func75, c75⟩
  · cases h; exact ⟨_, _, Try.func76, c76⟩
  · cases h; exact ⟨_, _, Try.func77, c77⟩
  · cases h; exact ⟨_, _, Try.func78, c78⟩
  · cases h; exact ⟨_, _, Try.func79, c79⟩
  · cases h; exact ⟨_, _, Try.func80, c80⟩
  · cases h; exact ⟨_, _, Try.func81, c81⟩
  · cases h; exact ⟨_, _, Try.func82, c82⟩
  · cases h; exact ⟨_, _, Try.func83, c83⟩
  · cases h; exact ⟨_, _, Try.func87, c87⟩
  · cases h; exact ⟨_, _, Try.func89, c89⟩
  · cases h; exact ⟨_, _, Try.func106, c106⟩
  · cases h; exact ⟨_, _, Try.func111, c111⟩
  · cases h; exact ⟨_, _, Try.func112, c112⟩
  · cases h; exact ⟨_, _, Try.func113, c113⟩
  · cases h; exact ⟨_, _, Try.func114, c114⟩
  · cases h; exact ⟨_, _, Try.func115, c115⟩
  · cases h; exact ⟨_, _, Try.func116, c116⟩
  · cases h; exact ⟨_, _, Try.func117, c117⟩
  · cases h; exact ⟨_, _, Try.func119, c119⟩
  · cases h; exact ⟨_, _, Try.func140, c140⟩
  · cases h; exact ⟨_, _, Try.func145, c145⟩
  · cases h
end Go.Abs
