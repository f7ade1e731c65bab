/-
  The functions of this seat are what the compile step gives: proved by the kernel.
-/
import Derived.Test.YtkjlmfabhejbnaaDoorProg
import Derived.Test.YtkjlmfabhejbnaaDoorComp
import Derived.Test.YtkjlmfabhejbnaaDoorFnsA
import Derived.KernelRfl
set_option linter.all false
set_option maxRecDepth 100000
set_option maxHeartbeats 0
namespace Go.Abs
open Go.Proofs
def bor : Nat → List Nat
  | 15 => [4000]
  | 51 => [0]
  | 72 => [0]
  | 73 => [0]
  | 74 => [0]
  | 76 => [0]
  | _ => []

def h3 : Hints := ⟨[(0, [3, 4, 5]), (1, [3, 4, 5, 30]), (2, [6]), (3, [3, 4, 5, 7, 8, 9]), (4, [3, 4, 5, 7, 8, 9, 10, 11]), (5, [3, 4, 5, 7, 8, 9, 10, 11, 12, 13, 14, 15]), (6, [3, 4, 5, 10, 11, 12, 13, 14, 15, 68]), (7, [6]), (8, [3, 4, 5, 10, 11, 12, 13, 14, 15, 16, 17, 18]), (9, [3, 4, 5, 10, 11, 12, 13, 14, 15, 16, 17, 18, 86]), (10, [3, 4, 5, 10, 11, 12, 13, 14, 15, 16, 17, 18]), (11, [3, 4, 5, 10, 11, 12, 13, 14, 15, 16, 17, 18, 88]), (12, [4, 5, 10, 11, 12, 13, 14, 15, 16, 17, 18]), (13, [4, 5, 12, 13, 14, 15, 17, 98]), (14, [6]), (15, [4, 5, 12, 13, 14, 15, 17, 106]), (16, [4, 5, 12, 13, 14, 15, 17]), (17, [4, 5, 12, 13, 14, 15, 17, 108]), (18, [6]), (19, [12, 13, 14, 15, 19, 20]), (20, [12, 13, 14, 15, 19, 20, 21, 22, 23]), (21, [12, 13, 14, 15, 19, 20, 21, 22, 23, 24]), (22, [12, 13, 14, 15, 19, 20, 21, 22, 23, 24, 134]), (23, [12, 13, 14, 15, 19, 20, 21, 22, 23, 24]), (24, [12, 13, 14, 15, 19, 20, 21, 22, 23, 24, 25]), (25, [12, 13, 14, 15, 19, 20, 21, 22, 23, 24, 25, 143]), (26, [12, 13, 14, 15, 19, 20, 21, 22, 23, 24, 25]), (27, [12, 13, 14, 15, 19, 20, 21, 22, 23, 24, 25, 160]), (28, [12, 13, 14, 15, 19, 20, 21, 22, 23, 24, 25, 162]), (29, [12, 13, 14, 15, 19, 20, 21, 22, 23, 24, 25]), (30, [12, 13, 14, 15, 19, 20, 21, 22, 23, 24, 25]), (31, [6])], [(0, [12, 13, 14, 15, 19, 20, 21, 22, 23, 24]), (2, [12, 13, 14, 15, 19, 20, 21, 22, 23, 24, 25])], [(3, [[], [0], [], [0, 1, 2], [], List.range 5, [], [], [], List.range 9, List.range 10, List.range 11]), (8, [[], [], [], [0, 1, 2], [0, 1, 2, 3], [], [], [5, 6], List.range 8, [], [], [0, 1, 2, 3, 4, 5, 6, 7, 8, 10], [0, 1, 2, 3, 4, 5, 6, 7, 8, 10, 11], List.range 13]), (19, [[], [0], [], [0, 1, 2], [0, 1, 2, 3], List.range 5]), (27, [[], [], [0, 1], [0, 1, 2], [], List.range 5, List.range 6, [], [], [7, 8], [7, 8, 9], [], [7, 8, 9, 10, 11], [7, 8, 9, 10, 11, 12], List.range 14])], []⟩
def h5 : Hints := ⟨[(0, [0]), (1, [0, 3]), (2, [0, 3, 7]), (3, [0, 3]), (4, [0, 3, 16]), (5, [2]), (6, [2])], [(0, [0, 3])], [], []⟩
def h6 : Hints := ⟨[(0, []), (1, [1]), (2, [1, 2, 3]), (3, [1, 2, 3, 4, 5]), (4, [1, 2, 3, 4, 5, 6, 7, 8]), (5, [1, 2, 3, 4, 5, 6, 7, 8, 9, 10]), (6, [2, 3, 4, 5, 6, 7, 8, 9, 10, 13]), (7, [2, 3, 4, 5, 6, 7, 8, 9, 10, 13, 14, 15, 16]), (8, [2, 3, 4, 5, 6, 7, 8, 9, 10, 13, 14, 15, 16, 17, 18]), (9, [2, 3, 4, 5, 6, 7, 8, 9, 10, 13, 14, 15, 16, 17, 18, 19, 20]), (10, [2, 3, 4, 5, 6, 7, 8, 9, 10, 13, 14, 15, 16, 17, 18, 19, 20, 21, 22]), (11, [2, 4, 6, 7, 9, 14, 15, 17, 19, 21, 126]), (12, [0]), (13, [0])], [], [(4, [[], [], [0, 1], [0, 1, 2], [0, 1, 2, 3], [0, 1, 2, 3], [0, 1, 2, 3], [], [0, 1, 2, 3, 4, 7], [0, 1, 2, 3, 4, 5, 7, 8], List.range 10]), (13, [[], [0], [0, 1], [], [0, 1, 2, 3], List.range 5, List.range 6, List.range 7, List.range 8, List.range 6, List.range 10, List.range 11, List.range 12, List.range 13, List.range 13, List.range 15, List.range 16, List.range 17, List.range 18, List.range 18, [0, 1, 2, 3, 4, 5, 6, 7, 8, 9, 10, 11, 12, 13, 14, 15, 16, 17, 19], List.range 21, List.range 22, List.range 23, List.range 24, List.range 25, List.range 26, List.range 27, List.range 28, List.range 29, List.range 30, List.range 28, List.range 32, List.range 33, List.range 34, List.range 35, List.range 36, List.range 37, List.range 38, List.range 39, List.range 40, List.range 41, List.range 42, List.range 43, List.range 43, [0, 1, 2, 3, 4, 5, 6, 7, 8, 9, 10, 11, 12, 13, 14, 15, 16, 17, 18, 19, 20, 21, 22, 23, 24, 25, 26, 27, 28, 29, 30, 31, 32, 33, 34, 35, 36, 37, 38, 39, 40, 41, 42, 44], List.range 46, List.range 47, List.range 48, List.range 49, List.range 49, [0, 1, 2, 3, 4, 5, 6, 7, 8, 9, 10, 11, 12, 13, 14, 15, 16, 17, 18, 19, 20, 21, 22, 23, 24, 25, 26, 27, 28, 29, 30, 31, 32, 33, 34, 35, 36, 37, 38, 39, 40, 41, 42, 43, 44, 45, 46, 47, 48, 50], List.range 52, List.range 53, List.range 54, List.range 55, List.range 55, [0, 1, 2, 3, 4, 5, 6, 7, 8, 9, 10, 11, 12, 13, 14, 15, 16, 17, 18, 19, 20, 21, 22, 23, 24, 25, 26, 27, 28, 29, 30, 31, 32, 33, 34, 35, 36, 37, 38, 39, 40, 41, 42, 43, 44, 45, 46, 47, 48, 49, 50, 51, 52, 53, 54, 56], List.range 58, List.range 59, List.range 60])], []⟩
def h7 : Hints := ⟨[(0, [1, 2]), (1, [2])], [], [(1, [[], [0], [], [2], [2, 3], List.range 5, List.range 6])], []⟩
def h8 : Hints := ⟨[(0, [3, 4, 5, 6]), (1, [3, 4, 5, 6, 8]), (2, [3, 4, 5, 6, 8, 14]), (3, [6, 7]), (4, [3, 4, 5, 6, 19]), (5, [6, 7]), (6, [6, 7])], [], [], []⟩
def h9 : Hints := ⟨[(0, [2, 3, 4, 5, 6]), (1, [2, 3, 4, 5, 6, 8]), (2, [2, 3, 4, 5, 6, 8, 16]), (3, [4, 5, 6, 7]), (4, [2, 3, 4, 5, 6, 20]), (5, [4, 5, 6, 7]), (6, [3, 4, 5, 6, 26, 27, 28]), (7, [3, 4, 5, 6, 26, 27, 28, 29]), (8, [3, 4, 5, 6, 9, 10, 26, 27, 28]), (9, [3, 4, 5, 6, 9, 11, 26, 27, 28]), (10, [3, 4, 5, 6, 9, 11, 26, 27, 28, 46]), (11, [3, 4, 5, 6, 11, 26, 27, 28]), (12, [3, 4, 5, 6, 26, 27, 28]), (13, [3, 4, 5, 6, 26, 27, 28]), (14, [4, 5, 6, 7])], [(1, [3, 4, 5, 6, 26, 27, 28])], [], []⟩
def h10 : Hints := ⟨[(0, [2, 3]), (1, [2, 3, 9]), (2, [4]), (3, [2, 3, 5]), (4, [2, 3, 5, 14]), (5, [2, 3, 5]), (6, [2, 3, 5, 27]), (7, [4]), (8, [4])], [(0, [2, 3, 5])], [(6, [[], [0], [], [0, 1, 2], [0, 1, 2, 3], [], [5], [], [5, 6, 7], [5, 6, 7, 8], List.range 10])], []⟩
def h11 : Hints := ⟨[(0, [0]), (1, [0, 3]), (2, [0, 3, 8]), (3, [0, 3]), (4, [0, 3, 4]), (5, [0, 3, 4, 17]), (6, [2]), (7, [2])], [(0, [0, 3])], [], []⟩
def h12 : Hints := ⟨[(0, [2, 3]), (1, [4])], [], [], []⟩
def h13 : Hints := ⟨[(0, [3, 4, 5, 6]), (1, [6, 7, 8, 9]), (2, [6, 7, 8, 9, 10]), (3, [6, 7, 8, 9, 10, 21]), (4, [6, 7, 8, 9, 10]), (5, [6, 7, 8, 9, 10, 11]), (6, [6, 7, 8, 9, 10, 11, 30]), (7, [6, 7, 8, 9, 10, 11]), (8, [6, 7, 8, 9, 10, 11, 39]), (9, [6, 7, 8, 9, 10, 11]), (10, [6, 7, 8, 9, 10, 11]), (11, [6])], [(0, [6, 7, 8, 9, 10]), (2, [6, 7, 8, 9, 10, 11])], [(1, [[], [0], [], [0, 1, 2], [], List.range 5, List.range 6, List.range 7, List.range 8]), (9, [[], [], [0, 1], [0, 1, 2], [], [], [], [5, 6], [5, 6, 7], [], [5, 6, 7, 8, 9], [5, 6, 7, 8, 9, 10], List.range 12, List.range 13]), (10, [[], [], [0, 1], [0, 1, 2], [], [], [], [], [7], [6, 7, 8], [5, 6, 7, 8, 9], [5, 6, 7, 8, 9, 10], [], [], [13], [13, 14], [13, 14, 15], [12, 13, 14, 15, 16], [5, 6, 7, 8, 9, 10, 11, 12, 13, 14, 15, 16, 17], [5, 6, 7, 8, 9, 10, 11, 12, 13, 14, 15, 16, 17, 18], List.range 20, List.range 21])], []⟩
def h14 : Hints := ⟨[(0, [1, 3, 4, 6]), (1, [1, 3, 4, 6, 10]), (2, [8]), (3, [8])], [], [], []⟩
def h15 : Hints := ⟨[(0, [1]), (1, [1, 3]), (2, [1, 3, 4]), (3, [1, 3, 4, 10]), (4, [1, 3, 4]), (5, [1, 3, 4]), (6, [2])], [(0, [1, 3, 4])], [(5, [[], [], [1], [], [1, 2, 3], [1, 2, 3, 4], [], [6], [1, 2, 3, 4, 5, 6, 7], [1, 2, 3, 4, 5, 6, 7, 8], List.range 10, List.range 11])], [(99999999, [])]⟩
def h20 : Hints := ⟨[(0, [3, 4, 5, 6]), (1, [3, 4, 5, 6, 8]), (2, [3, 4, 5, 6, 8, 11]), (3, [6, 7]), (4, [3, 4, 5, 6, 16]), (5, [3, 4, 5, 6, 16]), (6, [6, 7]), (7, [6, 7])], [], [], []⟩
def h24 : Hints := ⟨[(0, [0, 1, 4]), (1, [4])], [], [], []⟩
def h25 : Hints := ⟨[(0, [1, 3, 5, 6]), (1, [1, 3, 5, 6, 8]), (2, [1, 3, 5, 6, 8, 12]), (3, [6, 7]), (4, [1, 3, 5, 6, 16]), (5, [6, 7]), (6, [1, 3, 5, 6, 23]), (7, [6, 7]), (8, [5, 6, 31]), (9, [5, 6, 9]), (10, [5, 6, 9, 36]), (11, [5, 6]), (12, [6, 7])], [(1, [5, 6])], [], []⟩
def h26 : Hints := ⟨[(0, [1, 2]), (1, [1, 2, 4]), (2, [1, 2, 4, 12]), (3, [2, 3]), (4, [1, 2, 23]), (5, [1, 2, 23, 25]), (6, [1, 2, 5, 6, 23]), (7, [1, 2, 6, 23, 32]), (8, [1, 2, 6, 7, 23]), (9, [1, 2, 6, 7, 8, 23]), (10, [1, 2, 6, 7, 8, 23, 37]), (11, [1, 2, 6, 7, 8, 23]), (12, [1, 2, 6, 23]), (13, [2, 3])], [(0, [1, 2, 23]), (2, [1, 2, 6, 23])], [(12, [[], [], [1], [1, 2], [], [4], [1, 2, 3, 4, 5], List.range 7, List.range 8])], []⟩
def h27 : Hints := ⟨[(0, [1, 2, 3, 6, 7]), (1, [1, 2, 3, 6, 7, 9]), (2, [1, 2, 3, 6, 7, 9, 16]), (3, [6, 7, 8]), (4, [1, 2, 3, 6, 7, 21]), (5, [6, 7, 8]), (6, [1, 2, 3, 6, 7, 29]), (7, [6, 7, 8]), (8, [1, 2, 3, 6, 7, 38]), (9, [6, 7, 8]), (10, [1, 2, 3, 6, 7]), (11, [1, 2, 3, 6, 7, 48, 49, 50]), (12, [1, 2, 3, 6, 7, 48, 49, 50, 51]), (13, [1, 2, 3, 6, 7, 10, 11, 48, 49, 50]), (14, [1, 2, 3, 6, 7, 12, 13, 48, 49, 50]), (15, [1, 2, 3, 6, 7, 12, 13, 48, 49, 50, 70]), (16, [6, 7, 8]), (17, [1, 2, 3, 6, 7, 48, 49, 50]), (18, [1, 2, 3, 6, 7, 48, 49, 50]), (19, [6, 7, 8])], [(1, [1, 2, 3, 6, 7, 48, 49, 50])], [(14, [[], [], [], [1, 2], [1, 2, 3], [], [5], [], List.range 8, List.range 9, List.range 10, List.range 11, List.range 12, List.range 12, List.range 13, List.range 15])], []⟩
def h28 : Hints := ⟨[(0, [2, 3, 4]), (1, [2, 3, 4, 6]), (2, [2, 3, 4, 6, 12]), (3, [4, 5]), (4, [2, 3, 4, 17]), (5, [4, 5]), (6, [2, 3, 4, 20]), (7, [2, 3, 4, 7]), (8, [2, 3, 4, 7, 29, 30]), (9, [2, 3, 4, 7, 29, 30, 31]), (10, [2, 3, 4, 7, 8, 29, 30]), (11, [2, 3, 4, 7, 29, 30]), (12, [2, 3, 4, 7, 29, 30]), (13, [4, 5])], [(0, [2, 3, 4]), (2, [2, 3, 4, 7, 29, 30])], [(11, [[], [], [1], [], [3], [], [], [6], [5, 6, 7], [3, 4, 5, 6, 7, 8], [], [10], [3, 4, 5, 6, 7, 8, 9, 10, 11], [], [13], [], [15], [1, 2, 3, 4, 5, 6, 7, 8, 9, 10, 11, 12, 13, 14, 15, 16], [1, 2, 3, 4, 5, 6, 7, 8, 9, 10, 11, 12, 13, 14, 15, 16, 17], List.range 19, List.range 20])], []⟩
def h29 : Hints := ⟨[(0, [1]), (1, [1, 5]), (2, [1, 5, 9]), (3, [2, 3, 4]), (4, [1, 2]), (5, [2, 3]), (6, [2, 3, 4])], [], [], []⟩
def h30 : Hints := ⟨[(0, [1, 2]), (1, [1, 2, 4]), (2, [1, 2, 4, 9]), (3, [2, 3]), (4, [1, 2, 5]), (5, [1, 2, 5, 20]), (6, [2, 3]), (7, [2, 3])], [], [], []⟩
def h31 : Hints := ⟨[(0, [0]), (1, [2])], [], [], []⟩
def h32 : Hints := ⟨[(0, [0]), (1, [6, 7, 8]), (2, [6, 7, 8, 9]), (3, [4, 6, 7, 8]), (4, [5, 6, 7, 8]), (5, [5, 6, 7, 8, 15]), (6, [2]), (7, [6, 7, 8]), (8, [2])], [(0, [6, 7, 8])], [], []⟩
def h33 : Hints := ⟨[(0, [2, 3]), (1, [4])], [], [], []⟩
def h34 : Hints := ⟨[(0, [0, 1, 2, 6]), (1, [0, 1, 2, 6, 7]), (2, [1, 2, 6, 7, 14, 15]), (3, [1, 2, 6, 7, 14, 15, 16]), (4, [1, 2, 6, 7, 8, 14, 15]), (5, [1, 2, 6, 7, 8, 14, 15, 18, 19]), (6, [1, 2, 6, 7, 8, 14, 15, 18, 19, 20]), (7, [1, 2, 6, 7, 8, 9, 14, 15, 18, 19]), (8, [1, 2, 6, 7, 8, 9, 14, 15, 18, 19, 25]), (9, [1, 2, 6, 7, 8, 14, 15, 18, 19]), (10, [1, 2, 6, 7, 8, 14, 15, 18, 19]), (11, [1, 2, 6, 7, 14, 15]), (12, [6])], [(0, [1, 2, 6, 7, 14, 15]), (2, [1, 2, 6, 7, 8, 14, 15, 18, 19])], [(9, [[], [0], [], [0, 1, 2], [0, 1, 2, 3], [], [5], List.range 7, List.range 8, List.range 9])], []⟩
def h35 : Hints := ⟨[(0, List.range 5), (1, [0, 1, 3, 4, 8]), (2, [0, 1, 4, 8, 15]), (3, [0, 1, 8]), (4, [7])], [], [], []⟩
def h36 : Hints := ⟨[(0, [1, 2, 3]), (1, [6])], [], [(1, [[], [0], [0, 1], [], [], [4], [4, 5], [4, 5, 6], [3, 4, 5, 6, 7], List.range 9, List.range 10, [], [], [12], [12, 13], [11, 12, 13, 14], List.range 16, List.range 17, List.range 18, List.range 19])], []⟩
def h37 : Hints := ⟨[(0, [0]), (1, [2]), (2, [2])], [], [], []⟩
def h38 : Hints := ⟨[(0, [0]), (1, [2]), (2, [2])], [], [], []⟩
def h39 : Hints := ⟨[(0, [1]), (1, [1, 7]), (2, [2]), (3, [1, 11]), (4, [2]), (5, [1, 15]), (6, [2]), (7, [1, 3]), (8, [1, 3, 20]), (9, [1, 3]), (10, [1, 3, 34]), (11, [2]), (12, [2])], [(0, [1, 3])], [(10, [[], [0], [], [0, 1, 2], [0, 1, 2, 3], [], [5], [5, 6], [5, 6, 7], [5, 6, 7, 8], List.range 10, List.range 11])], []⟩
def h40 : Hints := ⟨[(0, [0, 2]), (1, [0, 2, 3]), (2, [0, 2, 3, 4]), (3, [0, 2, 3, 4, 13]), (4, [0, 2, 3, 4]), (5, [0, 2, 3, 4]), (6, [2])], [(0, [0, 2, 3, 4])], [(5, [[], [0], [], [], [2, 3], [2, 3, 4], [2, 3, 4, 5], [2, 3, 4, 5, 6], List.range 8, List.range 9, List.range 10])], []⟩
def h41 : Hints := ⟨[(0, [1]), (1, [2])], [], [], []⟩
def h42 : Hints := ⟨[(0, [0, 1]), (1, [0, 1, 5]), (2, [0, 1, 5, 6]), (3, [0, 1, 5, 6, 10]), (4, [0, 1, 5, 6]), (5, [0, 1, 5, 6]), (6, [0, 1, 5, 6]), (7, [4])], [(0, [0, 1, 5, 6])], [], []⟩
def h43 : Hints := ⟨[(0, [2, 3, 4]), (1, [2, 3, 4, 6]), (2, [2, 3, 4, 6, 10]), (3, [4, 5]), (4, [4, 5])], [], [], []⟩
def h46 : Hints := ⟨[(0, [1]), (1, [1, 3]), (2, [2]), (3, [1, 9]), (4, [2]), (5, [1, 14]), (6, [2]), (7, [19]), (8, [2]), (9, [2])], [], [(7, [[], [0], [0, 1], [0, 1, 2], [], [4], List.range 6, List.range 7, List.range 8])], []⟩
def h48 : Hints := ⟨[(0, [2, 3, 4]), (1, [6])], [], [], []⟩
def h49 : Hints := ⟨[(0, List.range 5), (1, [7, 8])], [], [(1, [[], [], [1], [1, 2], [0, 1, 2, 3], [], List.range 6, [], [], [8], [7, 8, 9], [], [7, 8, 9, 10, 11], List.range 7, List.range 14])], []⟩
def h50 : Hints := ⟨[(0, [2, 3]), (1, [2, 3, 5, 6]), (2, [2, 3, 5, 6, 14]), (3, [3, 5, 6]), (4, [4])], [], [(1, [[], [0], [], [2], [2, 3], [2, 3, 4], [], [], [0, 1, 6, 7], List.range 9]), (3, [[], [0], [], [2], [2, 3], [0, 1], List.range 6])], []⟩
def h51 : Hints := ⟨[(0, [0]), (1, [0, 3]), (2, [0, 3, 4]), (3, [0, 3, 4, 15, 16]), (4, [0, 3, 4, 15, 16, 17]), (5, [0, 3, 4, 6, 15, 16]), (6, [0, 3, 4, 6, 7, 15, 16]), (7, [0, 3, 4, 7, 8, 15, 16]), (8, [0, 3, 4, 7, 8, 15, 16, 36]), (9, [0, 3, 4, 15, 16]), (10, [0, 3, 4, 15, 16]), (11, [0, 3, 4, 41]), (12, [2, 3]), (13, [0, 3, 4]), (14, [0, 3, 4, 9]), (15, [0, 2, 3, 4, 9]), (16, [0, 2, 3, 4, 9, 62]), (17, [0, 2, 3, 4, 9, 63, 64]), (18, [0, 2, 3, 4, 9, 63, 64, 65]), (19, [0, 2, 3, 4, 9, 11, 63, 64]), (20, [0, 2, 3, 4, 9, 11, 12, 13, 63, 64]), (21, [0, 2, 3, 4, 9, 11, 12, 13, 14, 63, 64]), (22, [0, 2, 3, 4, 9, 11, 12, 14, 63, 64, 89]), (23, [0, 2, 3, 4, 9]), (24, [0, 2, 3, 4, 9, 63, 64]), (25, [2, 3])], [(0, [0, 3, 4, 15, 16]), (2, [0, 2, 3, 4, 9]), (4, [0, 2, 3, 4, 9, 63, 64])], [(7, [[], [], [1], [1, 2], [1, 2, 3], [1, 2, 3, 4], [], List.range 7, [], [], List.range 10, List.range 11, List.range 12]), (14, [[], [], [], [2], [2, 3], [2, 3, 4], [2, 3, 4, 5], [], [7], [1, 2, 3, 4, 5, 6, 7, 8], List.range 10, List.range 11]), (23, [[], [], [], [1, 2], [], [4], [], [6], [4, 5, 6, 7], [0, 6, 7], [0, 1, 2, 3, 6, 7, 9], List.range 11])], []⟩
def h52 : Hints := ⟨[(0, [0, 1]), (1, [0, 1, 6, 7]), (2, [0, 1, 6, 7, 8]), (3, [0, 1, 5, 6, 7]), (4, [0, 1, 5, 6, 7, 22]), (5, [4]), (6, [0, 1, 6, 7]), (7, [4])], [(0, [0, 1, 6, 7])], [], []⟩
def h53 : Hints := ⟨[(0, [0, 1]), (1, [3])], [], [(1, [[], [0], [], [0, 1, 2], [], [4], [], [6], [6, 7], [], [6, 7, 8, 9], [4, 5, 6, 7, 8, 9, 10], List.range 12, List.range 13])], []⟩
def h54 : Hints := ⟨[(0, [0, 1]), (1, [0, 1, 10]), (2, [4]), (3, [0, 1, 12, 13]), (4, [0, 1, 12, 13, 14]), (5, [0, 1, 5, 12, 13]), (6, [0, 1, 12, 13, 24]), (7, [4]), (8, [0, 1, 12, 13]), (9, [4])], [(0, [0, 1, 12, 13])], [(6, [[], [], [0, 1], [0, 1, 2], [], [], [4, 5], [4, 5, 6], List.range 8])], []⟩
def h55 : Hints := ⟨[(0, [1, 2]), (1, [1, 4]), (2, [3])], [], [], []⟩
def h56 : Hints := ⟨[(0, [0, 1, 2]), (1, [4])], [], [(1, [[], [], [0, 1], [], [], [4], [], [4, 5, 6], [4, 5, 6, 7], [4, 5, 6, 7, 8], [3, 4, 5, 6, 7, 8, 9], List.range 11, List.range 12])], []⟩
def h57 : Hints := ⟨[(0, [0, 1]), (1, [4])], [], [], []⟩
def h58 : Hints := ⟨[(0, [0, 1]), (1, [3])], [], [], []⟩
def h59 : Hints := ⟨[(0, [0, 1, 2, 3]), (1, [6])], [], [], []⟩
def h60 : Hints := ⟨[(0, [0]), (1, [0, 4]), (2, [2]), (3, [2])], [], [], []⟩
def h61 : Hints := ⟨[(0, [0]), (1, [0, 4]), (2, [2]), (3, [2])], [], [], []⟩
def h62 : Hints := ⟨[(0, [0]), (1, [2])], [], [(1, [[], [0], [0, 1], [], [3], [3, 4], [3, 4, 5], List.range 7, [], [8], [8, 9], [8, 9, 10], List.range 12, [], [13], [13, 14], List.range 16, List.range 17, List.range 18])], []⟩
def h63 : Hints := ⟨[(0, [0]), (1, [0]), (2, [0]), (3, [0]), (4, [0]), (5, [0]), (6, [0]), (7, [2])], [], [], []⟩
def h64 : Hints := ⟨[(0, [0, 1, 2]), (1, [6])], [], [], []⟩
def h65 : Hints := ⟨[(0, [0]), (1, [0, 3]), (2, [0, 3, 4]), (3, [0, 3, 4, 9]), (4, [0, 3, 4]), (5, [0, 3, 4]), (6, [0, 3, 4, 17]), (7, [0, 3, 4]), (8, [2])], [(0, [0, 3, 4])], [], []⟩
def h66 : Hints := ⟨[(0, [0, 1, 2, 3]), (1, [6])], [], [(1, [[], [0], [], [], [], [2, 3, 4], [2, 3, 4, 5], [2, 3, 4, 5], List.range 8, List.range 9])], []⟩
def h67 : Hints := ⟨[(0, [0, 1, 2]), (1, [4])], [], [], []⟩
def h68 : Hints := ⟨[(0, [1, 2, 4]), (1, [1, 2, 4, 8, 9]), (2, [1, 2, 4, 8, 9, 10]), (3, [1, 2, 4, 5, 8, 9]), (4, [1, 2, 4, 8, 9]), (5, [1, 2, 4, 8, 9]), (6, [4])], [(0, [1, 2, 4, 8, 9])], [], []⟩
def h69 : Hints := ⟨[(0, [1, 2, 4]), (1, [1, 4, 9, 10, 11]), (2, [1, 4, 9, 10, 11, 12]), (3, [1, 4, 6, 9, 10, 11]), (4, [1, 4, 9, 10, 11]), (5, [1, 4, 9, 10, 11]), (6, [4])], [(0, [1, 4, 9, 10, 11])], [], []⟩
def h70 : Hints := ⟨[(0, [1, 2, 3, 4]), (1, [2, 3, 4, 8, 9]), (2, [2, 3, 4, 8, 9, 10]), (3, [2, 3, 4, 5, 8, 9]), (4, [2, 3, 4, 5, 8, 9, 15]), (5, [2, 3, 4, 5, 6, 8, 9]), (6, [2, 3, 4, 5, 6, 7, 8, 9]), (7, [2, 3, 4, 5, 6, 7, 8, 9, 26]), (8, [2, 3, 4, 5, 7, 8, 9]), (9, [2, 3, 4, 5, 8, 9, 35]), (10, [2, 3, 4, 8, 9])], [(0, [2, 3, 4, 8, 9]), (2, [2, 3, 4, 5, 8, 9])], [(8, [[], [0], [], [0, 1], [0, 1, 3], List.range 5, List.range 6])], []⟩
def h71 : Hints := ⟨[(0, [1, 2]), (1, [1, 2, 4]), (2, [1, 2, 4, 5]), (3, [1, 2, 4, 5, 10, 11]), (4, [1, 2, 4, 5, 10, 11, 12]), (5, [1, 2, 4, 5, 6, 10, 11]), (6, [1, 2, 4, 5, 6, 10, 11, 17]), (7, [1, 2, 4, 5, 6, 10, 11]), (8, [1, 2, 4, 5, 6, 7, 10, 11]), (9, [1, 2, 4, 5, 6, 7, 10, 11, 33]), (10, [1, 2, 4, 5, 6, 7, 10, 11]), (11, [1, 2, 4, 5, 10, 11, 41]), (12, [1, 2, 4, 5, 10, 11]), (13, [1, 2, 43]), (14, [])], [(0, [1, 2, 4, 5, 10, 11]), (2, [1, 2, 4, 5, 6, 7, 10, 11])], [], []⟩
def h72 : Hints := ⟨[(0, [0, 1, 4]), (1, [0, 1, 4]), (2, [4])], [], [], []⟩
def h73 : Hints := ⟨[(0, [0, 1, 2]), (1, [0, 1, 2, 7]), (2, [0, 1, 16]), (3, [6]), (4, [20]), (5, [6]), (6, [6])], [], [], []⟩
def h74 : Hints := ⟨[(0, [0, 3]), (1, [0, 3, 14]), (2, [38]), (3, [4]), (4, [4]), (5, [0, 3, 5, 6]), (6, [0, 3, 5, 48]), (7, [4]), (8, [0, 3, 7]), (9, [0, 3, 7, 50, 51]), (10, [0, 3, 7, 50, 51, 52]), (11, [0, 3, 7, 9, 50, 51]), (12, [0, 3, 7, 9, 10, 11, 50, 51]), (13, [0, 3, 7, 9, 10, 50, 51, 61]), (14, [0, 3, 7, 50, 51]), (15, [0, 3, 7, 50, 51]), (16, [7]), (17, [4])], [(0, [0, 3, 7, 50, 51])], [(2, [[], [0], [0, 1], [0, 1, 2], [0, 1, 2, 3], List.range 5, [0, 1, 2, 3], [0, 1, 2, 3, 6], [0, 1, 2, 3, 6, 7], [0, 1, 2, 3, 6, 7, 8], List.range 10, List.range 11, List.range 12, List.range 13, List.range 12, [0, 1, 2, 3, 4, 5, 6, 7, 8, 9, 10, 11, 14], List.range 16, List.range 12, [0, 1, 2, 3, 4, 5, 6, 7, 8, 9, 10, 11, 17], [0, 1, 2, 3, 4, 5, 6, 7, 8, 9, 10, 11, 17, 18], [0, 1, 2, 3, 4, 5, 6, 7, 8, 9, 10, 11, 17, 18, 19], List.range 21, List.range 22, List.range 23]), (5, [[], [0], [0, 1], [0, 1, 2], [], List.range 5, List.range 6, List.range 7, List.range 7, List.range 8, List.range 10]), (14, [[], [], [], [2], [], [1, 2, 3, 4], [], [], [1, 2, 3, 4, 5, 6, 7], [1, 2, 3, 4, 5, 6, 7, 8], List.range 10, List.range 11]), (16, [[], [0], [0, 1], [0, 1, 2], [], [], List.range 6])], []⟩
def h75 : Hints := ⟨[(0, [0]), (1, [3]), (2, [2]), (3, [2])], [], [], []⟩
def h76 : Hints := ⟨[(0, [0, 2, 4, 6]), (1, [0, 2, 4, 6, 8]), (2, [0, 4, 6, 8, 16]), (3, [0, 6, 8]), (4, [0, 4, 6, 8, 25]), (5, [0, 6, 8]), (6, [6, 7])], [], [(6, [[], [], [1], [], [3], [3, 4], [3, 4, 5], [1, 2, 3, 4, 5, 6], [0], List.range 9])], []⟩
def h77 : Hints := ⟨[(0, [0, 1]), (1, [0, 1, 7, 8]), (2, [0, 1, 7, 8, 9]), (3, [0, 1, 5, 7, 8]), (4, [0, 1, 5, 7, 8, 16]), (5, [4]), (6, [0, 1, 7, 8]), (7, [4])], [(0, [0, 1, 7, 8])], [], []⟩
def h78 : Hints := ⟨[(0, [0, 1]), (1, [3])], [], [(1, [[], [], [0, 1], [0, 1, 2], [], [], [], [6], [5, 6, 7], [5, 6, 7, 8], [], [10], [5, 6, 7, 8, 9, 10, 11], [4, 5, 6, 7, 8, 9, 10, 11, 12], [4, 5, 6, 7, 8, 9, 10, 11, 12, 13], List.range 15, List.range 16])], []⟩
def F : Nat → Option AFn
  | 3 => some a3
  | 5 => some a5
  | 6 => some a6
  | 7 => some a7
  | 8 => some a8
  | 9 => some a9
  | 10 => some a10
  | 11 => some a11
  | 12 => some a12
  | 13 => some a13
  | 14 => some a14
  | 15 => some a15
  | 20 => some a20
  | 24 => some a24
  | 25 => some a25
  | 26 => some a26
  | 27 => some a27
  | 28 => some a28
  | 29 => some a29
  | 30 => some a30
  | 31 => some a31
  | 32 => some a32
  | 33 => some a33
  | 34 => some a34
  | 35 => some a35
  | 36 => some a36
  | 37 => some a37
  | 38 => some a38
  | 39 => some a39
  | 40 => some a40
  | 41 => some a41
  | 42 => some a42
  | 43 => some a43
  | 46 => some a46
  | 48 => some a48
  | 49 => some a49
  | 50 => some a50
  | 51 => some a51
  | 52 => some a52
  | 53 => some a53
  | 54 => some a54
  | 55 => some a55
  | 56 => some a56
  | 57 => some a57
  | 58 => some a58
  | 59 => some a59
  | 60 => some a60
  | 61 => some a61
  | 62 => some a62
  | 63 => some a63
  | 64 => some a64
  | 65 => some a65
  | 66 => some a66
  | 67 => some a67
  | 68 => some a68
  | 69 => some a69
  | 70 => some a70
  | 71 => some a71
  | 72 => some a72
  | 73 => some a73
  | 74 => some a74
  | 75 => some a75
  | 76 => some a76
  | 77 => some a77
  | 78 => some a78
  | _ => none
theorem c3 : compFn Tryd.prog bor h3 Tryd.f3 = some a3 := by kernel_rfl
theorem c5 : compFn Tryd.prog bor h5 Tryd.f5 = some a5 := by kernel_rfl
theorem c6 : compFn Tryd.prog bor h6 Tryd.f6 = some a6 := by kernel_rfl
theorem c7 : compFn Tryd.prog bor h7 Tryd.f7 = some a7 := by kernel_rfl
theorem c8 : compFn Tryd.prog bor h8 Tryd.f8 = some a8 := by kernel_rfl
theorem c9 : compFn Tryd.prog bor h9 Tryd.f9 = some a9 := by kernel_rfl
theorem c10 : compFn Tryd.prog bor h10 Tryd.f10 = some a10 := by kernel_rfl
theorem c11 : compFn Tryd.prog bor h11 Tryd.f11 = some a11 := by kernel_rfl
theorem c12 : compFn Tryd.prog bor h12 Tryd.f12 = some a12 := by kernel_rfl
theorem c13 : compFn Tryd.prog bor h13 Tryd.f13 = some a13 := by kernel_rfl
theorem c14 : compFn Tryd.prog bor h14 Tryd.f14 = some a14 := by kernel_rfl
theorem c15 : compFn Tryd.prog bor h15 Tryd.f15 = some a15 := by kernel_rfl
theorem c20 : compFn Tryd.prog bor h20 Tryd.f20 = some a20 := by kernel_rfl
theorem c24 : compFn Tryd.prog bor h24 Tryd.f24 = some a24 := by kernel_rfl
theorem c25 : compFn Tryd.prog bor h25 Tryd.f25 = some a25 := by kernel_rfl
theorem c26 : compFn Tryd.prog bor h26 Tryd.f26 = some a26 := by kernel_rfl
theorem c27 : compFn Tryd.prog bor h27 Tryd.f27 = some a27 := by kernel_rfl
theorem c28 : compFn Tryd.prog bor h28 Tryd.f28 = some a28 := by kernel_rfl
theorem c29 : compFn Tryd.prog bor h29 Tryd.f29 = some a29 := by kernel_rfl
theorem c30 : compFn Tryd.prog bor h30 Tryd.f30 = some a30 := by kernel_rfl
theorem c31 : compFn Tryd.prog bor h31 Tryd.f31 = some a31 := by kernel_rfl
theorem c32 : compFn Tryd.prog bor h32 Tryd.f32 = some a32 := by kernel_rfl
theorem c33 : compFn Tryd.prog bor h33 Tryd.f33 = some a33 := by kernel_rfl
theorem c34 : compFn Tryd.prog bor h34 Tryd.f34 = some a34 := by kernel_rfl
theorem c35 : compFn Tryd.prog bor h35 Tryd.f35 = some a35 := by kernel_rfl
theorem c36 : compFn Tryd.prog bor h36 Tryd.f36 = some a36 := by kernel_rfl
theorem c37 : compFn Tryd.prog bor h37 Tryd.f37 = some a37 := by kernel_rfl
theorem c38 : compFn Tryd.prog bor h38 Tryd.f38 = some a38 := by kernel_rfl
theorem c39 : compFn Tryd.prog bor h39 Tryd.f39 = some a39 := by kernel_rfl
theorem c40 : compFn Tryd.prog bor h40 Tryd.f40 = some a40 := by kernel_rfl
theorem c41 : compFn Tryd.prog bor h41 Tryd.f41 = some a41 := by kernel_rfl
theorem c42 : compFn Tryd.prog bor h42 Tryd.f42 = some a42 := by kernel_rfl
theorem c43 : compFn Tryd.prog bor h43 Tryd.f43 = some a43 := by kernel_rfl
theorem c46 : compFn Tryd.prog bor h46 Tryd.f46 = some a46 := by kernel_rfl
theorem c48 : compFn Tryd.prog bor h48 Tryd.f48 = some a48 := by kernel_rfl
theorem c49 : compFn Tryd.prog bor h49 Tryd.f49 = some a49 := by kernel_rfl
theorem c50 : compFn Tryd.prog bor h50 Tryd.f50 = some a50 := by kernel_rfl
theorem c51 : compFn Tryd.prog bor h51 Tryd.f51 = some a51 := by kernel_rfl
theorem c52 : compFn Tryd.prog bor h52 Tryd.f52 = some a52 := by kernel_rfl
theorem c53 : compFn Tryd.prog bor h53 Tryd.f53 = some a53 := by kernel_rfl
theorem c54 : compFn Tryd.prog bor h54 Tryd.f54 = some a54 := by kernel_rfl
theorem c55 : compFn Tryd.prog bor h55 Tryd.f55 = some a55 := by kernel_rfl
theorem c56 : compFn Tryd.prog bor h56 Tryd.f56 = some a56 := by kernel_rfl
theorem c57 : compFn Tryd.prog bor h57 Tryd.f57 = some a57 := by kernel_rfl
theorem c58 : compFn Tryd.prog bor h58 Tryd.f58 = some a58 := by kernel_rfl
theorem c59 : compFn Tryd.prog bor h59 Tryd.f59 = some a59 := by kernel_rfl
theorem c60 : compFn Tryd.prog bor h60 Tryd.f60 = some a60 := by kernel_rfl
theorem c61 : compFn Tryd.prog bor h61 Tryd.f61 = some a61 := by kernel_rfl
theorem c62 : compFn Tryd.prog bor h62 Tryd.f62 = some a62 := by kernel_rfl
theorem c63 : compFn Tryd.prog bor h63 Tryd.f63 = some a63 := by kernel_rfl
theorem c64 : compFn Tryd.prog bor h64 Tryd.f64 = some a64 := by kernel_rfl
theorem c65 : compFn Tryd.prog bor h65 Tryd.f65 = some a65 := by kernel_rfl
theorem c66 : compFn Tryd.prog bor h66 Tryd.f66 = some a66 := by kernel_rfl
theorem c67 : compFn Tryd.prog bor h67 Tryd.f67 = some a67 := by kernel_rfl
theorem c68 : compFn Tryd.prog bor h68 Tryd.f68 = some a68 := by kernel_rfl
theorem c69 : compFn Tryd.prog bor h69 Tryd.f69 = some a69 := by kernel_rfl
theorem c70 : compFn Tryd.prog bor h70 Tryd.f70 = some a70 := by kernel_rfl
theorem c71 : compFn Tryd.prog bor h71 Tryd.f71 = some a71 := by kernel_rfl
theorem c72 : compFn Tryd.prog bor h72 Tryd.f72 = some a72 := by kernel_rfl
theorem c73 : compFn Tryd.prog bor h73 Tryd.f73 = some a73 := by kernel_rfl
theorem c74 : compFn Tryd.prog bor h74 Tryd.f74 = some a74 := by kernel_rfl
theorem c75 : compFn Tryd.prog bor h75 Tryd.f75 = some a75 := by kernel_rfl
theorem c76 : compFn Tryd.prog bor h76 Tryd.f76 = some a76 := by kernel_rfl
theorem c77 : compFn Tryd.prog bor h77 Tryd.f77 = some a77 := by kernel_rfl
theorem c78 : compFn Tryd.prog bor h78 Tryd.f78 = some a78 := by kernel_rfl
theorem F_ok (f : Nat) (afn : AFn) (h : F f = some afn) : ∃ fn hh, Tryd.prog.funcs[f]? = some fn ∧ compFn Tryd.prog bor hh fn = some afn := by
  unfold F at h
  split at h
  · cases h; exact ⟨_, _, Tryd.func3, c3⟩
  · cases h; exact ⟨_, _, Tryd.func5, c5⟩
  · cases h; exact ⟨_, _, Tryd.func6, c6⟩
  · cases h; exact ⟨_, _, Tryd.func7, c7⟩
  · cases h; exact ⟨_, _, Tryd.func8, c8⟩
  · cases h; exact ⟨_, _, Tryd.func9, c9⟩
  · cases h; exact ⟨_, _, Tryd.func10, c10⟩
  · cases h; exact ⟨_, _, Tryd.func11, c11⟩
  · cases h; exact ⟨_, _, Tryd.func12, c12⟩
  · cases h; exact ⟨_, _, Tryd.func13, c13⟩
  · cases h; exact ⟨_, _, Tryd.func14, c14⟩
  · cases h; exact ⟨_, _, Tryd.func15, c15⟩
  · cases h; exact ⟨_, _, Tryd.func20, c20⟩
  · cases h; exact ⟨_, _, Tryd.func24, c24⟩
  · cases h; exact ⟨_, _, Tryd.func25, c25⟩
  · cases h; exact ⟨_, _, Tryd.func26, c26⟩
  · cases h; exact ⟨_, _, Tryd.func27, c27⟩
  · cases h; exact ⟨_, _, Tryd.func28, c28⟩
  · cases h; exact ⟨_, _, Tryd.func29, c29⟩
  · cases h; exact ⟨_, _, Tryd.func30, c30⟩
  · cases h; exact ⟨_, _, Tryd.func31, c31⟩
  · cases h; exact ⟨_, _, Tryd.func32, c32⟩
  · cases h; exact ⟨_, _, Tryd.func33, c33⟩
  · cases h; exact ⟨_, _, Tryd.func34, c34⟩
  · cases h; exact ⟨_, _, Tryd.func35, c35⟩
  · cases h; exact ⟨_, _, Tryd.func36, c36⟩
  · cases h; exact ⟨_, _, Tryd.func37, c37⟩
  · cases h; exact ⟨_, _, Tryd.func38, c38⟩
  · cases h; exact ⟨_, _, Tryd.func39, c39⟩
  · cases h; exact ⟨_, _, Tryd.func40, c40⟩
  · cases h; exact ⟨_, _, Tryd.func41, c41⟩
  · cases h; exact ⟨_, _, Tryd.func42, c42⟩
  · cases h; exact ⟨_, _, Tryd.func43, c43⟩
  · cases h; exact ⟨_, _, Tryd.func46, c46⟩
  · cases h; exact ⟨_, _, Tryd.func48, c48⟩
  · cases h; exact ⟨_, _, Tryd.func49, c49⟩
  · cases h; exact ⟨_, _, Tryd.func50, c50⟩
  · cases h; exact ⟨_, _, Tryd.func51, c51⟩
  · cases h; exact ⟨_, _, Tryd.func52, c52⟩
  · cases h; exact ⟨_, _, Tryd.func53, c53⟩
  · cases h; exact ⟨_, _, Tryd.func54, c54⟩
  · cases h; exact ⟨_, _, Tryd.func55, c55⟩
  · cases h; exact ⟨_, _, Tryd.func56, c56⟩
  · cases h; exact ⟨_, _, Tryd.func57, c57⟩
  · cases h; exact ⟨_, _, Tryd.func58, c58⟩
  · cases h; exact ⟨_, _, Tryd.func59, c59⟩
  · cases h; exact ⟨_, _, Tryd.func60, c60⟩
  · cases h; exact ⟨_, _, Tryd.func61, c61⟩
  · cases h; exact ⟨_, _, Tryd.func62, c62⟩
  · cases h; exact ⟨_, _, Tryd.func63, c63⟩
  · cases h; exact ⟨_, _, Tryd.func64, c64⟩
  · cases h; exact ⟨_, _, Tryd.func65, c65⟩
  · cases h; exact ⟨_, _, Tryd.func66, c66⟩
  · cases h; exact ⟨_, _, Tryd.func67, c67⟩
  · cases h; exact ⟨_, _, Tryd.func68, c68⟩
  · cases h; exact ⟨_, _, Tryd.func69, c69⟩
  · cases h; exact ⟨_, _, Tryd.func70, c70⟩
  · cases h; exact ⟨_, _, Tryd.func71, c71⟩
  · cases h; exact ⟨_, _, Tryd.func72, c72⟩
  · cases h; exact ⟨_, _, Tryd.func73, c73⟩
  · cases h; exact ⟨_, _, Tryd.func74, c74⟩
  · cases h; exact ⟨_, _, Tryd.func75, c75⟩
  · cases h; exact ⟨_, _, Tryd.func76, c76⟩
  · cases h; exact ⟨_, _, Tryd.func77, c77⟩
  · cases h; exact ⟨_, _, Tryd.func78, c78⟩
  · cases h
end Go.Abs
