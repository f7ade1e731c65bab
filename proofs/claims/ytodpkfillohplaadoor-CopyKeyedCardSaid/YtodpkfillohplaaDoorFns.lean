/-
  The functions of this seat are what the compile step gives: proved by the kernel.
-/
import Derived.Test.YtodpkfillohplaaDoorProg
import Derived.Test.YtodpkfillohplaaDoorComp
import Derived.Test.YtodpkfillohplaaDoorFnsA
import Derived.Test.YtodpkfillohplaaDoorFnsB
import Derived.KernelRfl
set_option linter.all false
set_option maxRecDepth 100000
set_option maxHeartbeats 0
namespace Go.Abs
open Go.Proofs
def bor : Nat → List Nat
  | 15 => [4000]
  | 17 => [1000]
  | 31 => [1000]
  | 48 => [1000]
  | _ => []

def h11 : Hints := ⟨[(0, [1, 2, 3]), (1, [1, 2, 3, 7, 8]), (2, [1, 2, 7, 8, 9]), (3, [1, 2, 7, 8, 9, 13, 14]), (4, [1, 2, 7, 8, 9, 13, 69]), (5, [6]), (6, [1, 2, 7, 8, 9, 13, 15, 16]), (7, [1, 2, 7, 8, 9, 13, 15, 16, 17]), (8, [1, 2, 7, 8, 9, 13, 15, 16, 17, 77]), (9, [1, 2, 7, 8, 9, 13, 15, 16, 17]), (10, [1, 2, 7, 8, 9, 13, 15, 16, 17, 90]), (11, [6]), (12, [1, 2, 7, 8, 9, 13, 15, 16, 17]), (13, [1, 2, 7, 8, 9, 13, 15, 16, 17, 99]), (14, [1, 2, 7, 8, 9, 13, 15, 16, 17]), (15, [2, 7, 8, 9, 13, 15, 16, 18, 19, 20, 21]), (16, [2, 7, 8, 9, 13, 15, 16, 18, 19, 20, 21, 119]), (17, [6]), (18, [2, 7, 8, 9, 13, 15, 16, 20, 21, 175]), (19, [6]), (20, [7, 8, 9, 13, 15, 16, 20, 21, 22]), (21, [7, 8, 9, 13, 15, 16, 20, 21, 22, 23]), (22, [7, 8, 9, 13, 15, 16, 20, 21, 22, 23]), (23, [7, 8, 9, 13, 15, 16, 20, 21, 22, 26, 27]), (24, [7, 8, 9, 13, 15, 16, 22, 210]), (25, [6]), (26, [7, 8, 9, 13, 16, 22, 28, 29]), (27, [7, 8, 9, 16, 22, 28, 29, 30]), (28, [7, 8, 9, 16, 22, 28, 29, 30]), (29, [7, 8, 9, 16, 22, 28, 29, 31, 32]), (30, [7, 8, 9, 16, 265]), (31, [6]), (32, [7, 8, 9, 16, 33, 34]), (33, [7, 8, 33, 34, 37, 38]), (34, [8, 33, 37, 38, 290]), (35, [6]), (36, [8, 33, 37, 38, 39]), (37, [33, 37, 38, 39, 296]), (38, [37, 38, 39]), (39, [37, 38, 39, 302]), (40, [6]), (41, [6])], [(0, [1, 2, 7, 8, 9, 13, 15, 16, 17])], [(1, [[], [0], [], [0, 1, 2], [], List.range 5, List.range 6]), (10, [[], [], [0, 1], [0, 1, 2], [], [4], [], [4, 5, 6], [4, 5, 6, 7], [4, 5, 6, 7, 8], List.range 10]), (26, [[], [0], [0, 1], [0, 1, 2], [0, 1, 2, 3], [], [0, 1, 2, 5], List.range 7, List.range 8, List.range 9, List.range 9, List.range 10, List.range 12]), (36, [[], [], [1], [0, 1, 2], [0, 1, 2, 3]]), (38, [[], [], [1], [0, 1, 2], [0, 1, 2, 3]])], []⟩
def h14 : Hints := ⟨[(0, []), (1, [1, 2, 3]), (2, [1, 2, 3, 4, 5]), (3, [1, 2, 3, 4, 5, 6, 7, 8]), (4, [1, 2, 3, 4, 5, 6, 7, 8, 9, 10]), (5, [1, 2, 3, 4, 5, 6, 7, 8, 9, 10, 11, 12, 13]), (6, [1, 2, 3, 4, 5, 6, 7, 8, 9, 10, 11, 12, 13, 14, 15]), (7, [1, 2, 3, 4, 5, 6, 7, 8, 9, 10, 11, 12, 13, 14, 15, 16, 17]), (8, [1, 2, 3, 4, 5, 6, 7, 8, 9, 10, 11, 12, 13, 14, 15, 16, 17, 18, 19]), (9, [1, 2, 3, 4, 5, 6, 7, 8, 9, 10, 11, 12, 13, 14, 15, 16, 17, 18, 19, 20, 21, 22, 23]), (10, [1, 2, 4, 6, 7, 9, 11, 12, 14, 16, 18, 20, 21, 22, 115]), (11, [0]), (12, [16, 18, 20, 21, 22, 162]), (13, [0]), (14, [0])], [], [(12, [[], [0], [0, 1], [0, 1, 2], [0, 1, 2, 3], List.range 5, List.range 6, List.range 7, List.range 7, [0, 1, 2, 3, 4, 5, 6, 8], List.range 10, List.range 11, List.range 12, List.range 13, List.range 14, List.range 14, List.range 16, List.range 17, List.range 18, List.range 19, List.range 20, List.range 21, List.range 22, List.range 23, List.range 24, List.range 24, List.range 26, List.range 27, List.range 28, List.range 29, List.range 30, List.range 30, [0, 1, 2, 3, 4, 5, 6, 7, 8, 9, 10, 11, 12, 13, 14, 15, 16, 17, 18, 19, 20, 21, 22, 23, 24, 25, 26, 27, 28, 29, 31], List.range 33, List.range 34, List.range 35, List.range 36, List.range 37, List.range 37, [0, 1, 2, 3, 4, 5, 6, 7, 8, 9, 10, 11, 12, 13, 14, 15, 16, 17, 18, 19, 20, 21, 22, 23, 24, 25, 26, 27, 28, 29, 30, 31, 32, 33, 34, 35, 36, 38], List.range 40, List.range 41, List.range 42, List.range 43, List.range 44, List.range 45, List.range 46]), (14, [[], [], [0, 1], [0, 1, 2], [0, 1, 2, 3], [0, 1, 2, 3], List.range 6, List.range 7, List.range 8, List.range 9, List.range 9, [0, 1, 2, 3, 4, 5, 6, 7, 8, 10], List.range 12, List.range 13, List.range 14, List.range 15, List.range 15, [0, 1, 2, 3, 4, 5, 6, 7, 8, 9, 10, 11, 12, 13, 14, 16], List.range 18, List.range 19, List.range 20, List.range 21, List.range 22, List.range 23, List.range 24])], []⟩
def h15 : Hints := ⟨[(0, [0]), (1, [0, 3]), (2, [0, 3, 4]), (3, [0, 3, 4, 9]), (4, [0, 3, 4]), (5, [0, 3, 4]), (6, [2])], [(0, [0, 3, 4])], [(5, [[], [], [], [1, 2], [1, 2, 3], [1, 2, 3, 4], [], [], [6, 7], [6, 7, 8], [6, 7, 8, 9], [6, 7, 8, 9, 10], [1, 2, 3, 4, 5, 6, 7, 8, 9, 10, 11], [1, 2, 3, 4, 5, 6, 7, 8, 9, 10, 11, 12], List.range 14, List.range 15])], [(99999999, [])]⟩
def h16 : Hints := ⟨[(0, [1]), (1, [1, 7]), (2, [2]), (3, [1, 11]), (4, [2]), (5, [1, 15, 16, 17]), (6, [1, 15, 16, 17, 18]), (7, [1, 4, 15, 16, 17]), (8, [1, 5, 15, 16, 17]), (9, [1, 5, 15, 16, 17, 24]), (10, [2]), (11, [1, 15, 16, 17]), (12, [1, 6]), (13, [30]), (14, [2]), (15, [2])], [(1, [1, 15, 16, 17])], [], []⟩
def h17 : Hints := ⟨[(0, [0, 1, 4]), (1, [4, 6, 7]), (2, [4, 6, 7, 15]), (3, [4, 5]), (4, [4, 5])], [], [(4, [[], [0], [], [2], [2, 3], List.range 5, List.range 6, List.range 7])], []⟩
def h22 : Hints := ⟨[(0, [2, 3]), (1, [4])], [], [], []⟩
def h24 : Hints := ⟨[(0, [0, 4, 5]), (1, [8, 9]), (2, [8, 9, 19]), (3, [6, 7, 8]), (4, [6, 7]), (5, [6, 7, 8])], [], [(4, [[], [0], [0, 1], [0, 1, 2], [], [4], [4, 5], [4, 5, 6], List.range 8, List.range 9, List.range 10, List.range 10, List.range 11, List.range 13])], []⟩
def h26 : Hints := ⟨[(0, [0, 1, 4, 5]), (1, [4, 5, 6, 7]), (2, [4, 5, 6, 7, 24]), (3, [4, 5, 6]), (4, [4, 5, 7, 8]), (5, [4, 5, 7, 8, 30, 31, 32]), (6, [4, 5, 7, 8, 30, 31, 32, 33]), (7, [4, 5, 7, 8, 9, 10, 30, 31, 32]), (8, [4, 5, 7, 8, 9, 10, 11, 30, 31, 32]), (9, [4, 5, 7, 8, 9, 10, 11, 12, 30, 31, 32]), (10, [4, 5, 7, 8, 10, 11, 12, 30, 31, 32, 46, 47, 48]), (11, [4, 5, 7, 8, 10, 11, 12, 30, 31, 32, 46, 47, 48, 49]), (12, [4, 5, 7, 8, 10, 11, 12, 13, 14, 30, 31, 32, 46, 47, 48]), (13, [4, 5, 7, 8, 10, 11, 12, 13, 15, 16, 30, 31, 32, 46, 47, 48]), (14, [4, 5, 7, 8, 10, 11, 12, 13, 15, 30, 31, 32, 46, 47, 48, 64]), (15, [4, 5, 7, 8, 10, 11, 12, 30, 31, 32, 46, 47, 48]), (16, [4, 5, 7, 8, 10, 11, 12, 30, 31, 32, 46, 47, 48]), (17, [4, 5, 7, 8, 30, 31, 32]), (18, [4, 5, 7, 8, 30, 31, 32]), (19, [4, 5, 6])], [(0, [4, 5, 7, 8, 30, 31, 32]), (2, [4, 5, 7, 8, 10, 11, 12, 30, 31, 32, 46, 47, 48])], [], []⟩
def h27 : Hints := ⟨[(0, [0, 1, 4, 5]), (1, [1, 4, 5, 6, 7]), (2, [1, 4, 5, 6, 7, 21]), (3, [4, 5]), (4, [1, 4, 5, 6, 8]), (5, [1, 4, 5, 6, 8, 9]), (6, [1, 4, 5, 6, 8, 9]), (7, [1, 4, 5, 6, 8, 9, 31]), (8, [1, 4, 5, 6, 8, 9, 10]), (9, [1, 4, 5, 6, 8, 9, 10, 11]), (10, [1, 4, 5, 6, 8, 9, 10, 11, 33, 34, 35]), (11, [1, 4, 5, 6, 8, 9, 10, 11, 33, 34, 35, 36]), (12, [1, 4, 5, 6, 8, 9, 10, 11, 13, 33, 34, 35]), (13, [1, 4, 5, 6, 8, 9, 10, 11, 33, 34, 35]), (14, [1, 4, 5, 6, 8, 9, 10, 11, 33, 34, 35]), (15, [1, 4, 5, 6, 8, 9, 10, 51]), (16, [1, 4, 5, 6, 8, 9])], [(0, [1, 4, 5, 6, 8, 9]), (2, [1, 4, 5, 6, 8, 9]), (4, [1, 4, 5, 6, 8, 9, 10, 11, 33, 34, 35])], [(15, [[], [0], [], [0, 1, 2]])], []⟩
def h29 : Hints := ⟨[(0, [0, 1]), (1, [0, 1, 10]), (2, [4]), (3, [0, 1, 5]), (4, [0, 1, 5, 14]), (5, [0, 1, 5]), (6, [0, 1, 5, 25]), (7, [4]), (8, [4])], [(0, [0, 1, 5])], [(6, [[], [], [0, 1], [0, 1, 2], [], [], [4, 5], [4, 5, 6], List.range 8])], []⟩
def h31 : Hints := ⟨[(0, [0, 1, 2, 6, 7]), (1, [6, 7, 8, 9, 10, 11]), (2, [6, 7, 8, 9, 10, 11, 23]), (3, [6, 7, 8]), (4, [6, 7, 9, 10, 11, 12]), (5, [6, 7, 9, 10, 12, 29]), (6, [6, 7, 9, 10, 12]), (7, [6, 7]), (8, [6, 7, 8])], [], [(3, [[], [], [], [0], [0, 1, 3], List.range 5]), (8, [[], [], [0], [0, 1, 2], [0, 1, 2, 3]])], []⟩
def h32 : Hints := ⟨[(0, [0, 1, 2]), (1, [8, 9, 10, 11]), (2, [8, 9, 10, 11, 27]), (3, [6, 7]), (4, [8, 9, 10, 12]), (5, [10, 12, 35, 36]), (6, [10, 12, 35, 36, 37]), (7, [10, 12, 13, 35, 36]), (8, [10, 12, 13, 35, 36, 40]), (9, [10, 12, 13, 35, 36]), (10, [10, 12, 13, 35, 36]), (11, [10, 12, 35, 36]), (12, [12, 14]), (13, [14, 58, 59, 60]), (14, [14, 58, 59, 60, 61]), (15, [14, 16, 58, 59, 60]), (16, [14, 58, 59, 60]), (17, [14, 58, 59, 60]), (18, [14, 70]), (19, [6, 7]), (20, [6, 7])], [(0, [10, 12, 35, 36]), (2, [10, 12, 13, 35, 36]), (4, [14, 58, 59, 60])], [(10, [[], [], [], [], [2, 3], [2, 3, 4], [], [], [7], [6, 7, 8], [6, 7, 8, 9], [2, 3, 4, 5, 6, 7, 8, 9, 10], [2, 3, 4, 5, 6, 7, 8, 9, 10, 11], List.range 13, List.range 14])], []⟩
def h36 : Hints := ⟨[(0, [1, 2]), (1, [1, 2, 3]), (2, [1, 2, 3, 4]), (3, [1, 2, 3, 4, 12]), (4, [1, 2, 3, 4]), (5, [1, 2, 3, 4]), (6, [2])], [(0, [1, 2, 3, 4])], [], []⟩
def h37 : Hints := ⟨[(0, [1, 2]), (1, [2])], [], [(1, [[], [0], [], [2], [2, 3], [2, 3, 4], List.range 6, List.range 7])], []⟩
def h40 : Hints := ⟨[(0, [0]), (1, [2])], [], [], []⟩
def h41 : Hints := ⟨[(0, [1, 2]), (1, [1, 2, 4]), (2, [1, 2, 4, 10]), (3, [2, 3]), (4, [2, 13, 14, 15]), (5, [2, 13, 14, 15, 16]), (6, [2, 6, 13, 14, 15]), (7, [2, 13, 14, 15]), (8, [2, 13, 14, 15]), (9, [2, 3])], [(0, [2, 13, 14, 15])], [], []⟩
def h42 : Hints := ⟨[(0, [1, 2, 4]), (1, [1, 2, 4, 5, 6]), (2, [1, 2, 4, 5, 6, 15]), (3, [1, 4, 5, 6]), (4, [1, 4, 5, 6, 22]), (5, [4, 5]), (6, [4, 6, 24, 25, 26]), (7, [4, 6, 24, 25, 26, 27]), (8, [4, 6, 7, 8, 24, 25, 26]), (9, [4, 6, 7, 24, 25, 26, 40]), (10, [4, 6, 24, 25, 26]), (11, [4, 6, 24, 25, 26]), (12, [4, 5])], [(0, [4, 6, 24, 25, 26])], [], []⟩
def h46 : Hints := ⟨[(0, [0, 1, 2, 6, 7]), (1, [1, 2, 6, 7, 9, 10]), (2, [1, 2, 6, 7, 9, 10, 23]), (3, [2, 6, 7, 9, 10]), (4, [2, 6, 7, 9, 10, 32]), (5, [6, 7, 8, 9]), (6, [2, 6, 7, 10, 11, 12]), (7, [2, 6, 7, 8, 10, 11, 12]), (8, [2, 6, 7, 8, 10, 11, 12, 38, 39, 40]), (9, [2, 6, 7, 8, 10, 11, 12, 38, 39, 40, 41]), (10, [2, 6, 7, 8, 10, 11, 12, 13, 14, 38, 39, 40]), (11, [2, 6, 7, 8, 10, 11, 12, 15, 38, 39, 40]), (12, [2, 6, 7, 8, 10, 11, 12, 15, 38, 39, 40, 55]), (13, [6, 7, 8, 9]), (14, [2, 6, 7, 8, 10, 11, 12, 15, 38, 39, 40, 62]), (15, [2, 6, 7, 8, 10, 11, 12, 15, 38, 39, 40]), (16, [2, 6, 7, 8, 10, 11, 12, 15, 38, 39, 40]), (17, [2, 6, 7, 8, 10, 11, 12, 38, 39, 40]), (18, [2, 6, 7, 8, 10, 11, 12, 38, 39, 40]), (19, [6, 7, 8, 10, 11, 12, 79]), (20, [6, 7, 8, 9]), (21, [6, 7, 8]), (22, [6, 7, 8, 9])], [(0, [2, 6, 7, 8, 10, 11, 12, 38, 39, 40])], [(5, [[], [], [], [0], [0, 1, 3], [0, 1, 3, 4], List.range 6]), (11, [[], [0], [], [], [], [3, 4], [3, 4, 5], List.range 7, [], List.range 9]), (13, [[], [], [0], [0, 1, 2], [0, 1, 2, 3], List.range 5]), (17, [[], [], [1], [1, 2], [0, 1, 2, 3], [], [], [6], [6, 7], List.range 9, List.range 10, List.range 11]), (20, [[], [], [0], [0, 1, 2], [0, 1, 2, 3], List.range 5]), (22, [[], [], [], [0], [0, 1, 3], List.range 5, List.range 6])], []⟩
def h48 : Hints := ⟨[(0, [1, 2]), (1, [1, 2, 3]), (2, [1, 2, 3, 4]), (3, [1, 2, 3, 4, 24]), (4, [1, 2, 3, 4]), (5, [1, 2, 3, 4, 5]), (6, [1, 2, 3, 4, 5, 36]), (7, [1, 2, 3, 4, 5]), (8, [1, 2, 3, 4]), (9, [2])], [(0, [1, 2, 3, 4])], [(7, [[], [0], [], [0, 1, 2], [0, 1, 2, 3], List.range 5, [], [6], [6, 7], [6, 7, 8], List.range 10, List.range 11])], []⟩
def h49 : Hints := ⟨[(0, [1]), (1, [2])], [], [], []⟩
def h50 : Hints := ⟨[(0, [1, 2, 3, 4, 5]), (1, [1, 2, 3, 4, 5, 6]), (2, [1, 2, 3, 4, 5, 6, 7]), (3, [1, 2, 3, 4, 5, 6, 7, 27]), (4, [1, 2, 3, 4, 5, 6, 7]), (5, [1, 2, 3, 4, 5, 6, 7, 8]), (6, [1, 2, 3, 4, 5, 6, 7, 8, 35]), (7, [1, 2, 3, 4, 5, 6, 7, 8]), (8, [1, 2, 3, 4, 5, 6, 7, 8, 9, 10]), (9, [1, 2, 3, 4, 5, 6, 7, 8, 9, 10, 50]), (10, [1, 2, 3, 4, 5, 6, 7, 8, 9, 10]), (11, [1, 2, 3, 4, 5, 6, 7, 10, 11, 12]), (12, [1, 2, 3, 4, 5, 6, 7, 11]), (13, [1, 2, 3, 4, 5, 6, 7]), (14, [2, 3, 4, 5])], [(0, [1, 2, 3, 4, 5, 6, 7])], [(8, [[], [], [1], [1, 2], [], [4], [1, 2, 3, 4, 5], [1, 2, 3, 4, 5, 6], [], [0, 8], List.range 10]), (11, [[], [0], [], [], [0, 1, 2, 3], List.range 5, List.range 6, List.range 6, [], [0, 1, 2, 3, 4, 5, 6, 8], List.range 10])], []⟩
def h51 : Hints := ⟨[(0, [2, 3]), (1, [2, 19]), (2, [4]), (3, [2, 5]), (4, [2, 5, 24]), (5, [2, 5]), (6, [2, 5, 44]), (7, [4]), (8, [4])], [(0, [2, 5])], [(6, [[], [0], [], [0, 1, 2], [0, 1, 2, 3], List.range 5, List.range 6, List.range 7, List.range 8, List.range 7, List.range 10, List.range 11, List.range 7, [0, 1, 2, 3, 4, 5, 6, 12], [0, 1, 2, 3, 4, 5, 6, 12, 13], [0, 1, 2, 3, 4, 5, 6, 12, 13, 14], List.range 16, List.range 17])], []⟩
def h52 : Hints := ⟨[(0, [2, 3]), (1, [2, 3, 5]), (2, [2, 3, 5, 6]), (3, [2, 3, 5, 6, 12]), (4, [2, 3, 5, 6]), (5, [2, 3, 5, 6, 7]), (6, [2, 3, 5, 6, 7, 27]), (7, [2, 3, 5, 6, 7]), (8, [2, 3, 5, 6, 7]), (9, [4])], [(0, [2, 3, 5, 6]), (2, [2, 3, 5, 6, 7])], [(5, [[], [0], [], [0, 1, 2], [0, 1, 2, 3], [], [5], [], [5, 6, 7], [5, 6, 7, 8], List.range 10, List.range 11])], []⟩
def h53 : Hints := ⟨[(0, [2, 3]), (1, [2, 3, 5]), (2, [2, 3, 5, 10]), (3, [2, 3, 5]), (4, [2, 3, 5, 24]), (5, [4]), (6, [4])], [(0, [2, 3, 5])], [(4, [[], [0], [], [0, 1, 2], [0, 1, 2, 3], [], [5], [], [5, 6, 7], [5, 6, 7, 8], List.range 10, List.range 11])], []⟩
def h54 : Hints := ⟨[(0, [0]), (1, [0, 3]), (2, [0, 3, 4]), (3, [0, 3, 4, 6]), (4, [0, 3, 4]), (5, [0, 3, 4, 11]), (6, [0, 3, 4]), (7, [0, 3, 4]), (8, [2])], [(0, [0, 3, 4])], [], []⟩
def h56 : Hints := ⟨[(0, [0, 2]), (1, [2])], [], [], []⟩
def h57 : Hints := ⟨[(0, []), (1, [0])], [], [], []⟩
def h58 : Hints := ⟨[(0, [1]), (1, [1, 3]), (2, [2]), (3, [1, 9]), (4, [2]), (5, [1, 14]), (6, [2]), (7, [19]), (8, [2]), (9, [2])], [], [(7, [[], [0], [0, 1], [], [3], List.range 5, List.range 6, List.range 7])], []⟩
def h59 : Hints := ⟨[(0, [1, 2]), (1, [3])], [], [(1, [[], [0], [], [2], [2, 3], [2, 3, 4], List.range 6, List.range 7, List.range 8, List.range 9, List.range 10, List.range 8, [0, 1, 2, 3, 4, 5, 6, 7, 11], [0, 1, 2, 3, 4, 5, 6, 7, 11, 12], [0, 1, 2, 3, 4, 5, 6, 7, 11, 12, 13], [0, 1, 2, 3, 4, 5, 6, 7, 11, 12, 13, 14], List.range 16, List.range 17, List.range 18])], []⟩
def h60 : Hints := ⟨[(0, [0, 1]), (1, [4])], [], [], []⟩
def h61 : Hints := ⟨[(0, [0, 1, 4]), (1, [0, 1, 4, 6]), (2, [0, 1, 4, 6, 12]), (3, [4, 5]), (4, [0, 1, 4, 20]), (5, [4, 5]), (6, [1, 4]), (7, [4, 30, 31, 32]), (8, [4, 30, 31, 32, 33]), (9, [4, 8, 30, 31, 32]), (10, [4, 30, 31, 32]), (11, [4, 30, 31, 32]), (12, [4, 5])], [(0, [4, 30, 31, 32])], [(10, [[], [0], [], [2], [], [4], [2, 3, 4, 5], [2, 3, 4, 5, 6], List.range 8, List.range 9, List.range 10])], []⟩
def h62 : Hints := ⟨[(0, [1, 2, 4]), (1, [4])], [], [(1, [[], [0], [], [], [2, 3], List.range 5, List.range 6])], []⟩
def h63 : Hints := ⟨[(0, [0]), (1, [0, 3]), (2, [3, 13, 14, 15]), (3, [3, 13, 14, 15, 16]), (4, [3, 5, 13, 14, 15]), (5, [3, 13, 14, 15, 19, 20, 21]), (6, [3, 13, 14, 15, 19, 20, 21, 22]), (7, [3, 6, 7, 13, 14, 15, 19, 20, 21]), (8, [3, 13, 14, 15, 19, 20, 21]), (9, [3, 13, 14, 15, 19, 20, 21]), (10, [3, 13, 14, 15]), (11, [2])], [(0, [3, 13, 14, 15]), (2, [3, 13, 14, 15, 19, 20, 21])], [], []⟩
def h65 : Hints := ⟨[(0, [0, 1, 4]), (1, [0, 4, 8, 9, 10]), (2, [0, 4, 8, 9, 10, 11]), (3, [0, 4, 6, 7, 8, 9, 10]), (4, [0, 4, 6, 7, 8, 9, 10, 21]), (5, [4, 5]), (6, [0, 4, 8, 9, 10]), (7, [0, 4, 8, 9, 10]), (8, [4, 5])], [(0, [0, 4, 8, 9, 10])], [], []⟩
def h66 : Hints := ⟨[(0, [3, 4, 5]), (1, [6])], [], [], []⟩
def h67 : Hints := ⟨[(0, [0, 1]), (1, [0, 1, 10]), (2, [4]), (3, [0, 1, 12, 13]), (4, [0, 1, 12, 13, 14]), (5, [0, 1, 5, 12, 13]), (6, [0, 1, 12, 13, 24]), (7, [4]), (8, [0, 1, 12, 13]), (9, [4])], [(0, [0, 1, 12, 13])], [(6, [[], [], [0, 1], [0, 1, 2], [], [], [4, 5], [4, 5, 6], List.range 8])], []⟩
def h69 : Hints := ⟨[(0, [0, 1, 2, 6]), (1, [2, 6, 9]), (2, [2, 6, 9, 21]), (3, [6, 7, 8, 9]), (4, [2, 6, 26]), (5, [6, 7, 8, 9]), (6, [2, 6, 7, 8]), (7, [2, 6, 7, 8, 33, 34, 35]), (8, [2, 6, 7, 8, 33, 34, 35, 36]), (9, [2, 6, 7, 8, 11, 33, 34, 35]), (10, [2, 6, 7, 8, 12, 33, 34, 35]), (11, [2, 6, 7, 8, 33, 34, 35]), (12, [2, 6, 7, 8, 33, 34, 35]), (13, [6, 7, 8, 52]), (14, [6, 7, 8, 9]), (15, [6, 7, 8, 9])], [(0, [2, 6, 7, 8, 33, 34, 35])], [], []⟩
def h70 : Hints := ⟨[(0, [1, 2]), (1, [4])], [], [], []⟩
def h71 : Hints := ⟨[(0, [1, 2, 3, 6, 7]), (1, [3, 6, 7]), (2, [6, 7, 15]), (3, [6, 7]), (4, [6, 7])], [], [(1, [[], [], [0, 1], [], [], List.range 5, List.range 6, List.range 7]), (4, [[], [], [0], [0, 1, 2]])], []⟩
def h72 : Hints := ⟨[(0, [1, 2]), (1, [5]), (2, [4])], [], [], []⟩
def h75 : Hints := ⟨[(0, [0, 2]), (1, [0, 2, 4]), (2, [0, 2]), (3, [0, 2]), (4, [0, 2]), (5, [2])], [(0, [0, 2])], [(4, [[], [0], [], [2], [2, 3], List.range 5, List.range 6, List.range 7])], []⟩
def h76 : Hints := ⟨[(0, [1]), (1, [2])], [], [], []⟩
def h77 : Hints := ⟨[(0, [0, 1]), (1, [1, 5]), (2, [4]), (3, [10]), (4, [4]), (5, [4])], [], [], []⟩
def h78 : Hints := ⟨[(0, [1, 2, 3, 6]), (1, [1, 2, 3, 6, 7]), (2, [1, 2, 3, 6, 7, 18]), (3, [6]), (4, [1, 3, 6, 7, 8]), (5, [3, 6, 7, 8]), (6, [6, 7, 8, 39, 40]), (7, [6, 7, 8, 39, 40, 41]), (8, [6, 7, 8, 9, 39, 40]), (9, [6, 7, 8, 10, 39, 40]), (10, [6, 7, 8, 10, 39, 40, 48]), (11, [6, 7, 8, 10, 11, 39, 40]), (12, [6, 7, 8, 10, 11, 39, 40, 57]), (13, [6, 7, 8, 10, 11, 39, 40]), (14, [6, 7, 8, 10, 39, 40, 64]), (15, [6, 7, 8, 39, 40]), (16, [6, 7, 8, 39, 40]), (17, [6])], [(0, [6, 7, 8, 39, 40])], [], []⟩
def h79 : Hints := ⟨[(0, [0, 4, 5, 6]), (1, [0, 4, 5, 6, 8, 9]), (2, [0, 4, 5, 6, 8, 9, 10]), (3, [0, 4, 5, 6, 8, 9, 10, 25]), (4, [0, 4, 5, 6, 8, 9, 10]), (5, [0, 4, 5, 6, 8, 9, 10, 11, 12]), (6, [0, 4, 5, 6, 8, 9, 10, 11, 12, 13]), (7, [0, 4, 5, 6, 8, 9, 10, 11, 12, 60]), (8, [0, 4, 5, 6, 8, 9, 10]), (9, [0, 4, 5, 6, 8, 9, 10]), (10, [6, 7])], [(0, [0, 4, 5, 6, 8, 9, 10])], [(5, [[], [0], [0, 1], [], [3], List.range 5, [], [6], [6, 7], List.range 9, [], [10], [10, 11], [], [13], [10, 11, 12, 13, 14], [], [16], [10, 11, 12, 13, 14, 15, 16, 17], List.range 10, List.range 20])], []⟩
def h80 : Hints := ⟨[(0, [2, 3, 4]), (1, [6])], [], [], []⟩
def h81 : Hints := ⟨[(0, [0]), (1, [2])], [], [], []⟩
def h82 : Hints := ⟨[(0, [0, 1]), (1, [0, 1, 7, 8]), (2, [0, 1, 7, 8, 9]), (3, [0, 1, 5, 7, 8]), (4, [0, 1, 5, 7, 8, 16]), (5, [4]), (6, [0, 1, 7, 8]), (7, [4])], [(0, [0, 1, 7, 8])], [], []⟩
def h83 : Hints := ⟨[(0, [1, 2]), (1, [2, 5]), (2, [2, 5, 10, 11]), (3, [2, 5, 10, 11, 12]), (4, [2, 5, 6, 10, 11]), (5, [2, 5, 6, 10, 11, 15]), (6, [2, 5, 10, 11]), (7, [2, 5, 10, 11]), (8, [4])], [(0, [2, 5, 10, 11])], [(6, [[], [], [0, 1], [0, 1, 2], [], [4], [4, 5], List.range 7, List.range 8, List.range 9])], []⟩
def h84 : Hints := ⟨[(0, [0]), (1, [0]), (2, [0]), (3, [0]), (4, [0]), (5, [0]), (6, [0]), (7, [2])], [], [], []⟩
def h85 : Hints := ⟨[(0, [1, 2, 3, 4]), (1, [1, 2, 3, 4, 8]), (2, []), (3, [1, 3, 4, 5]), (4, [1, 3, 4, 5, 14]), (5, [1, 3, 4, 5]), (6, [1, 3, 4, 5, 22]), (7, [1, 3, 4, 5, 6]), (8, [1, 3, 4, 5, 30]), (9, [1, 3, 4, 31]), (10, [1, 3, 4, 5])], [(0, [1, 3, 4, 5]), (2, [1, 3, 4, 5])], [(8, [[], [], [1], [], [1, 2, 3], List.range 5, List.range 6])], []⟩
def h86 : Hints := ⟨[(0, [0]), (1, [2])], [], [], []⟩
def h87 : Hints := ⟨[(0, [0, 1]), (1, [0, 1, 10]), (2, [0, 1]), (3, [0, 5, 6]), (4, [0, 6, 26]), (5, [0, 6]), (6, [0, 7]), (7, [7, 8]), (8, [7, 8, 37]), (9, [7, 8]), (10, [4])], [(0, [7, 8])], [(9, [[], [], [], [1, 2], [], [], [4, 5], [1, 2, 3, 4, 5, 6], List.range 8, List.range 9])], []⟩
def h88 : Hints := ⟨[(0, [0]), (1, [0, 4]), (2, [2]), (3, [2])], [], [], []⟩
def h89 : Hints := ⟨[(0, [1, 2, 3, 6]), (1, [2, 3, 6, 7]), (2, [2, 3, 6, 7, 16]), (3, [2, 6, 7, 8]), (4, [2, 6, 7]), (5, [6, 7, 9]), (6, [6])], [], [], []⟩
def h90 : Hints := ⟨[(0, [0, 3]), (1, [0, 3, 26]), (2, [4]), (3, [0, 3, 5]), (4, [0, 3, 5]), (5, [0, 3, 5, 30]), (6, [0, 3, 5]), (7, [0, 3, 5, 6]), (8, [0, 3, 5, 6, 7]), (9, [0, 3, 5, 6, 7, 41]), (10, [0, 3, 5, 6, 7]), (11, [0, 3, 5, 6, 7, 8]), (12, [0, 3, 5, 6, 7, 8, 48]), (13, [0, 3, 5, 6, 7, 8]), (14, [0, 3, 5, 6, 7, 8]), (15, [4])], [(0, [0, 3, 5]), (2, [0, 3, 5, 6, 7]), (4, [0, 3, 5, 6, 7, 8])], [(14, [[], [], [0], [0, 1, 2], [0, 1, 2, 3], [], [5], [], [], [7, 8], [5, 6], [5, 6, 7, 8, 9, 10], [5, 6, 7, 8, 9, 10, 11], List.range 13, [0], List.range 15, List.range 16]), (15, [[], [0], [], [2], [0, 1], List.range 5, List.range 6, List.range 7])], []⟩
def h91 : Hints := ⟨[(0, [0, 1]), (1, [4])], [], [], []⟩
def h92 : Hints := ⟨[(0, [0, 1, 2]), (1, [4])], [], [], []⟩
def h93 : Hints := ⟨[(0, [0]), (1, [0, 4]), (2, [2]), (3, [2])], [], [], []⟩
def h94 : Hints := ⟨[(0, [0, 1]), (1, [6, 7]), (2, [4, 5]), (3, [8, 9]), (4, [4, 5])], [], [], []⟩
def h95 : Hints := ⟨[(0, [0, 1]), (1, [0, 1, 7, 8]), (2, [0, 1, 7, 8, 9]), (3, [0, 1, 5, 7, 8]), (4, [0, 1, 5, 7, 8, 16]), (5, [4]), (6, [0, 1, 7, 8]), (7, [4])], [(0, [0, 1, 7, 8])], [], []⟩
def h96 : Hints := ⟨[(0, [0, 1]), (1, [6]), (2, [4, 5])], [], [], []⟩
def h97 : Hints := ⟨[(0, [0, 1]), (1, [0, 1, 6]), (2, [0, 1, 6, 7]), (3, [0, 1, 6, 7, 8]), (4, [0, 1, 6, 7, 8, 9]), (5, [0, 1, 6, 7, 8, 9, 10]), (6, [0, 1, 6, 7, 9, 11]), (7, [0, 1, 6, 7, 9, 11, 12]), (8, [0, 1, 6, 7, 9, 12, 13]), (9, [0, 1, 7, 9, 12, 13]), (10, [0, 1, 4]), (11, [4, 5])], [], [], []⟩
def F : Nat → Option AFn
  | 11 => some a11
  | 14 => some a14
  | 15 => some a15
  | 16 => some a16
  | 17 => some a17
  | 22 => some a22
  | 24 => some a24
  | 26 => some a26
  | 27 => some a27
  | 29 => some a29
  | 31 => some a31
  | 32 => some a32
  | 36 => some a36
  | 37 => some a37
  | 40 => some a40
  | 41 => some a41
  | 42 => some a42
  | 46 => some a46
  | 48 => some a48
  | 49 => some a49
  | 50 => some a50
  | 51 => some a51
  | 52 => some a52
  | 53 => some a53
  | 54 => some a54
  | 56 => some a56
  | 57 => some a57
  | 58 => some a58
  | 59 => some a59
  | 60 => some a60
  | 61 => some a61
  | 62 => some a62
  | 63 => some a63
  | 65 => some a65
  | 66 => some a66
  | 67 => some a67
  | 69 => some a69
  | 70 => some a70
  | 71 => some a71
  | 72 => some a72
  | 75 => some a75
  | 76 => some a76
  | 77 => some a77
  | 78 => some a78
  | 79 => some a79
  | 80 => some a80
  | 81 => some a81
  | 82 => some a82
  | 83 => some a83
  | 84 => some a84
  | 85 => some a85
  | 86 => some a86
  | 87 => some a87
  | 88 => some a88
  | 89 => some a89
  | 90 => some a90
  | 91 => some a91
  | 92 => some a92
  | 93 => some a93
  | 94 => some a94
  | 95 => some a95
  | 96 => some a96
  | 97 => some a97
  | _ => none
theorem c11 : compFn Tryd.prog bor h11 Tryd.f11 = some a11 := by kernel_rfl
theorem c14 : compFn Tryd.prog bor h14 Tryd.f14 = some a14 := by kernel_rfl
theorem c15 : compFn Tryd.prog bor h15 Tryd.f15 = some a15 := by kernel_rfl
theorem c16 : compFn Tryd.prog bor h16 Tryd.f16 = some a16 := by kernel_rfl
theorem c17 : compFn Tryd.prog bor h17 Tryd.f17 = some a17 := by kernel_rfl
theorem c22 : compFn Tryd.prog bor h22 Tryd.f22 = some a22 := by kernel_rfl
theorem c24 : compFn Tryd.prog bor h24 Tryd.f24 = some a24 := by kernel_rfl
theorem c26 : compFn Tryd.prog bor h26 Tryd.f26 = some a26 := by kernel_rfl
theorem c27 : compFn Tryd.prog bor h27 Tryd.f27 = some a27 := by kernel_rfl
theorem c29 : compFn Tryd.prog bor h29 Tryd.f29 = some a29 := by kernel_rfl
theorem c31 : compFn Tryd.prog bor h31 Tryd.f31 = some a31 := by kernel_rfl
theorem c32 : compFn Tryd.prog bor h32 Tryd.f32 = some a32 := by kernel_rfl
theorem c36 : compFn Tryd.prog bor h36 Tryd.f36 = some a36 := by kernel_rfl
theorem c37 : compFn Tryd.prog bor h37 Tryd.f37 = some a37 := by kernel_rfl
theorem c40 : compFn Tryd.prog bor h40 Tryd.f40 = some a40 := by kernel_rfl
theorem c41 : compFn Tryd.prog bor h41 Tryd.f41 = some a41 := by kernel_rfl
theorem c42 : compFn Tryd.prog bor h42 Tryd.f42 = some a42 := by kernel_rfl
theorem c46 : compFn Tryd.prog bor h46 Tryd.f46 = some a46 := by kernel_rfl
theorem c48 : compFn Tryd.prog bor h48 Tryd.f48 = some a48 := by kernel_rfl
theorem c49 : compFn Tryd.prog bor h49 Tryd.f49 = some a49 := by kernel_rfl
theorem c50 : compFn Tryd.prog bor h50 Tryd.f50 = some a50 := by kernel_rfl
theorem c51 : compFn Tryd.prog bor h51 Tryd.f51 = some a51 := by kernel_rfl
theorem c52 : compFn Tryd.prog bor h52 Tryd.f52 = some a52 := by kernel_rfl
theorem c53 : compFn Tryd.prog bor h53 Tryd.f53 = some a53 := by kernel_rfl
theorem c54 : compFn Tryd.prog bor h54 Tryd.f54 = some a54 := by kernel_rfl
theorem c56 : compFn Tryd.prog bor h56 Tryd.f56 = some a56 := by kernel_rfl
theorem c57 : compFn Tryd.prog bor h57 Tryd.f57 = some a57 := by kernel_rfl
theorem c58 : compFn Tryd.prog bor h58 Tryd.f58 = some a58 := by kernel_rfl
theorem c59 : compFn Tryd.prog bor h59 Tryd.f59 = some a59 := by kernel_rfl
theorem c60 : compFn Tryd.prog bor h60 Tryd.f60 = some a60 := by kernel_rfl
theorem c61 : compFn Tryd.prog bor h61 Tryd.f61 = some a61 := by kernel_rfl
theorem c62 : compFn Tryd.prog bor h62 Tryd.f62 = some a62 := by kernel_rfl
theorem c63 : compFn Tryd.prog bor h63 Tryd.f63 = some a63 := by kernel_rfl
theorem c65 : compFn Tryd.prog bor h65 Tryd.f65 = some a65 := by kernel_rfl
theorem c66 : compFn Tryd.prog bor h66 Tryd.f66 = some a66 := by kernel_rfl
theorem c67 : compFn Tryd.prog bor h67 Tryd.f67 = some a67 := by kernel_rfl
theorem c69 : compFn Tryd.prog bor h69 Tryd.f69 = some a69 := by kernel_rfl
theorem c70 : compFn Tryd.prog bor h70 Tryd.f70 = some a70 := by kernel_rfl
theorem c71 : compFn Tryd.prog bor h71 Tryd.f71 = some a71 := by kernel_rfl
theorem c72 : compFn Tryd.prog bor h72 Tryd.f72 = some a72 := by kernel_rfl
theorem c75 : compFn Tryd.prog bor h75 Tryd.f75 = some a75 := by kernel_rfl
theorem c76 : compFn Tryd.prog bor h76 Tryd.f76 = some a76 := by kernel_rfl
theorem c77 : compFn Tryd.prog bor h77 Tryd.f77 = some a77 := by kernel_rfl
theorem c78 : compFn Tryd.prog bor h78 Tryd.f78 = some a78 := by kernel_rfl
theorem c79 : compFn Tryd.prog bor h79 Tryd.f79 = some a79 := by kernel_rfl
theorem c80 : compFn Tryd.prog bor h80 Tryd.f80 = some a80 := by kernel_rfl
theorem c81 : compFn Tryd.prog bor h81 Tryd.f81 = some a81 := by kernel_rfl
theorem c82 : compFn Tryd.prog bor h82 Tryd.f82 = some a82 := by kernel_rfl
theorem c83 : compFn Tryd.prog bor h83 Tryd.f83 = some a83 := by kernel_rfl
theorem c84 : compFn Tryd.prog bor h84 Tryd.f84 = some a84 := by kernel_rfl
theorem c85 : compFn Tryd.prog bor h85 Tryd.f85 = some a85 := by kernel_rfl
theorem c86 : compFn Tryd.prog bor h86 Tryd.f86 = some a86 := by kernel_rfl
theorem c87 : compFn Tryd.prog bor h87 Tryd.f87 = some a87 := by kernel_rfl
theorem c88 : compFn Tryd.prog bor h88 Tryd.f88 = some a88 := by kernel_rfl
theorem c89 : compFn Tryd.prog bor h89 Tryd.f89 = some a89 := by kernel_rfl
theorem c90 : compFn Tryd.prog bor h90 Tryd.f90 = some a90 := by kernel_rfl
theorem c91 : compFn Tryd.prog bor h91 Tryd.f91 = some a91 := by kernel_rfl
theorem c92 : compFn Tryd.prog bor h92 Tryd.f92 = some a92 := by kernel_rfl
theorem c93 : compFn Tryd.prog bor h93 Tryd.f93 = some a93 := by kernel_rfl
theorem c94 : compFn Tryd.prog bor h94 Tryd.f94 = some a94 := by kernel_rfl
theorem c95 : compFn Tryd.prog bor h95 Tryd.f95 = some a95 := by kernel_rfl
theorem c96 : compFn Tryd.prog bor h96 Tryd.f96 = some a96 := by kernel_rfl
theorem c97 : compFn Tryd.prog bor h97 Tryd.f97 = some a97 := by kernel_rfl
theorem F_ok (f : Nat) (afn : AFn) (h : F f = some afn) : ∃ fn hh, Tryd.prog.funcs[f]? = some fn ∧ compFn Tryd.prog bor hh fn = some afn := by
  unfold F at h
  split at h
  · cases h; exact ⟨_, _, Tryd.func11, c11⟩
  · cases h; exact ⟨_, _, Tryd.func14, c14⟩
  · cases h; exact ⟨_, _, Tryd.func15, c15⟩
  · cases h; exact ⟨_, _, Tryd.func16, c16⟩
  · cases h; exact ⟨_, _, Tryd.func17, c17⟩
  · cases h; exact ⟨_, _, Tryd.func22, c22⟩
  · cases h; exact ⟨_, _, Tryd.func24, c24⟩
  · cases h; exact ⟨_, _, Tryd.func26, c26⟩
  · cases h; exact ⟨_, _, Tryd.func27, c27⟩
  · cases h; exact ⟨_, _, Tryd.func29, c29⟩
  · cases h; exact ⟨_, _, Tryd.func31, c31⟩
  · cases h; exact ⟨_, _, Tryd.func32, c32⟩
  · cases h; exact ⟨_, _, Tryd.func36, c36⟩
  · cases h; exact ⟨_, _, Tryd.func37, c37⟩
  · cases h; exact ⟨_, _, Tryd.func40, c40⟩
  · cases h; exact ⟨_, _, Tryd.func41, c41⟩
  · cases h; exact ⟨_, _, Tryd.func42, c42⟩
  · cases h; exact ⟨_, _, Tryd.func46, c46⟩
  · cases h; exact ⟨_, _, Tryd.func48, c48⟩
  · cases h; exact ⟨_, _, Tryd.func49, c49⟩
  · cases h; exact ⟨_, _, Tryd.func50, c50⟩
  · cases h; exact ⟨_, _, Tryd.func51, c51⟩
  · cases h; exact ⟨_, _, Tryd.func52, c52⟩
  · cases h; exact ⟨_, _, Tryd.func53, c53⟩
  · cases h; exact ⟨_, _, Tryd.func54, c54⟩
  · cases h; exact ⟨_, _, Tryd.func56, c56⟩
  · cases h; exact ⟨_, _, Tryd.func57, c57⟩
  · cases h; exact ⟨_, _, Tryd.func58, c58⟩
  · cases h; exact ⟨_, _, Tryd.func59, c59⟩
  · cases h; exact ⟨_, _, Tryd.func60, c60⟩
  · cases h; exact ⟨_, _, Tryd.func61, c61⟩
  · cases h; exact ⟨_, _, Tryd.func62, c62⟩
  · cases h; exact ⟨_, _, Tryd.func63, c63⟩
  · cases h; exact ⟨_, _, Tryd.func65, c65⟩
  · cases h; exact ⟨_, _, Tryd.func66, c66⟩
  · cases h; exact ⟨_, _, Tryd.func67, c67⟩
  · cases h; exact ⟨_, _, Tryd.func69, c69⟩
  · cases h; exact ⟨_, _, Tryd.func70, c70⟩
  · cases h; exact ⟨_, _, Tryd.func71, c71⟩
  · cases h; exact ⟨_, _, Tryd.func72, c72⟩
  · cases h; exact ⟨_, _, Tryd.func75, c75⟩
  · cases h; exact ⟨_, _, Tryd.func76, c76⟩
  · cases h; exact ⟨_, _, Tryd.func77, c77⟩
  · cases h; exact ⟨_, _, Tryd.func78, c78⟩
  · cases h; exact ⟨_, _, Tryd.func79, c79⟩
  · cases h; exact ⟨_, _, Tryd.func80, c80⟩
  · cases h; exact ⟨_, _, Tryd.func81, c81⟩
  · cases h; exact ⟨_, _, Tryd.func82, c82⟩
  · cases h; exact ⟨_, _, Tryd.func83, c83⟩
  · cases h; exact ⟨_, _, Tryd.func84, c84⟩
  · cases h; exact ⟨_, _, Tryd.func85, c85⟩
  · cases h; exact ⟨_, _, Tryd.func86, c86⟩
  · cases h; exact ⟨_, _, Tryd.func87, c87⟩
  · cases h; exact ⟨_, _, Tryd.func88, c88⟩
  · cases h; exact ⟨_, _, Tryd.func89, c89⟩
  · cases h; exact ⟨_, _, Tryd.func90, c90⟩
  · cases h; exact ⟨_, _, Tryd.func91, c91⟩
  · cases h; exact ⟨_, _, Tryd.func92, c92⟩
  · cases h; exact ⟨_, _, Tryd.func93, c93⟩
  · cases h; exact ⟨_, _, Tryd.func94, c94⟩
  · cases h; exact ⟨_, _, Tryd.func95, c95⟩
  · cases h; exact ⟨_, _, Tryd.func96, c96⟩
  · cases h; exact ⟨_, _, Tryd.func97, c97⟩
  · cases h
end Go.Abs
