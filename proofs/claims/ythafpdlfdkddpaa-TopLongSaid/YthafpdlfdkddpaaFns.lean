/-
  The functions of this seat are what the compile step gives: proved by the kernel.
-/
import Derived.Test.YthafpdlfdkddpaaProg
import Derived.Test.YthafpdlfdkddpaaComp
import Derived.Test.YthafpdlfdkddpaaFnsA
import Derived.KernelRfl
set_option linter.all false
set_option maxRecDepth 100000
set_option maxHeartbeats 0
namespace Go.Abs
open Go.Proofs
def bor : Nat → List Nat
  | 33 => [3000]
  | 45 => [0]
  | 57 => [0]
  | 58 => [0]
  | 59 => [0]
  | 61 => [0]
  | _ => []

def h3 : Hints := ⟨[(0, [0, 4, 5]), (1, [5, 7, 8]), (2, [7, 8, 9]), (3, [7, 8, 9, 10, 11]), (4, [7, 8, 9, 10, 11, 12, 13]), (5, [7, 8, 9, 10, 11, 12, 13, 14, 15]), (6, [7, 8, 9, 10, 12, 14, 73]), (7, [6]), (8, [8, 9, 10, 12, 14, 16, 17]), (9, [8, 9, 12, 14, 16, 17, 18, 19]), (10, [8, 9, 14, 16, 17, 18, 19, 20, 21]), (11, [16, 17, 18, 19, 20, 21, 22, 23]), (12, [16, 18, 137]), (13, [6]), (14, [6])], [], [(1, [[], [0], [], [0, 1, 2], [], List.range 5, [], [], List.range 8, List.range 9]), (3, [[], [0], [], [0, 1, 2], [0, 1, 2, 3], List.range 5, List.range 6, List.range 6, [], [0, 1, 2, 3, 4, 5, 6, 8], List.range 10]), (8, [[], [0], [], [], [3], [3, 4], List.range 6, List.range 7, List.range 8, List.range 8, [], [0, 1, 2, 3, 4, 5, 6, 7, 8, 10], List.range 12]), (9, [[], [0], [], [], [3], [3, 4], List.range 6, List.range 7, List.range 8, List.range 8, [], [0, 1, 2, 3, 4, 5, 6, 7, 8, 10], List.range 12]), (10, [[], [0], [], [], [3], [3, 4], List.range 6, List.range 7, List.range 8, List.range 8, [], [0, 1, 2, 3, 4, 5, 6, 7, 8, 10], List.range 12]), (11, [[], [0], [], [], [3], [3, 4], List.range 6, List.range 7, List.range 8, List.range 8, [], [0, 1, 2, 3, 4, 5, 6, 7, 8, 10], List.range 12])], []⟩
def h4 : Hints := ⟨[(0, [0, 1, 4]), (1, [1, 4, 5]), (2, [1, 4, 5, 6]), (3, [1, 4, 5, 6, 24]), (4, [1, 4, 5, 6]), (5, [1, 4, 5, 6, 7]), (6, [1, 4, 5, 6, 7, 30]), (7, [1, 4, 5, 6, 7]), (8, [1, 4, 5, 6]), (9, [4])], [(0, [1, 4, 5, 6])], [(7, [[], [], [0, 1], [0, 1, 2], [0, 1, 2, 3], [], [5], [5, 6], [5, 6, 7], List.range 9, List.range 10])], []⟩
def h5 : Hints := ⟨[(0, [1, 2]), (1, [2])], [], [], []⟩
def h6 : Hints := ⟨[(0, [0, 1, 4]), (1, [4])], [], [], []⟩
def h7 : Hints := ⟨[(0, [2, 3, 4]), (1, [2, 3, 4, 6]), (2, [2, 3, 4, 6, 11]), (3, [4, 5]), (4, [2, 3, 4, 16]), (5, [4, 5]), (6, [2, 3, 4, 23]), (7, [4, 5]), (8, [4, 5])], [], [(8, [[], [0], [], [2], [], [4], [2, 3, 4, 5], [2, 3, 4, 5, 6], List.range 8, List.range 9, List.range 10])], []⟩
def h8 : Hints := ⟨[(0, [1, 2]), (1, [1, 2]), (2, [2])], [], [], []⟩
def h9 : Hints := ⟨[(0, [1, 2]), (1, [2, 3])], [], [], []⟩
def h10 : Hints := ⟨[(0, [1, 2]), (1, [2, 3])], [], [], []⟩
def h11 : Hints := ⟨[(0, [2, 3, 4, 6]), (1, [2, 3, 4, 6, 7]), (2, [2, 3, 4, 6, 7, 11]), (3, [6, 7]), (4, [2, 3, 4, 6, 16]), (5, [6, 7]), (6, [2, 3, 4, 6, 21]), (7, [6, 7]), (8, [2, 4, 6, 8]), (9, [6, 7])], [], [(9, [[], [], [], [2], [0, 1, 2, 3], [], [], [], [7], List.range 9, List.range 10, List.range 11, List.range 12])], []⟩
def h12 : Hints := ⟨[(0, [1, 2]), (1, [1, 2]), (2, [2])], [], [], []⟩
def h13 : Hints := ⟨[(0, []), (1, [1]), (2, [1, 2, 3, 4]), (3, [2, 3, 4, 5, 6]), (4, [2, 3, 4, 5, 6, 7, 8]), (5, [0])], [], [], []⟩
def h14 : Hints := ⟨[(0, []), (1, [1]), (2, [1, 2, 3]), (3, [2, 3, 4, 5]), (4, [2, 3, 4, 5, 6, 7]), (5, [0])], [], [], []⟩
def h15 : Hints := ⟨[(0, [0]), (1, [6, 7, 8]), (2, [6, 7, 8, 9]), (3, [4, 6, 7, 8]), (4, [5, 6, 7, 8]), (5, [5, 6, 7, 8, 15]), (6, [2]), (7, [6, 7, 8]), (8, [2])], [(0, [6, 7, 8])], [], []⟩
def h16 : Hints := ⟨[(0, [0]), (1, [0, 3]), (2, [0, 3, 9, 10, 11]), (3, [0, 3, 9, 10, 11, 12]), (4, [0, 3, 5, 9, 10, 11]), (5, [0, 3, 9, 10, 11]), (6, [0, 3, 9, 10, 11, 20]), (7, [0, 3, 9, 10, 11]), (8, [0, 3, 9, 10, 11]), (9, [0, 6]), (10, [6, 25, 26, 27]), (11, [6, 25, 26, 27, 28]), (12, [6, 8, 25, 26, 27]), (13, [6, 25, 26, 27]), (14, [6, 25, 26, 27]), (15, [2])], [(0, [0, 3, 9, 10, 11]), (2, [6, 25, 26, 27])], [], []⟩
def h17 : Hints := ⟨[(0, [2, 3, 4]), (1, [2, 3, 4, 6]), (2, [2, 3, 4, 6, 10]), (3, [4, 5]), (4, [4, 5])], [], [], []⟩
def h18 : Hints := ⟨[(0, [0, 1, 2]), (1, [5, 6])], [], [], []⟩
def h19 : Hints := ⟨[(0, [0, 1, 2]), (1, [5, 6])], [], [(1, [[], [], [1], [1, 2], [], [1, 2, 3, 4], [0], List.range 7])], []⟩
def h20 : Hints := ⟨[(0, [1]), (1, [1, 3]), (2, [1, 3, 4]), (3, [2]), (4, [1, 3, 9]), (5, [1, 3, 9]), (6, [1, 3, 9]), (7, [9]), (8, [2]), (9, [2])], [], [], []⟩
def h21 : Hints := ⟨[(0, [1]), (1, [2])], [], [], []⟩
def h22 : Hints := ⟨[(0, [2, 3, 4]), (1, [6])], [], [], []⟩
def h23 : Hints := ⟨[(0, [1, 2]), (1, [1, 2, 3]), (2, [2, 3, 16, 17, 18]), (3, [2, 3, 16, 17, 18, 19]), (4, [2, 3, 5, 16, 17, 18]), (5, [2, 3, 5, 16, 17, 18]), (6, [2, 3, 16, 17, 18]), (7, [2, 3, 16, 17, 18]), (8, [2])], [(0, [2, 3, 16, 17, 18])], [], []⟩
def h24 : Hints := ⟨[(0, [1, 2, 3]), (1, [6])], [], [], []⟩
def h25 : Hints := ⟨[(0, [1, 2, 3, 6, 7]), (1, [1, 2, 3, 6, 7, 9]), (2, [1, 2, 3, 6, 7, 9, 16]), (3, [6, 7, 8]), (4, [1, 2, 3, 6, 7, 21]), (5, [6, 7, 8]), (6, [1, 2, 3, 6, 7, 29]), (7, [6, 7, 8]), (8, [1, 2, 3, 6, 7, 38]), (9, [6, 7, 8]), (10, [1, 2, 3, 6, 7]), (11, [1, 2, 3, 6, 7, 48, 49, 50]), (12, [1, 2, 3, 6, 7, 48, 49, 50, 51]), (13, [1, 2, 3, 6, 7, 10, 11, 48, 49, 50]), (14, [1, 2, 3, 6, 7, 12, 13, 48, 49, 50]), (15, [1, 2, 3, 6, 7, 12, 13, 48, 49, 50, 70]), (16, [6, 7, 8]), (17, [1, 2, 3, 6, 7, 48, 49, 50]), (18, [1, 2, 3, 6, 7, 48, 49, 50]), (19, [6, 7, 8])], [(1, [1, 2, 3, 6, 7, 48, 49, 50])], [(14, [[], [], [], [1, 2], [1, 2, 3], [], [5], [], List.range 8, List.range 9, List.range 10, List.range 11, List.range 12, List.range 12, List.range 13, List.range 15])], []⟩
def h26 : Hints := ⟨[(0, [1, 3, 5, 6]), (1, [1, 3, 5, 6, 8]), (2, [1, 3, 5, 6, 8, 12]), (3, [6, 7]), (4, [1, 3, 5, 6, 16]), (5, [6, 7]), (6, [1, 3, 5, 6, 23]), (7, [6, 7]), (8, [5, 6, 31]), (9, [5, 6, 9]), (10, [5, 6, 9, 36]), (11, [5, 6]), (12, [6, 7])], [(1, [5, 6])], [], []⟩
def h27 : Hints := ⟨[(0, [3, 4, 5, 6]), (1, [3, 4, 5, 6, 8]), (2, [3, 4, 5, 6, 8, 11]), (3, [6, 7]), (4, [3, 4, 5, 6, 16]), (5, [3, 4, 5, 6, 16]), (6, [6, 7]), (7, [6, 7])], [], [], []⟩
def h28 : Hints := ⟨[(0, [0, 1]), (1, [0, 1, 10]), (2, [4]), (3, [0, 1, 5]), (4, [0, 1, 5, 14]), (5, [0, 1, 5]), (6, [0, 1, 5, 25]), (7, [4]), (8, [4])], [(0, [0, 1, 5])], [(6, [[], [], [0, 1], [0, 1, 2], [], [], [4, 5], [4, 5, 6], List.range 8])], []⟩
def h29 : Hints := ⟨[(0, [1, 2]), (1, [1, 2, 4]), (2, [1, 2, 4, 8]), (3, [2, 3]), (4, [2, 3])], [], [], []⟩
def h30 : Hints := ⟨[(0, [1, 2]), (1, [1, 2, 6]), (2, [1, 2, 6, 11]), (3, [4, 5]), (4, [1, 2, 16]), (5, [4, 5]), (6, [1, 7]), (7, [4, 5])], [], [], []⟩
def h31 : Hints := ⟨[(0, [2, 3]), (1, [2, 3, 6]), (2, [2, 3, 6, 11]), (3, [4, 5]), (4, [2, 3, 16]), (5, [4, 5]), (6, [7]), (7, [7, 20]), (8, [4, 5]), (9, [4, 5])], [], [], []⟩
def h32 : Hints := ⟨[(0, [1]), (1, [1, 3]), (2, [2]), (3, [1, 9]), (4, [2]), (5, [1, 14]), (6, [2]), (7, [19]), (8, [2]), (9, [2])], [], [(7, [[], [0], [0, 1], [0, 1, 2], [], [4], List.range 6, List.range 7, List.range 8])], []⟩
def h33 : Hints := ⟨[(0, [0, 1]), (1, [0, 1, 6]), (2, [0, 1]), (3, [0, 1]), (4, [0, 1, 16]), (5, [0]), (6, [4])], [], [], []⟩
def h34 : Hints := ⟨[(0, [0, 1, 2, 6]), (1, [0, 1, 2, 6, 7]), (2, [1, 2, 6, 7, 14, 15]), (3, [1, 2, 6, 7, 14, 15, 16]), (4, [1, 2, 6, 7, 8, 14, 15]), (5, [1, 2, 6, 7, 8, 14, 15, 18, 19]), (6, [1, 2, 6, 7, 8, 14, 15, 18, 19, 20]), (7, [1, 2, 6, 7, 8, 9, 14, 15, 18, 19]), (8, [1, 2, 6, 7, 8, 9, 14, 15, 18, 19, 25]), (9, [1, 2, 6, 7, 8, 14, 15, 18, 19]), (10, [1, 2, 6, 7, 8, 14, 15, 18, 19]), (11, [1, 2, 6, 7, 14, 15]), (12, [6])], [(0, [1, 2, 6, 7, 14, 15]), (2, [1, 2, 6, 7, 8, 14, 15, 18, 19])], [(9, [[], [0], [], [0, 1, 2], [0, 1, 2, 3], [], [5], List.range 7, List.range 8, List.range 9])], []⟩
def h35 : Hints := ⟨[(0, [0, 1, 2, 3]), (1, [6])], [], [(1, [[], [0], [], [], [], [2, 3, 4], [2, 3, 4, 5], [2, 3, 4, 5], List.range 8, List.range 9])], []⟩
def h36 : Hints := ⟨[(0, [1, 2, 3]), (1, [6])], [], [(1, [[], [0], [0, 1], [], [], [4], [4, 5], [4, 5, 6], [3, 4, 5, 6, 7], List.range 9, List.range 10, [], [], [12], [12, 13], [11, 12, 13, 14], List.range 16, List.range 17, List.range 18, List.range 19])], []⟩
def h37 : Hints := ⟨[(0, [1]), (1, [2])], [], [], []⟩
def h38 : Hints := ⟨[(0, [0]), (1, [2])], [], [], []⟩
def h39 : Hints := ⟨[(0, [0, 1]), (1, [4])], [], [], []⟩
def h40 : Hints := ⟨[(0, [1, 2, 3]), (1, [6])], [], [], []⟩
def h41 : Hints := ⟨[(0, [0, 1]), (1, [4])], [], [], []⟩
def h42 : Hints := ⟨[(0, [0, 1, 2]), (1, [4])], [], [], []⟩
def h43 : Hints := ⟨[(0, [1, 2]), (1, [1, 2, 3, 4]), (2, [1, 2, 3, 4, 12]), (3, [1, 2, 3, 4]), (4, [2])], [(0, [1, 2, 3, 4])], [(1, [[], [0], [0, 1], [], [3], [3, 4], [0, 1, 2], List.range 7]), (3, [[], [], [], [1, 2], [0, 1], List.range 5]), (4, [[], [0], [0, 1], [], [0, 1, 2, 3], [], [5], [5, 6], [], [5, 6, 7, 8], List.range 10, List.range 11, List.range 12])], []⟩
def h44 : Hints := ⟨[(0, [2, 3, 4]), (1, [6])], [], [], []⟩
def h45 : Hints := ⟨[(0, [0]), (1, [0, 3]), (2, [0, 3, 4]), (3, [0, 3, 4, 15, 16]), (4, [0, 3, 4, 15, 16, 17]), (5, [0, 3, 4, 6, 15, 16]), (6, [0, 3, 4, 6, 7, 15, 16]), (7, [0, 3, 4, 7, 8, 15, 16]), (8, [0, 3, 4, 7, 8, 15, 16, 36]), (9, [0, 3, 4, 15, 16]), (10, [0, 3, 4, 15, 16]), (11, [0, 3, 4, 41]), (12, [2, 3]), (13, [0, 3, 4]), (14, [0, 3, 4, 9]), (15, [0, 2, 3, 4, 9]), (16, [0, 2, 3, 4, 9, 62]), (17, [0, 2, 3, 4, 9, 63, 64]), (18, [0, 2, 3, 4, 9, 63, 64, 65]), (19, [0, 2, 3, 4, 9, 11, 63, 64]), (20, [0, 2, 3, 4, 9, 11, 12, 13, 63, 64]), (21, [0, 2, 3, 4, 9, 11, 12, 13, 14, 63, 64]), (22, [0, 2, 3, 4, 9, 11, 12, 14, 63, 64, 89]), (23, [0, 2, 3, 4, 9]), (24, [0, 2, 3, 4, 9, 63, 64]), (25, [2, 3])], [(0, [0, 3, 4, 15, 16]), (2, [0, 2, 3, 4, 9]), (4, [0, 2, 3, 4, 9, 63, 64])], [(7, [[], [], [1], [1, 2], [1, 2, 3], [1, 2, 3, 4], [], List.range 7, [], [], List.range 10, List.range 11, List.range 12]), (14, [[], [], [], [2], [2, 3], [2, 3, 4], [2, 3, 4, 5], [], [7], [1, 2, 3, 4, 5, 6, 7, 8], List.range 10, List.range 11]), (23, [[], [], [], [1, 2], [], [4], [], [6], [4, 5, 6, 7], [0, 6, 7], [0, 1, 2, 3, 6, 7, 9], List.range 11])], []⟩
def h46 : Hints := ⟨[(0, [2, 3]), (1, [2, 3, 5, 6]), (2, [2, 3, 5, 6, 14]), (3, [3, 5, 6]), (4, [4])], [], [(1, [[], [0], [], [2], [2, 3], [2, 3, 4], [], [], [0, 1, 6, 7], List.range 9]), (3, [[], [0], [], [2], [2, 3], [0, 1], List.range 6])], []⟩
def h47 : Hints := ⟨[(0, List.range 5), (1, [7, 8])], [], [(1, [[], [], [1], [1, 2], [0, 1, 2, 3], [], List.range 6, [], [], [8], [7, 8, 9], [], [7, 8, 9, 10, 11], List.range 7, List.range 14])], []⟩
def h48 : Hints := ⟨[(0, [0]), (1, [2])], [], [], []⟩
def h49 : Hints := ⟨[(0, [1]), (1, [24]), (2, [2]), (3, [2])], [], [], []⟩
def h50 : Hints := ⟨[(0, [0, 1]), (1, [1, 5, 6]), (2, [1, 5, 6, 11]), (3, [1, 5, 6, 7]), (4, [1, 5, 6, 7, 21]), (5, [1, 5, 6]), (6, [1, 5, 6]), (7, [4])], [(0, [1, 5, 6])], [], []⟩
def h51 : Hints := ⟨[(0, [0, 1, 2]), (1, [4])], [], [(1, [[], [0], [], [0, 1, 2], [], List.range 5, List.range 6])], []⟩
def h52 : Hints := ⟨[(0, [1, 2]), (1, [2])], [], [], []⟩
def h53 : Hints := ⟨[(0, [1, 2]), (1, [2, 5]), (2, [4])], [], [], []⟩
def h54 : Hints := ⟨[(0, [0, 1]), (1, [0, 1, 7, 8]), (2, [0, 1, 7, 8, 9]), (3, [0, 1, 5, 7, 8]), (4, [0, 1, 5, 7, 8, 16]), (5, [4]), (6, [0, 1, 7, 8]), (7, [4])], [(0, [0, 1, 7, 8])], [], []⟩
def h55 : Hints := ⟨[(0, [0, 1]), (1, [0, 1, 7, 8]), (2, [0, 1, 7, 8, 9]), (3, [0, 1, 5, 7, 8]), (4, [0, 1, 5, 7, 8, 16]), (5, [4]), (6, [0, 1, 7, 8]), (7, [4])], [(0, [0, 1, 7, 8])], [], []⟩
def h56 : Hints := ⟨[(0, [0, 1, 2]), (1, [4])], [], [], []⟩
def h57 : Hints := ⟨[(0, [0, 1, 4]), (1, [0, 1, 4]), (2, [4])], [], [], []⟩
def h58 : Hints := ⟨[(0, [0, 1, 2]), (1, [0, 1, 2, 7]), (2, [0, 1, 16]), (3, [6]), (4, [20]), (5, [6]), (6, [6])], [], [], []⟩
def h59 : Hints := ⟨[(0, [0, 3]), (1, [0, 3, 14]), (2, [38]), (3, [4]), (4, [4]), (5, [0, 3, 5, 6]), (6, [0, 3, 5, 48]), (7, [4]), (8, [0, 3, 7]), (9, [0, 3, 7, 50, 51]), (10, [0, 3, 7, 50, 51, 52]), (11, [0, 3, 7, 9, 50, 51]), (12, [0, 3, 7, 9, 10, 11, 50, 51]), (13, [0, 3, 7, 9, 10, 50, 51, 61]), (14, [0, 3, 7, 50, 51]), (15, [0, 3, 7, 50, 51]), (16, [7]), (17, [4])], [(0, [0, 3, 7, 50, 51])], [(2, [[], [0], [0, 1], [0, 1, 2], [0, 1, 2, 3], List.range 5, [0, 1, 2, 3], [0, 1, 2, 3, 6], [0, 1, 2, 3, 6, 7], [0, 1, 2, 3, 6, 7, 8], List.range 10, List.range 11, List.range 12, List.range 13, List.range 12, [0, 1, 2, 3, 4, 5, 6, 7, 8, 9, 10, 11, 14], List.range 16, List.range 12, [0, 1, 2, 3, 4, 5, 6, 7, 8, 9, 10, 11, 17], [0, 1, 2, 3, 4, 5, 6, 7, 8, 9, 10, 11, 17, 18], [0, 1, 2, 3, 4, 5, 6, 7, 8, 9, 10, 11, 17, 18, 19], List.range 21, List.range 22, List.range 23]), (5, [[], [0], [0, 1], [0, 1, 2], [], List.range 5, List.range 6, List.range 7, List.range 7, List.range 8, List.range 10]), (14, [[], [], [], [2], [], [1, 2, 3, 4], [], [], [1, 2, 3, 4, 5, 6, 7], [1, 2, 3, 4, 5, 6, 7, 8], List.range 10, List.range 11]), (16, [[], [0], [0, 1], [0, 1, 2], [], [], List.range 6])], []⟩
def h60 : Hints := ⟨[(0, [0]), (1, [3]), (2, [2]), (3, [2])], [], [], []⟩
def h61 : Hints := ⟨[(0, [0, 2, 4, 6]), (1, [0, 2, 4, 6, 8]), (2, [0, 4, 6, 8, 16]), (3, [0, 6, 8]), (4, [0, 4, 6, 8, 25]), (5, [0, 6, 8]), (6, [6, 7])], [], [(6, [[], [], [1], [], [3], [3, 4], [3, 4, 5], [1, 2, 3, 4, 5, 6], [0], List.range 9])], []⟩
def h62 : Hints := ⟨[(0, [1, 2, 4]), (1, [1, 2, 4, 8, 9]), (2, [1, 2, 4, 8, 9, 10]), (3, [1, 2, 4, 5, 8, 9]), (4, [1, 2, 4, 8, 9]), (5, [1, 2, 4, 8, 9]), (6, [4])], [(0, [1, 2, 4, 8, 9])], [], []⟩
def h63 : Hints := ⟨[(0, [1, 2, 4]), (1, [1, 4, 9, 10, 11]), (2, [1, 4, 9, 10, 11, 12]), (3, [1, 4, 6, 9, 10, 11]), (4, [1, 4, 9, 10, 11]), (5, [1, 4, 9, 10, 11]), (6, [4])], [(0, [1, 4, 9, 10, 11])], [], []⟩
def h64 : Hints := ⟨[(0, [1, 2, 3, 4]), (1, [2, 3, 4, 8, 9]), (2, [2, 3, 4, 8, 9, 10]), (3, [2, 3, 4, 5, 8, 9]), (4, [2, 3, 4, 5, 8, 9, 15]), (5, [2, 3, 4, 5, 6, 8, 9]), (6, [2, 3, 4, 5, 6, 7, 8, 9]), (7, [2, 3, 4, 5, 6, 7, 8, 9, 26]), (8, [2, 3, 4, 5, 7, 8, 9]), (9, [2, 3, 4, 5, 8, 9, 35]), (10, [2, 3, 4, 8, 9])], [(0, [2, 3, 4, 8, 9]), (2, [2, 3, 4, 5, 8, 9])], [(8, [[], [0], [], [0, 1], [0, 1, 3], List.range 5, List.range 6])], []⟩
def h65 : Hints := ⟨[(0, [1, 2]), (1, [1, 2, 4]), (2, [1, 2, 4, 5]), (3, [1, 2, 4, 5, 10, 11]), (4, [1, 2, 4, 5, 10, 11, 12]), (5, [1, 2, 4, 5, 6, 10, 11]), (6, [1, 2, 4, 5, 6, 10, 11, 17]), (7, [1, 2, 4, 5, 6, 10, 11]), (8, [1, 2, 4, 5, 6, 7, 10, 11]), (9, [1, 2, 4, 5, 6, 7, 10, 11, 33]), (10, [1, 2, 4, 5, 6, 7, 10, 11]), (11, [1, 2, 4, 5, 10, 11, 41]), (12, [1, 2, 4, 5, 10, 11]), (13, [1, 2, 43]), (14, [])], [(0, [1, 2, 4, 5, 10, 11]), (2, [1, 2, 4, 5, 6, 7, 10, 11])], [], []⟩
def h66 : Hints := ⟨[(0, [0, 1]), (1, [3])], [], [(1, [[], [], [0, 1], [0, 1, 2], [], [], [], [6], [5, 6, 7], [5, 6, 7, 8], [], [10], [5, 6, 7, 8, 9, 10, 11], [4, 5, 6, 7, 8, 9, 10, 11, 12], [4, 5, 6, 7, 8, 9, 10, 11, 12, 13], List.range 15, List.range 16])], []⟩
def F : Nat → Option AFn
  | 3 => some a3
  | 4 => some a4
  | 5 => some a5
  | 6 => some a6
  | 7 => some a7
  | 8 => some a8
  | 9 => some a9
  | 10 => some a10
  | 11 => some a11
  | 12 => some a12
  | 13 => some a13
  | 14 => some a14
  | 15 => some a15
  | 16 => some a16
  | 17 => some a17
  | 18 => some a18
  | 19 => some a19
  | 20 => some a20
  | 21 => some a21
  | 22 => some a22
  | 23 => some a23
  | 24 => some a24
  | 25 => some a25
  | 26 => some a26
  | 27 => some a27
  | 28 => some a28
  | 29 => some a29
  | 30 => some a30
  | 31 => some a31
  | 32 => some a32
  | 33 => some a33
  | 34 => some a34
  | 35 => some a35
  | 36 => some a36
  | 37 => some a37
  | 38 => some a38
  | 39 => some a39
  | 40 => some a40
  | 41 => some a41
  | 42 => some a42
  | 43 => some a43
  | 44 => some a44
  | 45 => some a45
  | 46 => some a46
  | 47 => some a47
  | 48 => some a48
  | 49 => some a49
  | 50 => some a50
  | 51 => some a51
  | 52 => some a52
  | 53 => some a53
  | 54 => some a54
  | 55 => some a55
  | 56 => some a56
  | 57 => some a57
  | 58 => some a58
  | 59 => some a59
  | 60 => some a60
  | 61 => some a61
  | 62 => some a62
  | 63 => some a63
  | 64 => some a64
  | 65 => some a65
  | 66 => some a66
  | _ => none
theorem c3 : compFn Try.prog bor h3 Try.f3 = some a3 := by kernel_rfl
theorem c4 : compFn Try.prog bor h4 Try.f4 = some a4 := by kernel_rfl
theorem c5 : compFn Try.prog bor h5 Try.f5 = some a5 := by kernel_rfl
theorem c6 : compFn Try.prog bor h6 Try.f6 = some a6 := by kernel_rfl
theorem c7 : compFn Try.prog bor h7 Try.f7 = some a7 := by kernel_rfl
theorem c8 : compFn Try.prog bor h8 Try.f8 = some a8 := by kernel_rfl
theorem c9 : compFn Try.prog bor h9 Try.f9 = some a9 := by kernel_rfl
theorem c10 : compFn Try.prog bor h10 Try.f10 = some a10 := by kernel_rfl
theorem c11 : compFn Try.prog bor h11 Try.f11 = some a11 := by kernel_rfl
theorem c12 : compFn Try.prog bor h12 Try.f12 = some a12 := by kernel_rfl
theorem c13 : compFn Try.prog bor h13 Try.f13 = some a13 := by kernel_rfl
theorem c14 : compFn Try.prog bor h14 Try.f14 = some a14 := by kernel_rfl
theorem c15 : compFn Try.prog bor h15 Try.f15 = some a15 := by kernel_rfl
theorem c16 : compFn Try.prog bor h16 Try.f16 = some a16 := by kernel_rfl
theorem c17 : compFn Try.prog bor h17 Try.f17 = some a17 := by kernel_rfl
theorem c18 : compFn Try.prog bor h18 Try.f18 = some a18 := by kernel_rfl
theorem c19 : compFn Try.prog bor h19 Try.f19 = some a19 := by kernel_rfl
theorem c20 : compFn Try.prog bor h20 Try.f20 = some a20 := by kernel_rfl
theorem c21 : compFn Try.prog bor h21 Try.f21 = some a21 := by kernel_rfl
theorem c22 : compFn Try.prog bor h22 Try.f22 = some a22 := by kernel_rfl
theorem c23 : compFn Try.prog bor h23 Try.f23 = some a23 := by kernel_rfl
theorem c24 : compFn Try.prog bor h24 Try.f24 = some a24 := by kernel_rfl
theorem c25 : compFn Try.prog bor h25 Try.f25 = some a25 := by kernel_rfl
theorem c26 : compFn Try.prog bor h26 Try.f26 = some a26 := by kernel_rfl
theorem c27 : compFn Try.prog bor h27 Try.f27 = some a27 := by kernel_rfl
theorem c28 : compFn Try.prog bor h28 Try.f28 = some a28 := by kernel_rfl
theorem c29 : compFn Try.prog bor h29 Try.f29 = some a29 := by kernel_rfl
theorem c30 : compFn Try.prog bor h30 Try.f30 = some a30 := by kernel_rfl
theorem c31 : compFn Try.prog bor h31 Try.f31 = some a31 := by kernel_rfl
theorem c32 : compFn Try.prog bor h32 Try.f32 = some a32 := by kernel_rfl
theorem c33 : compFn Try.prog bor h33 Try.f33 = some a33 := by kernel_rfl
theorem c34 : compFn Try.prog bor h34 Try.f34 = some a34 := by kernel_rfl
theorem c35 : compFn Try.prog bor h35 Try.f35 = some a35 := by kernel_rfl
theorem c36 : compFn Try.prog bor h36 Try.f36 = some a36 := by kernel_rfl
theorem c37 : compFn Try.prog bor h37 Try.f37 = some a37 := by kernel_rfl
theorem c38 : compFn Try.prog bor h38 Try.f38 = some a38 := by kernel_rfl
theorem c39 : compFn Try.prog bor h39 Try.f39 = some a39 := by kernel_rfl
theorem c40 : compFn Try.prog bor h40 Try.f40 = some a40 := by kernel_rfl
theorem c41 : compFn Try.prog bor h41 Try.f41 = some a41 := by kernel_rfl
theorem c42 : compFn Try.prog bor h42 Try.f42 = some a42 := by kernel_rfl
theorem c43 : compFn Try.prog bor h43 Try.f43 = some a43 := by kernel_rfl
theorem c44 : compFn Try.prog bor h44 Try.f44 = some a44 := by kernel_rfl
theorem c45 : compFn Try.prog bor h45 Try.f45 = some a45 := by kernel_rfl
theorem c46 : compFn Try.prog bor h46 Try.f46 = some a46 := by kernel_rfl
theorem c47 : compFn Try.prog bor h47 Try.f47 = some a47 := by kernel_rfl
theorem c48 : compFn Try.prog bor h48 Try.f48 = some a48 := by kernel_rfl
theorem c49 : compFn Try.prog bor h49 Try.f49 = some a49 := by kernel_rfl
theorem c50 : compFn Try.prog bor h50 Try.f50 = some a50 := by kernel_rfl
theorem c51 : compFn Try.prog bor h51 Try.f51 = some a51 := by kernel_rfl
theorem c52 : compFn Try.prog bor h52 Try.f52 = some a52 := by kernel_rfl
theorem c53 : compFn Try.prog bor h53 Try.f53 = some a53 := by kernel_rfl
theorem c54 : compFn Try.prog bor h54 Try.f54 = some a54 := by kernel_rfl
theorem c55 : compFn Try.prog bor h55 Try.f55 = some a55 := by kernel_rfl
theorem c56 : compFn Try.prog bor h56 Try.f56 = some a56 := by kernel_rfl
theorem c57 : compFn Try.prog bor h57 Try.f57 = some a57 := by kernel_rfl
theorem c58 : compFn Try.prog bor h58 Try.f58 = some a58 := by kernel_rfl
theorem c59 : compFn Try.prog bor h59 Try.f59 = some a59 := by kernel_rfl
theorem c60 : compFn Try.prog bor h60 Try.f60 = some a60 := by kernel_rfl
theorem c61 : compFn Try.prog bor h61 Try.f61 = some a61 := by kernel_rfl
theorem c62 : compFn Try.prog bor h62 Try.f62 = some a62 := by kernel_rfl
theorem c63 : compFn Try.prog bor h63 Try.f63 = some a63 := by kernel_rfl
theorem c64 : compFn Try.prog bor h64 Try.f64 = some a64 := by kernel_rfl
theorem c65 : compFn Try.prog bor h65 Try.f65 = some a65 := by kernel_rfl
theorem c66 : compFn Try.prog bor h66 Try.f66 = some a66 := by kernel_rfl
theorem F_ok (f : Nat) (afn : AFn) (h : F f = some afn) : ∃ fn hh, Try.prog.funcs[f]? = some fn ∧ compFn Try.prog bor hh fn = some afn := by
  unfold F at h
  split at h
  · cases h; exact ⟨_, _, Try.func3, c3⟩
  · cases h; exact ⟨_, _, Try.func4, c4⟩
  · cases h; exact ⟨_, _, Try.func5, c5⟩
  · cases h; exact ⟨_, _, Try.func6, c6⟩
  · cases h; exact ⟨_, _, Try.func7, c7⟩
  · cases h; exact ⟨_, _, Try.func8, c8⟩
  · cases h; exact ⟨_, _, Try.func9, c9⟩
  · cases h; exact ⟨_, _, Try.func10, c10⟩
  · cases h; exact ⟨_, _, Try.func11, c11⟩
  · cases h; exact ⟨_, _, Try.func12, c12⟩
  · cases h; exact ⟨_, _, Try.func13, c13⟩
  · cases h; exact ⟨_, _, Try.func14, c14⟩
  · cases h; exact ⟨_, _, Try.func15, c15⟩
  · cases h; exact ⟨_, _, Try.func16, c16⟩
  · cases h; exact ⟨_, _, Try.func17, c17⟩
  · cases h; exact ⟨_, _, Try.func18, c18⟩
  · cases h; exact ⟨_, _, Try.func19, c19⟩
  · cases h; exact ⟨_, _, Try.func20, c20⟩
  · cases h; exact ⟨_, _, Try.func21, c21⟩
  · cases h; exact ⟨_, _, Try.func22, c22⟩
  · cases h; exact ⟨_, _, Try.func23, c23⟩
  · cases h; exact ⟨_, _, Try.func24, c24⟩
  · cases h; exact ⟨_, _, Try.func25, c25⟩
  · cases h; exact ⟨_, _, Try.func26, c26⟩
  · cases h; exact ⟨_, _, Try.func27, c27⟩
  · cases h; exact ⟨_, _, Try.func28, c28⟩
  · cases h; exact ⟨_, _, Try.func29, c29⟩
  · cases h; exact ⟨_, _, Try.func30, c30⟩
  · cases h; exact ⟨_, _, Try.func31, c31⟩
  · cases h; exact ⟨_, _, Try.func32, c32⟩
  · cases h; exact ⟨_, _, Try.func33, c33⟩
  · cases h; exact ⟨_, _, Try.func34, c34⟩
  · cases h; exact ⟨_, _, Try.func35, c35⟩
  · cases h; exact ⟨_, _, Try.func36, c36⟩
  · cases h; exact ⟨_, _, Try.func37, c37⟩
  · cases h; exact ⟨_, _, Try.func38, c38⟩
  · cases h; exact ⟨_, _, Try.func39, c39⟩
  · cases h; exact ⟨_, _, Try.func40, c40⟩
  · cases h; exact ⟨_, _, Try.func41, c41⟩
  · cases h; exact ⟨_, _, Try.func42, c42⟩
  · cases h; exact ⟨_, _, Try.func43, c43⟩
  · cases h; exact ⟨_, _, Try.func44, c44⟩
  · cases h; exact ⟨_, _, Try.func45, c45⟩
  · cases h; exact ⟨_, _, Try.func46, c46⟩
  · cases h; exact ⟨_, _, Try.func47, c47⟩
  · cases h; exact ⟨_, _, Try.func48, c48⟩
  · cases h; exact ⟨_, _, Try.func49, c49⟩
  · cases h; exact ⟨_, _, Try.func50, c50⟩
  · cases h; exact ⟨_, _, Try.func51, c51⟩
  · cases h; exact ⟨_, _, Try.func52, c52⟩
  · cases h; exact ⟨_, _, Try.func53, c53⟩
  · cases h; exact ⟨_, _, Try.func54, c54⟩
  · cases h; exact ⟨_, _, Try.func55, c55⟩
  · cases h; exact ⟨_, _, Try.func56, c56⟩
  · cases h; exact ⟨_, _, Try.func57, c57⟩
  · cases h; exact ⟨_, _, Try.func58, c58⟩
  · cases h; exact ⟨_, _, Try.func59, c59⟩
  · cases h; exact ⟨_, _, Try.func60, c60⟩
  · cases h; exact ⟨_, _, Try.func61, c61⟩
  · cases h; exact ⟨_, _, Try.func62, c62⟩
  · cases h; exact ⟨_, _, Try.func63, c63⟩
  · cases h; exact ⟨_, _, Try.func64, c64⟩
  · cases h; exact ⟨_, _, Try.func65, c65⟩
  · cases h; exact ⟨_, _, Try.func66, c66⟩
  · cases h
end Go.Abs
