/-
  The functions of this seat are what the compile step gives: proved by the kernel.
-/
import Derived.Test.YtckchbknbchknaaProg
import Derived.Test.YtckchbknbchknaaComp
import Derived.Test.YtckchbknbchknaaFnsA
import Derived.KernelRfl
set_option linter.all false
set_option maxRecDepth 100000
set_option maxHeartbeats 0
namespace Go.Abs
open Go.Proofs
def bor : Nat → List Nat
  | 35 => [0]
  | _ => []

def h3 : Hints := ⟨[(0, [0, 1]), (1, [0, 5]), (2, [0, 5, 6]), (3, [0, 5, 6, 7]), (4, [0, 5, 6, 7, 32]), (5, [0, 5, 6, 7]), (6, [0, 5, 6, 7, 8]), (7, [0, 5, 6, 7, 8, 9, 10]), (8, [0, 5, 6, 7, 8, 9]), (9, [0, 5, 6, 7]), (10, [5, 6, 11]), (11, [5, 6, 11, 12]), (12, [5, 6, 11, 12, 60]), (13, [5, 6, 11, 12]), (14, [5, 6, 11, 12]), (15, [5, 6, 11, 13, 14]), (16, [5, 6, 13, 14, 15, 16]), (17, [5, 6, 15, 102]), (18, [4]), (19, [5, 6, 15, 17]), (20, [5, 6, 15, 17, 18]), (21, [5, 6, 15, 17, 18, 107]), (22, [5, 6, 15, 17, 18]), (23, [5, 6, 15, 17, 18, 138]), (24, [4]), (25, [5, 6, 15, 17, 18]), (26, [5, 6, 17, 19]), (27, [5, 6, 17, 19, 20]), (28, [5, 6, 17, 19, 20, 147]), (29, [5, 6, 17, 19, 20]), (30, [5, 6, 17, 19, 20, 153]), (31, [5, 6, 17, 19, 20]), (32, [19, 21]), (33, [19, 21, 22]), (34, [19, 21, 22, 164]), (35, [19, 21, 22]), (36, [19, 21, 22, 179]), (37, [19, 21, 22]), (38, [4])], [(0, [0, 5, 6, 7]), (2, [5, 6, 11, 12]), (4, [5, 6, 15, 17, 18]), (6, [5, 6, 17, 19, 20]), (8, [19, 21, 22])], [(7, [[], [], [0, 1], [0, 1, 2], [], [], [4, 5], [4, 5, 6], [0, 1, 2, 3], List.range 9]), (14, [[], [0], [], [], [2, 3], [2, 3, 4], [2, 3, 4, 5], [2, 3, 4, 5, 6], List.range 8, List.range 9, List.range 10]), (23, [[], [], [0, 1], [0, 1, 2], [0, 1, 2, 3], List.range 5, List.range 6, List.range 6, List.range 8, List.range 9, List.range 6, List.range 11, List.range 12, List.range 13, List.range 14, List.range 15, List.range 16, List.range 17, List.range 17, List.range 19, List.range 20, List.range 17, List.range 17, [0, 1, 2, 3, 4, 5, 6, 7, 8, 9, 10, 11, 12, 13, 14, 15, 16, 22], [0, 1, 2, 3, 4, 5, 6, 7, 8, 9, 10, 11, 12, 13, 14, 15, 16, 21, 22, 23], [0, 1, 2, 3, 4, 5, 6, 7, 8, 9, 10, 11, 12, 13, 14, 15, 16, 21, 22, 23, 24], List.range 26, List.range 27, List.range 28]), (36, [[], [], [0, 1], [0, 1, 2], [], [], [5], [], [7], [5, 6, 7, 8], [4, 5, 6, 7, 8, 9], [4, 5, 6, 7, 8, 9, 10], List.range 12])], []⟩
def h4 : Hints := ⟨[(0, [0, 1]), (1, [0, 1, 5]), (2, [0, 1, 5, 6]), (3, [0, 1, 5, 6, 15]), (4, [0, 1, 5, 6]), (5, [0, 1, 5, 6]), (6, [0, 1, 5, 7]), (7, [0, 1, 5, 7, 29]), (8, [0, 1, 5, 7]), (9, [0, 1, 5, 7, 8, 9]), (10, [0, 1, 5, 7, 8, 9, 10, 11]), (11, [0, 1, 5, 7, 9, 10]), (12, [0, 1, 5, 7]), (13, [4])], [(0, [0, 1, 5, 6]), (2, [0, 1, 5, 7])], [(9, [[], [], [0, 1], [0, 1, 2], [0, 1, 2, 3], [], List.range 6, [], [], [7, 8], [7, 8, 9], [7, 8, 9, 10], [7, 8, 9, 10, 11], [], [7, 8, 9, 10, 11, 12, 13], List.range 7, List.range 16]), (10, [[], [], [0, 1], [0, 1, 2], [], [], [4, 5], [4, 5, 6], [0, 1, 2, 3], List.range 9])], []⟩
def h5 : Hints := ⟨[(0, [0, 1]), (1, [0, 1, 7]), (2, [4]), (3, [4])], [], [], []⟩
def h6 : Hints := ⟨[(0, [0, 2]), (1, [0, 2, 4]), (2, [0, 2, 4, 17]), (3, [2, 3]), (4, [2, 5]), (5, [2, 5, 6]), (6, [2, 5, 6, 7]), (7, [2, 5, 6, 7, 8, 9]), (8, [2, 5, 6, 7, 8, 9, 27, 28, 29]), (9, [2, 5, 6, 7, 8, 9, 27, 28, 29, 30]), (10, [2, 5, 6, 7, 8, 9, 10, 11, 27, 28, 29]), (11, [2, 5, 6, 7, 8, 9, 10, 11, 12, 27, 28, 29]), (12, [2, 5, 6, 7, 8, 9, 11, 12, 13, 27, 28, 29]), (13, [2, 5, 6, 7, 8, 9, 11, 12, 13, 27, 28, 29, 39]), (14, [2, 5, 6, 7, 8, 9, 11, 12, 13, 27, 28, 29]), (15, [2, 5, 6, 7, 8, 9, 11, 12, 13, 27, 28, 29, 48]), (16, [2, 5, 6, 7, 8, 9, 11, 12, 13, 27, 28, 29]), (17, [2, 5, 6, 7, 8, 9, 11, 27, 28, 29, 64]), (18, [2, 5, 6, 7, 8, 9, 27, 28, 29]), (19, [2, 5, 6, 7, 8, 9, 27, 28, 29]), (20, [2, 5, 6, 7, 8, 9, 27, 28, 29]), (21, [2, 3])], [(0, [2, 5, 6, 7, 8, 9, 27, 28, 29]), (2, [2, 5, 6, 7, 8, 9, 11, 12, 13, 27, 28, 29])], [(15, [[], [], [], [], [2, 3], [2, 3, 4], List.range 6]), (19, [[], [0], [], [0, 1], [0, 1, 2, 3]])], []⟩
def h7 : Hints := ⟨[(0, [0]), (1, [2])], [], [], []⟩
def h8 : Hints := ⟨[(0, [1, 2]), (1, [1, 2, 3, 4]), (2, [1, 2, 3, 4, 14]), (3, [2, 3]), (4, [1, 2, 4, 5]), (5, [1, 2, 4, 5, 6]), (6, [1, 2, 4, 5, 6, 22, 23]), (7, [1, 2, 4, 5, 6, 22, 23, 24]), (8, [1, 2, 4, 5, 6, 7, 22, 23]), (9, [1, 2, 4, 5, 6, 7, 22, 23]), (10, [1, 2, 4, 5, 6, 7, 22, 23, 32]), (11, [1, 2, 4, 5, 6, 22, 23]), (12, [1, 2, 4, 5, 6, 22, 23]), (13, [1, 2, 4, 5, 6, 22, 23, 46]), (14, [1, 2, 4, 5, 6, 22, 23]), (15, [2, 3])], [(0, [1, 2, 4, 5, 6, 22, 23])], [], []⟩
def h9 : Hints := ⟨[(0, []), (1, [1]), (2, [1, 2, 3]), (3, [2, 3, 4, 5, 6]), (4, [0])], [], [], []⟩
def h10 : Hints := ⟨[(0, []), (1, [1]), (2, [2, 3, 4]), (3, [2, 3, 4, 5, 6]), (4, [0])], [], [], []⟩
def h11 : Hints := ⟨[(0, [0]), (1, [0, 3]), (2, [2]), (3, [7]), (4, [2]), (5, [2])], [], [], []⟩
def h12 : Hints := ⟨[(0, [0, 2]), (1, [2, 5, 6, 7]), (2, [2, 5, 6, 7, 8]), (3, [2, 3, 4, 5, 6, 7]), (4, [2, 3, 4, 5, 6, 7, 13]), (5, [2, 5, 6, 7]), (6, [2, 5, 6, 7]), (7, [2])], [(0, [2, 5, 6, 7])], [], []⟩
def h13 : Hints := ⟨[(0, [2, 3]), (1, [4])], [], [], []⟩
def h14 : Hints := ⟨[(0, [2, 3]), (1, [4])], [], [], []⟩
def h15 : Hints := ⟨[(0, [2, 3]), (1, [2, 3, 5]), (2, [2, 3, 5, 13]), (3, [2, 3, 5, 6, 15]), (4, [2, 3, 5, 6, 7]), (5, [2, 3, 5, 6, 7]), (6, [2, 3, 5, 6, 7, 8]), (7, [2, 3, 5, 6, 7, 8, 24]), (8, [2, 3, 5, 6, 7, 8]), (9, [2, 3, 5, 6, 7, 8, 33]), (10, [2, 3, 5, 6, 7, 8]), (11, [4])], [(0, [2, 3, 5]), (2, [2, 3, 5, 6, 7, 8])], [(9, [[], [], [], [], [2, 3], [2, 3, 4], List.range 6]), (10, [[], [], [], [], [2, 3], [2, 3, 4], [], [], [6, 7], [6, 7, 8], [6, 7, 8, 9], [2, 3, 4, 5, 6, 7, 8, 9, 10], List.range 12, List.range 13])], []⟩
def h16 : Hints := ⟨[(0, [0]), (1, [2])], [], [], []⟩
def h17 : Hints := ⟨[(0, [1, 2]), (1, [1, 2, 4, 5]), (2, [1, 2, 4, 5, 15]), (3, [2, 3]), (4, [1, 2, 4, 6]), (5, [1, 2, 4, 6, 20, 21, 22]), (6, [1, 2, 4, 6, 20, 21, 22, 23]), (7, [1, 2, 4, 6, 8, 20, 21, 22]), (8, [1, 2, 4, 6, 20, 21, 22]), (9, [1, 2, 4, 6, 20, 21, 22]), (10, [1, 2, 4, 6, 30]), (11, [2, 3]), (12, [2, 4, 34]), (13, [2, 3]), (14, [2, 3])], [(0, [1, 2, 4, 6, 20, 21, 22])], [], []⟩
def h18 : Hints := ⟨[(0, [1, 2, 4]), (1, [1, 2, 4, 9, 10]), (2, [1, 2, 4, 9, 10, 11]), (3, [1, 2, 4, 5, 9, 10]), (4, [1, 2, 4, 5, 9, 10, 16]), (5, [1, 2, 4, 9, 10]), (6, [1, 2, 4, 9, 10]), (7, [4])], [(0, [1, 2, 4, 9, 10])], [], []⟩
def h19 : Hints := ⟨[(0, [1, 2, 3, 6]), (1, [1, 2, 3, 6, 8, 9]), (2, [1, 2, 3, 6, 8, 9, 17]), (3, [6, 7, 8]), (4, [1, 2, 6, 9, 21]), (5, [6, 7, 8]), (6, [1, 2, 6, 9, 30]), (7, [6, 7, 8]), (8, [1, 2, 6, 9, 34]), (9, [6, 7, 8]), (10, [2, 6, 7, 9]), (11, [6, 7, 9, 39, 40, 41]), (12, [6, 7, 9, 39, 40, 41, 42]), (13, [6, 7, 9, 11, 39, 40, 41]), (14, [6, 7, 9, 11, 39, 40, 41]), (15, [6, 7, 9, 39, 40, 41]), (16, [6, 7, 9, 39, 40, 41]), (17, [6, 7, 8])], [(1, [6, 7, 9, 39, 40, 41])], [], []⟩
def h20 : Hints := ⟨[(0, [0, 1]), (1, [0, 1, 10]), (2, [4]), (3, [0, 1, 5]), (4, [0, 1, 5, 14]), (5, [0, 1, 5]), (6, [0, 1, 5, 25]), (7, [4]), (8, [4])], [(0, [0, 1, 5])], [(6, [[], [], [0, 1], [0, 1, 2], [], [], [4, 5], [4, 5, 6], List.range 8])], []⟩
def h21 : Hints := ⟨[(0, [1, 2, 4]), (1, [1, 2, 4, 7]), (2, [1, 2, 4, 7, 20]), (3, [4, 5, 6]), (4, [1, 2, 4, 8, 9]), (5, [1, 2, 4, 5, 8, 9]), (6, [2, 4, 5, 8, 9, 29]), (7, [2, 4, 5, 8, 9, 10, 31]), (8, [2, 4, 5, 8, 9, 10, 11]), (9, [2, 4, 5, 8, 9, 10, 11, 40]), (10, [2, 4, 5, 8, 9]), (11, [2, 4, 5, 8, 9]), (12, [2, 4, 5, 9]), (13, [2, 4, 5, 9, 49, 50, 51]), (14, [2, 4, 5, 9, 49, 50, 51, 52]), (15, [2, 4, 5, 9, 13, 49, 50, 51]), (16, [2, 4, 5, 9, 13, 49, 50, 51, 56, 57, 58]), (17, [2, 4, 5, 9, 13, 49, 50, 51, 56, 57, 58, 59]), (18, [2, 4, 5, 9, 13, 14, 15, 49, 50, 51, 56, 57, 58]), (19, [2, 4, 5, 9, 13, 14, 49, 50, 51, 56, 57, 58, 75]), (20, [2, 4, 5, 9, 49, 50, 51]), (21, [2, 4, 5, 9, 13, 49, 50, 51, 56, 57, 58]), (22, [2, 4, 5, 9, 49, 50, 51]), (23, [4, 5, 6])], [(0, [2, 4, 5, 8, 9]), (2, [2, 4, 5, 9, 49, 50, 51]), (4, [2, 4, 5, 9, 13, 49, 50, 51, 56, 57, 58])], [], []⟩
def h22 : Hints := ⟨[(0, [0, 2]), (1, [0, 2, 4]), (2, [0, 2, 4, 14]), (3, [2, 3]), (4, [2, 5]), (5, [2, 5, 6]), (6, [2, 5, 6, 7, 8]), (7, [2, 6, 7, 8, 23, 24, 25]), (8, [2, 6, 7, 8, 23, 24, 25, 26]), (9, [2, 6, 7, 8, 9, 10, 23, 24, 25]), (10, [2, 6, 7, 8, 10, 23, 24, 25, 44]), (11, [2, 6, 7, 8, 23, 24, 25]), (12, [2, 6, 7, 8, 23, 24, 25]), (13, [2, 3])], [(0, [2, 6, 7, 8, 23, 24, 25])], [(11, [[], [], [1], [1, 2], [0, 1, 2, 3], [], [5], [], List.range 5, [0, 1, 2, 3, 4, 5, 6, 8], List.range 10])], []⟩
def h23 : Hints := ⟨[(0, [2, 3, 4]), (1, [6])], [], [], []⟩
def h24 : Hints := ⟨[(0, [1]), (1, [2])], [], [], []⟩
def h25 : Hints := ⟨[(0, [0]), (1, [0, 7]), (2, [0]), (3, [0, 3]), (4, [0, 3, 4]), (5, [0, 3, 4, 15]), (6, [0, 3, 4]), (7, [0, 3, 4]), (8, [2])], [(0, [0, 3, 4])], [], []⟩
def h26 : Hints := ⟨[(0, [1, 2]), (1, [1, 2, 4]), (2, [1, 2, 4, 9]), (3, [2, 3]), (4, [1, 2, 4, 15]), (5, [2, 3]), (6, [2, 4, 21]), (7, [2, 3]), (8, [2, 3])], [], [], []⟩
def h27 : Hints := ⟨[(0, [1, 3, 5, 6]), (1, [1, 3, 5, 6, 7]), (2, [1, 3, 5, 6, 7]), (3, [3, 5, 6, 7, 21]), (4, [3, 5, 6, 7, 8]), (5, [3, 5, 6, 7, 8, 23, 24, 25]), (6, [3, 5, 6, 7, 8, 23, 24, 25, 26]), (7, [3, 5, 6, 7, 8, 9, 10, 23, 24, 25]), (8, [3, 5, 6, 7, 8, 10, 23, 24, 25, 54]), (9, [3, 5, 6, 7, 8, 23, 24, 25]), (10, [3, 5, 6, 7, 8, 23, 24, 25]), (11, [3, 5, 6, 7]), (12, [6])], [(0, [3, 5, 6, 7]), (2, [3, 5, 6, 7, 8, 23, 24, 25])], [(8, [[], [0], [0, 1], [0, 1, 2], [0, 1, 2], List.range 5, List.range 6, List.range 7, List.range 8, List.range 9, List.range 10, List.range 11, List.range 9, List.range 13, List.range 14, List.range 15, List.range 9, [0, 1, 2, 3, 4, 5, 6, 7, 8, 16], [0, 1, 2, 3, 4, 5, 6, 7, 8, 16, 17], List.range 9, [0, 1, 2, 3, 4, 5, 6, 7, 8, 16, 17, 18, 19], [0, 1, 2, 3, 4, 5, 6, 7, 8, 16, 17, 18, 19, 20], [0, 1, 2, 3, 4, 5, 6, 7, 8, 16, 17, 18, 19, 20, 21], List.range 23, List.range 24]), (9, [[], [], [], [], [2, 3], [2, 3, 4], [], [6], [2, 3, 4, 5, 6, 7], List.range 9, List.range 10]), (11, [[], [], [], [1, 2], [1, 2, 3], List.range 5, List.range 6])], []⟩
def h28 : Hints := ⟨[(0, [2, 3, 4]), (1, [6])], [], [], []⟩
def h29 : Hints := ⟨[(0, [1, 2]), (1, [1, 2, 5]), (2, [1, 2, 5, 13]), (3, [4]), (4, [4])], [], [], []⟩
def h30 : Hints := ⟨[(0, [1, 2, 3]), (1, [6])], [], [], []⟩
def h31 : Hints := ⟨[(0, [1, 2]), (1, [1, 2, 5]), (2, [1, 2, 5, 9]), (3, [4]), (4, [1, 2, 11]), (5, [4]), (6, [18]), (7, [4]), (8, [4])], [], [], []⟩
def h32 : Hints := ⟨[(0, [0]), (1, [0, 4]), (2, [2]), (3, [2])], [], [], []⟩
def h33 : Hints := ⟨[(0, [1]), (1, [2])], [], [], []⟩
def h34 : Hints := ⟨[(0, [1, 2]), (1, [1, 2, 5]), (2, [4])], [], [(2, [[], [0], [0, 1], [0, 1, 2], [0, 1, 2, 3], List.range 5, [0, 1, 2], List.range 7, List.range 8, [0, 1, 2], [0, 1, 2, 9], [0, 1, 2, 9, 10], [0, 1, 2], [0, 1, 2, 9, 10, 11, 12], [0, 1, 2, 9, 10, 11, 12, 13], List.range 15, List.range 16, List.range 17])], []⟩
def h35 : Hints := ⟨[(0, [0, 2, 3]), (1, [0, 2, 3, 9]), (2, [0, 2, 3]), (3, [0, 2, 3])], [(0, [0, 2, 3])], [(3, [[], [], [], [], [], [], [4, 5], [4, 5, 6], [], [], [8, 9], [8, 9, 10], [0, 1, 4, 5, 6, 7, 8, 9, 10, 11], [0, 1, 4, 5, 6, 7, 8, 9, 10, 11, 12], List.range 14, List.range 15])], []⟩
def h36 : Hints := ⟨[(0, [0, 1]), (1, [4])], [], [], []⟩
def h37 : Hints := ⟨[(0, [0, 1, 2]), (1, [4])], [], [], []⟩
def h38 : Hints := ⟨[(0, [0, 1, 3]), (1, [0, 1, 3, 8]), (2, [0, 1, 3]), (3, [0, 1, 3, 18])], [(0, [0, 1, 3])], [], []⟩
def h39 : Hints := ⟨[(0, [0]), (1, [2])], [], [], []⟩
def h40 : Hints := ⟨[(0, [1, 2]), (1, [1, 5]), (2, [4])], [], [], []⟩
def h41 : Hints := ⟨[(0, [2, 3]), (1, [4])], [], [], []⟩
def h42 : Hints := ⟨[(0, [0, 1, 2]), (1, [4])], [], [], []⟩
def h43 : Hints := ⟨[(0, [0, 1]), (1, [4])], [], [], []⟩
def h44 : Hints := ⟨[(0, [1]), (1, [1, 3]), (2, [2]), (3, [1, 9]), (4, [2]), (5, [1, 14]), (6, [2]), (7, [19]), (8, [2]), (9, [2])], [], [], []⟩
def h45 : Hints := ⟨[(0, [0, 1, 3]), (1, [0, 1, 3, 8]), (2, [0, 1, 3]), (3, [0, 1, 3, 18])], [(0, [0, 1, 3])], [], []⟩
def h46 : Hints := ⟨[(0, [0, 1]), (1, [0, 1, 7, 8]), (2, [0, 1, 7, 8, 9]), (3, [0, 1, 5, 7, 8]), (4, [0, 1, 5, 7, 8, 16]), (5, [4]), (6, [0, 1, 7, 8]), (7, [4])], [(0, [0, 1, 7, 8])], [], []⟩
def h47 : Hints := ⟨[(0, [1, 2]), (1, [3])], [], [], []⟩
def h48 : Hints := ⟨[(0, [0, 1]), (1, [4])], [], [], []⟩
def h49 : Hints := ⟨[(0, [0, 1]), (1, [4])], [], [], []⟩
def h50 : Hints := ⟨[(0, [0, 1, 2, 8, 9]), (1, [0, 1, 2, 8, 9, 10]), (2, [0, 1, 2, 4, 8, 9]), (3, [0, 1, 2, 8, 9, 18]), (4, [0, 1, 2, 8, 9])], [(0, [0, 1, 2, 8, 9])], [], []⟩
def h51 : Hints := ⟨[(0, [0]), (1, [0]), (2, [0]), (3, [0]), (4, [2])], [], [], []⟩
def h52 : Hints := ⟨[(0, [2, 3, 4]), (1, [6])], [], [], []⟩
def h53 : Hints := ⟨[(0, [0, 1]), (1, [0, 1, 7, 8]), (2, [0, 1, 7, 8, 9]), (3, [0, 1, 5, 7, 8]), (4, [0, 1, 5, 7, 8, 16]), (5, [4]), (6, [0, 1, 7, 8]), (7, [4])], [(0, [0, 1, 7, 8])], [], []⟩
def h54 : Hints := ⟨[(0, [0]), (1, [0]), (2, [0]), (3, [2])], [], [], []⟩
def h55 : Hints := ⟨[(0, [0, 1, 2]), (1, [4])], [], [], []⟩
def F : Nat → Option AFn
  | 3 => some a3
  | 4 => some a4
  | 5 => some a5
  | 6 => some a6
  | 7 => some a7
  | 8 => some a8
  | 9 => some a9
  | 10 => some a10
  | 11 => some a11
  | 12 => some a12
  | 13 => some a13
  | 14 => some a14
  | 15 => some a15
  | 16 => some a16
  | 17 => some a17
  | 18 => some a18
  | 19 => some a19
  | 20 => some a20
  | 21 => some a21
  | 22 => some a22
  | 23 => some a23
  | 24 => some a24
  | 25 => some a25
  | 26 => some a26
  | 27 => some a27
  | 28 => some a28
  | 29 => some a29
  | 30 => some a30
  | 31 => some a31
  | 32 => some a32
  | 33 => some a33
  | 34 => some a34
  | 35 => some a35
  | 36 => some a36
  | 37 => some a37
  | 38 => some a38
  | 39 => some a39
  | 40 => some a40
  | 41 => some a41
  | 42 => some a42
  | 43 => some a43
  | 44 => some a44
  | 45 => some a45
  | 46 => some a46
  | 47 => some a47
  | 48 => some a48
  | 49 => some a49
  | 50 => some a50
  | 51 => some a51
  | 52 => some a52
  | 53 => some a53
  | 54 => some a54
  | 55 => some a55
  | _ => none
theorem c3 : compFn Try.prog bor h3 Try.f3 = some a3 := by kernel_rfl
theorem c4 : compFn Try.prog bor h4 Try.f4 = some a4 := by kernel_rfl
theorem c5 : compFn Try.prog bor h5 Try.f5 = some a5 := by kernel_rfl
theorem c6 : compFn Try.prog bor h6 Try.f6 = some a6 := by kernel_rfl
theorem c7 : compFn Try.prog bor h7 Try.f7 = some a7 := by kernel_rfl
theorem c8 : compFn Try.prog bor h8 Try.f8 = some a8 := by kernel_rfl
theorem c9 : compFn Try.prog bor h9 Try.f9 = some a9 := by kernel_rfl
theorem c10 : compFn Try.prog bor h10 Try.f10 = some a10 := by kernel_rfl
theorem c11 : compFn Try.prog bor h11 Try.f11 = some a11 := by kernel_rfl
theorem c12 : compFn Try.prog bor h12 Try.f12 = some a12 := by kernel_rfl
theorem c13 : compFn Try.prog bor h13 Try.f13 = some a13 := by kernel_rfl
theorem c14 : compFn Try.prog bor h14 Try.f14 = some a14 := by kernel_rfl
theorem c15 : compFn Try.prog bor h15 Try.f15 = some a15 := by kernel_rfl
theorem c16 : compFn Try.prog bor h16 Try.f16 = some a16 := by kernel_rfl
theorem c17 : compFn Try.prog bor h17 Try.f17 = some a17 := by kernel_rfl
theorem c18 : compFn Try.prog bor h18 Try.f18 = some a18 := by kernel_rfl
theorem c19 : compFn Try.prog bor h19 Try.f19 = some a19 := by kernel_rfl
theorem c20 : compFn Try.prog bor h20 Try.f20 = some a20 := by kernel_rfl
theorem c21 : compFn Try.prog bor h21 Try.f21 = some a21 := by kernel_rfl
theorem c22 : compFn Try.prog bor h22 Try.f22 = some a22 := by kernel_rfl
theorem c23 : compFn Try.prog bor h23 Try.f23 = some a23 := by kernel_rfl
theorem c24 : compFn Try.prog bor h24 Try.f24 = some a24 := by kernel_rfl
theorem c25 : compFn Try.prog bor h25 Try.f25 = some a25 := by kernel_rfl
theorem c26 : compFn Try.prog bor h26 Try.f26 = some a26 := by kernel_rfl
theorem c27 : compFn Try.prog bor h27 Try.f27 = some a27 := by kernel_rfl
theorem c28 : compFn Try.prog bor h28 Try.f28 = some a28 := by kernel_rfl
theorem c29 : compFn Try.prog bor h29 Try.f29 = some a29 := by kernel_rfl
theorem c30 : compFn Try.prog bor h30 Try.f30 = some a30 := by kernel_rfl
theorem c31 : compFn Try.prog bor h31 Try.f31 = some a31 := by kernel_rfl
theorem c32 : compFn Try.prog bor h32 Try.f32 = some a32 := by kernel_rfl
theorem c33 : compFn Try.prog bor h33 Try.f33 = some a33 := by kernel_rfl
theorem c34 : compFn Try.prog bor h34 Try.f34 = some a34 := by kernel_rfl
theorem c35 : compFn Try.prog bor h35 Try.f35 = some a35 := by kernel_rfl
theorem c36 : compFn Try.prog bor h36 Try.f36 = some a36 := by kernel_rfl
theorem c37 : compFn Try.prog bor h37 Try.f37 = some a37 := by kernel_rfl
theorem c38 : compFn Try.prog bor h38 Try.f38 = some a38 := by kernel_rfl
theorem c39 : compFn Try.prog bor h39 Try.f39 = some a39 := by kernel_rfl
theorem c40 : compFn Try.prog bor h40 Try.f40 = some a40 := by kernel_rfl
theorem c41 : compFn Try.prog bor h41 Try.f41 = some a41 := by kernel_rfl
theorem c42 : compFn Try.prog bor h42 Try.f42 = some a42 := by kernel_rfl
theorem c43 : compFn Try.prog bor h43 Try.f43 = some a43 := by kernel_rfl
theorem c44 : compFn Try.prog bor h44 Try.f44 = some a44 := by kernel_rfl
theorem c45 : compFn Try.prog bor h45 Try.f45 = some a45 := by kernel_rfl
theorem c46 : compFn Try.prog bor h46 Try.f46 = some a46 := by kernel_rfl
theorem c47 : compFn Try.prog bor h47 Try.f47 = some a47 := by kernel_rfl
theorem c48 : compFn Try.prog bor h48 Try.f48 = some a48 := by kernel_rfl
theorem c49 : compFn Try.prog bor h49 Try.f49 = some a49 := by kernel_rfl
theorem c50 : compFn Try.prog bor h50 Try.f50 = some a50 := by kernel_rfl
theorem c51 : compFn Try.prog bor h51 Try.f51 = some a51 := by kernel_rfl
theorem c52 : compFn Try.prog bor h52 Try.f52 = some a52 := by kernel_rfl
theorem c53 : compFn Try.prog bor h53 Try.f53 = some a53 := by kernel_rfl
theorem c54 : compFn Try.prog bor h54 Try.f54 = some a54 := by kernel_rfl
theorem c55 : compFn Try.prog bor h55 Try.f55 = some a55 := by kernel_rfl
theorem F_ok (f : Nat) (afn : AFn) (h : F f = some afn) : ∃ fn hh, Try.prog.funcs[f]? = some fn ∧ compFn Try.prog bor hh fn = some afn := by
  unfold F at h
  split at h
  · cases h; exact ⟨_, _, Try.func3, c3⟩
  · cases h; exact ⟨_, _, Try.func4, c4⟩
  · cases h; exact ⟨_, _, Try.func5, c5⟩
  · cases h; exact ⟨_, _, Try.func6, c6⟩
  · cases h; exact ⟨_, _, Try.func7, c7⟩
  · cases h; exact ⟨_, _, Try.func8, c8⟩
  · cases h; exact ⟨_, _, Try.func9, c9⟩
  · cases h; exact ⟨_, _, Try.func10, c10⟩
  · cases h; exact ⟨_, _, Try.func11, c11⟩
  · cases h; exact ⟨_, _, Try.func12, c12⟩
  · cases h; exact ⟨_, _, Try.func13, c13⟩
  · cases h; exact ⟨_, _, Try.func14, c14⟩
  · cases h; exact ⟨_, _, Try.func15, c15⟩
  · cases h; exact ⟨_, _, Try.func16, c16⟩
  · cases h; exact ⟨_, _, Try.func17, c17⟩
  · cases h; exact ⟨_, _, Try.func18, c18⟩
  · cases h; exact ⟨_, _, Try.func19, c19⟩
  · cases h; exact ⟨_, _, Try.func20, c20⟩
  · cases h; exact ⟨_, _, Try.func21, c21⟩
  · cases h; exact ⟨_, _, Try.func22, c22⟩
  · cases h; exact ⟨_, _, Try.func23, c23⟩
  · cases h; exact ⟨_, _, Try.func24, c24⟩
  · cases h; exact ⟨_, _, Try.func25, c25⟩
  · cases h; exact ⟨_, _, Try.func26, c26⟩
  · cases h; exact ⟨_, _, Try.func27, c27⟩
  · cases h; exact ⟨_, _, Try.func28, c28⟩
  · cases h; exact ⟨_, _, Try.func29, c29⟩
  · cases h; exact ⟨_, _, Try.func30, c30⟩
  · cases h; exact ⟨_, _, Try.func31, c31⟩
  · cases h; exact ⟨_, _, Try.func32, c32⟩
  · cases h; exact ⟨_, _, Try.func33, c33⟩
  · cases h; exact ⟨_, _, Try.func34, c34⟩
  · cases h; exact ⟨_, _, Try.func35, c35⟩
  · cases h; exact ⟨_, _, Try.func36, c36⟩
  · cases h; exact ⟨_, _, Try.func37, c37⟩
  · cases h; exact ⟨_, _, Try.func38, c38⟩
  · cases h; exact ⟨_, _, Try.func39, c39⟩
  · cases h; exact ⟨_, _, Try.func40, c40⟩
  · cases h; exact ⟨_, _, Try.func41, c41⟩
  · cases h; exact ⟨_, _, Try.func42, c42⟩
  · cases h; exact ⟨_, _, Try.func43, c43⟩
  · cases h; exact ⟨_, _, Try.func44, c44⟩
  · cases h; exact ⟨_, _, Try.func45, c45⟩
  · cases h; exact ⟨_, _, Try.func46, c46⟩
  · cases h; exact ⟨_, _, Try.func47, c47⟩
  · cases h; exact ⟨_, _, Try.func48, c48⟩
  · cases h; exact ⟨_, _, Try.func49, c49⟩
  · cases h; exact ⟨_, _, Try.func50, c50⟩
  · cases h; exact ⟨_, _, Try.func51, c51⟩
  · cases h; exact ⟨_, _, Try.func52, c52⟩
  · cases h; exact ⟨_, _, Try.func53, c53⟩
  · cases h; exact ⟨_, _, Try.func54, c54⟩
  · cases h; exact ⟨_, _, Try.func55, c55⟩
  · cases h
end Go.Abs
