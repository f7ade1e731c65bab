/-
  The functions of this seat are what the compile step gives: proved by the kernel.
-/
import Derived.Test.YtlikmkicmpppdaaProg
import Derived.Test.YtlikmkicmpppdaaComp
import Derived.Test.YtlikmkicmpppdaaFnsA
import Derived.Test.YtlikmkicmpppdaaFnsB
import Derived.KernelRfl
set_option linter.all false
set_option maxRecDepth 100000
set_option maxHeartbeats 0
namespace Go.Abs
open Go.Proofs
def bor : Nat → List Nat
  | 111 => [0]
  | 145 => [0]
  | 146 => [0]
  | 147 => [0]
  | 149 => [0]
  | 160 => [1]
  | _ => []

def h3 : Hints := ⟨[(0, [0, 2, 4]), (1, [2, 7, 8]), (2, [2, 7, 8, 9, 10]), (3, [7, 8, 9, 10, 11]), (4, [7, 9, 10, 11, 12, 13]), (5, [7, 9, 10, 11, 12, 13, 14, 15]), (6, [7, 12, 14, 85]), (7, [6]), (8, [7, 12, 16, 17, 18]), (9, [7, 12, 16, 110]), (10, [6]), (11, [7, 12, 16, 19]), (12, [7, 12, 16, 19, 113]), (13, [7, 12, 16, 19]), (14, [7, 12, 16, 19, 129]), (15, [6]), (16, [6])], [(0, [7, 12, 16, 19])], [(1, [[], [0], [], [0, 1, 2], [], List.range 5, [], [], List.range 8, List.range 9]), (8, [[], [], [1], [0, 1, 2], [0, 1, 2, 3], List.range 5, List.range 5, List.range 5, List.range 6, [0, 1, 2, 3, 4, 5, 6, 8], List.range 10]), (14, [[], [], [0, 1], [0, 1, 2], [], [4], [], [], [7], [7, 8], [6, 7, 8, 9], [4, 5, 6, 7, 8, 9, 10], [4, 5, 6, 7, 8, 9, 10, 11], List.range 13])], []⟩
def h8 : Hints := ⟨[(0, [0, 1, 4]), (1, [1, 4, 5]), (2, [1, 4, 5, 6]), (3, [1, 4, 5, 6, 24]), (4, [1, 4, 5, 6]), (5, [1, 4, 5, 6, 7]), (6, [1, 4, 5, 6, 7, 30]), (7, [1, 4, 5, 6, 7]), (8, [1, 4, 5, 6]), (9, [4])], [(0, [1, 4, 5, 6])], [(7, [[], [], [0, 1], [0, 1, 2], [0, 1, 2, 3], [], [5], [5, 6], [5, 6, 7], List.range 9, List.range 10])], []⟩
def h9 : Hints := ⟨[(0, [1, 2]), (1, [2])], [], [], []⟩
def h10 : Hints := ⟨[(0, [1]), (1, [2, 3])], [], [(1, [[], [0], [], [2], [0, 1, 2, 3], [], [5], [5, 6], [5, 6, 7], [5, 6, 7, 8], List.range 10, [], [11], [], [13], [13, 14], [13, 14, 15], [13, 14, 15, 16], [11, 12, 13, 14, 15, 16, 17], List.range 11, List.range 20])], []⟩
def h11 : Hints := ⟨[(0, [1, 2]), (1, [1, 2, 6]), (2, [1, 2, 6, 11]), (3, [4, 5]), (4, [1, 2, 16]), (5, [4, 5]), (6, [1, 7]), (7, [4, 5])], [], [], []⟩
def h12 : Hints := ⟨[(0, [1, 2]), (1, [1, 2]), (2, [2])], [], [], []⟩
def h13 : Hints := ⟨[(0, [1, 2]), (1, [1, 2, 4]), (2, [1, 2, 4, 9]), (3, [2, 3]), (4, [1, 2, 4, 14]), (5, [2, 3]), (6, [1, 2, 4, 20]), (7, [2, 3]), (8, [1, 2, 26]), (9, [2, 3]), (10, [1, 2]), (11, [2, 37, 38, 39]), (12, [2, 37, 38, 39, 40]), (13, [2, 5, 6, 37, 38, 39]), (14, [2, 37, 38, 39]), (15, [2, 37, 38, 39]), (16, [2, 3])], [(1, [2, 37, 38, 39])], [], []⟩
def h14 : Hints := ⟨[(0, [1, 2]), (1, [1, 2]), (2, [2])], [], [], []⟩
def h15 : Hints := ⟨[(0, [1, 2, 3, 6]), (1, [1, 2, 3, 6, 8, 9]), (2, [1, 2, 3, 6, 8, 9, 17]), (3, [6, 7, 8]), (4, [1, 2, 6, 9, 21]), (5, [6, 7, 8]), (6, [1, 2, 6, 9, 30]), (7, [6, 7, 8]), (8, [1, 2, 6, 9, 34]), (9, [6, 7, 8]), (10, [2, 6, 7, 9]), (11, [6, 7, 9, 39, 40, 41]), (12, [6, 7, 9, 39, 40, 41, 42]), (13, [6, 7, 9, 11, 39, 40, 41]), (14, [6, 7, 9, 11, 39, 40, 41]), (15, [6, 7, 9, 39, 40, 41]), (16, [6, 7, 9, 39, 40, 41]), (17, [6, 7, 8])], [(1, [6, 7, 9, 39, 40, 41])], [], []⟩
def h16 : Hints := ⟨[(0, [0]), (1, [0, 3]), (2, [0, 3, 4]), (3, [0, 3, 4, 8]), (4, [0, 3, 4]), (5, [0, 3, 4]), (6, [2])], [(0, [0, 3, 4])], [], []⟩
def h17 : Hints := ⟨[(0, []), (1, [1]), (2, [1, 2, 3, 4]), (3, [1, 2, 3, 4, 5, 6]), (4, [2, 3, 4, 5, 6, 7, 8]), (5, [0])], [], [], []⟩
def h18 : Hints := ⟨[(0, []), (1, [1]), (2, [1, 2, 3]), (3, [2, 3, 4, 5]), (4, [2, 3, 4, 5, 6, 7]), (5, [0])], [], [], []⟩
def h29 : Hints := ⟨[(0, [0, 1]), (1, [0, 1, 10]), (2, [4]), (3, [0, 1, 5]), (4, [0, 1, 5, 14]), (5, [0, 1, 5]), (6, [0, 1, 5, 25]), (7, [4]), (8, [4])], [(0, [0, 1, 5])], [(6, [[], [], [0, 1], [0, 1, 2], [], [], [4, 5], [4, 5, 6], List.range 8])], []⟩
def h36 : Hints := ⟨[(0, [1, 2]), (1, [1, 2, 3, 4]), (2, [1, 2, 3, 4, 14]), (3, [2, 3]), (4, [1, 2, 4, 5]), (5, [1, 2, 4, 5, 6]), (6, [1, 2, 4, 5, 6, 22, 23]), (7, [1, 2, 4, 5, 6, 22, 23, 24]), (8, [1, 2, 4, 5, 6, 7, 22, 23]), (9, [1, 2, 4, 5, 6, 7, 22, 23]), (10, [1, 2, 4, 5, 6, 7, 22, 23, 32]), (11, [1, 2, 4, 5, 6, 22, 23]), (12, [1, 2, 4, 5, 6, 22, 23]), (13, [1, 2, 4, 5, 6, 22, 23, 46]), (14, [1, 2, 4, 5, 6, 22, 23]), (15, [2, 3])], [(0, [1, 2, 4, 5, 6, 22, 23])], [], []⟩
def h38 : Hints := ⟨[(0, [1]), (1, [1, 3]), (2, [1, 3, 4]), (3, [2]), (4, [1, 3, 9]), (5, [1, 3, 9]), (6, [1, 3, 9]), (7, [9]), (8, [2]), (9, [2])], [], [], []⟩
def h39 : Hints := ⟨[(0, [0]), (1, [2])], [], [], []⟩
def h40 : Hints := ⟨[(0, [1, 2]), (1, [1, 2, 3]), (2, [2, 3, 16, 17, 18]), (3, [2, 3, 16, 17, 18, 19]), (4, [2, 3, 5, 16, 17, 18]), (5, [2, 3, 5, 16, 17, 18]), (6, [2, 3, 16, 17, 18]), (7, [2, 3, 16, 17, 18]), (8, [2])], [(0, [2, 3, 16, 17, 18])], [], []⟩
def h41 : Hints := ⟨[(0, [0]), (1, [2])], [], [], []⟩
def h42 : Hints := ⟨[(0, [0, 1]), (1, [4])], [], [], []⟩
def h43 : Hints := ⟨[(0, [1, 2]), (1, [1, 2, 4]), (2, [1, 2, 4, 9]), (3, [2, 3]), (4, [1, 2, 4, 15]), (5, [2, 3]), (6, [2, 4, 21]), (7, [2, 3]), (8, [2, 3])], [], [], []⟩
def h44 : Hints := ⟨[(0, [2, 3, 4]), (1, [6])], [], [], []⟩
def h45 : Hints := ⟨[(0, [1, 2]), (1, [1, 2, 5]), (2, [1, 2, 5, 13]), (3, [4]), (4, [4])], [], [], []⟩
def h46 : Hints := ⟨[(0, [1, 2, 3]), (1, [6])], [], [], []⟩
def h47 : Hints := ⟨[(0, [1, 2]), (1, [1, 2]), (2, [2])], [], [], []⟩
def h48 : Hints := ⟨[(0, [1, 2, 3, 6]), (1, [6, 7, 8]), (2, [6, 7, 19]), (3, [6, 7, 19, 21]), (4, [6, 7, 10, 19]), (5, [6, 7, 19]), (6, [6, 7])], [(0, [6, 7, 19])], [], []⟩
def h49 : Hints := ⟨[(0, [1, 2]), (1, [1, 2, 4]), (2, [1, 2, 4, 8]), (3, [2, 3]), (4, [2, 3])], [], [], []⟩
def h50 : Hints := ⟨[(0, [2, 3]), (1, [2, 3, 6]), (2, [2, 3, 6, 11]), (3, [4, 5]), (4, [2, 3, 16]), (5, [4, 5]), (6, [7]), (7, [7, 20]), (8, [4, 5]), (9, [4, 5])], [], [], []⟩
def h51 : Hints := ⟨[(0, [0, 1, 4]), (1, [4])], [], [], []⟩
def h64 : Hints := ⟨[(0, [1]), (1, [1, 3]), (2, [2]), (3, [1, 9]), (4, [2]), (5, [1, 14]), (6, [2]), (7, [19]), (8, [2]), (9, [2])], [], [(7, [[], [0], [0, 1], [0, 1, 2], [], [4], List.range 6, List.range 7, List.range 8])], []⟩
def h70 : Hints := ⟨[(0, [0, 1]), (1, [4])], [], [], []⟩
def h79 : Hints := ⟨[(0, [1, 2]), (1, [1, 2, 4, 5]), (2, [1, 2, 4, 5, 15]), (3, [2, 3]), (4, [1, 2, 4, 6]), (5, [1, 2, 4, 6, 20, 21, 22]), (6, [1, 2, 4, 6, 20, 21, 22, 23]), (7, [1, 2, 4, 6, 8, 20, 21, 22]), (8, [1, 2, 4, 6, 20, 21, 22]), (9, [1, 2, 4, 6, 20, 21, 22]), (10, [1, 2, 4, 6, 30]), (11, [2, 3]), (12, [2, 4, 34]), (13, [2, 3]), (14, [2, 3])], [(0, [1, 2, 4, 6, 20, 21, 22])], [], []⟩
def h80 : Hints := ⟨[(0, [1, 2, 4]), (1, [1, 2, 4, 9, 10]), (2, [1, 2, 4, 9, 10, 11]), (3, [1, 2, 4, 5, 9, 10]), (4, [1, 2, 4, 5, 9, 10, 16]), (5, [1, 2, 4, 9, 10]), (6, [1, 2, 4, 9, 10]), (7, [4])], [(0, [1, 2, 4, 9, 10])], [], []⟩
def h83 : Hints := ⟨[(0, [1]), (1, [2])], [], [], []⟩
def h84 : Hints := ⟨[(0, [0]), (1, [2])], [], [], []⟩
def h85 : Hints := ⟨[(0, [2, 3, 4]), (1, [6])], [], [], []⟩
def h86 : Hints := ⟨[(0, [0, 1]), (1, [4])], [], [], []⟩
def h87 : Hints := ⟨[(0, [1, 2]), (1, [1, 2, 3, 4]), (2, [1, 2, 3, 4, 12]), (3, [1, 2, 3, 4]), (4, [2])], [(0, [1, 2, 3, 4])], [(1, [[], [0], [0, 1], [], [3], [3, 4], [0, 1, 2], List.range 7]), (3, [[], [], [], [1, 2], [0, 1], List.range 5]), (4, [[], [0], [0, 1], [], [0, 1, 2, 3], [], [5], [5, 6], [], [5, 6, 7, 8], List.range 10, List.range 11, List.range 12])], []⟩
def h88 : Hints := ⟨[(0, [1, 2]), (1, [1, 5]), (2, [4])], [], [], []⟩
def h89 : Hints := ⟨[(0, [0, 1, 2]), (1, [4])], [], [], []⟩
def h90 : Hints := ⟨[(0, [0, 1]), (1, [4])], [], [], []⟩
def h91 : Hints := ⟨[(0, [1, 2, 3]), (1, [2, 8, 9]), (2, [2, 8, 9, 16]), (3, [6, 7]), (4, [2, 8, 20]), (5, [6, 7]), (6, [6, 7])], [], [], []⟩
def h92 : Hints := ⟨[(0, [1]), (1, [24]), (2, [2]), (3, [2])], [], [], []⟩
def h93 : Hints := ⟨[(0, [0, 1]), (1, [1, 5, 6]), (2, [1, 5, 6, 11]), (3, [1, 5, 6, 7]), (4, [1, 5, 6, 7, 21]), (5, [1, 5, 6]), (6, [1, 5, 6]), (7, [4])], [(0, [1, 5, 6])], [], []⟩
def h94 : Hints := ⟨[(0, [0, 1, 2]), (1, [4])], [], [(1, [[], [0], [], [0, 1, 2], [], List.range 5, List.range 6])], []⟩
def h95 : Hints := ⟨[(0, [1, 2]), (1, [2])], [], [], []⟩
def h96 : Hints := ⟨[(0, [1, 2]), (1, [2, 5]), (2, [4])], [], [], []⟩
def h110 : Hints := ⟨[(0, [2, 3, 4]), (1, [6])], [], [], []⟩
def h113 : Hints := ⟨[(0, [0, 1]), (1, [0, 1, 7, 8]), (2, [0, 1, 7, 8, 9]), (3, [0, 1, 5, 7, 8]), (4, [0, 1, 5, 7, 8, 16]), (5, [4]), (6, [0, 1, 7, 8]), (7, [4])], [(0, [0, 1, 7, 8])], [], []⟩
def h121 : Hints := ⟨[(0, [1, 3, 5, 6]), (1, [1, 3, 5, 6, 7]), (2, [1, 3, 5, 6, 7]), (3, [3, 5, 6, 7, 21]), (4, [3, 5, 6, 7, 8]), (5, [3, 5, 6, 7, 8, 23, 24, 25]), (6, [3, 5, 6, 7, 8, 23, 24, 25, 26]), (7, [3, 5, 6, 7, 8, 9, 10, 23, 24, 25]), (8, [3, 5, 6, 7, 8, 10, 23, 24, 25, 54]), (9, [3, 5, 6, 7, 8, 23, 24, 25]), (10, [3, 5, 6, 7, 8, 23, 24, 25]), (11, [3, 5, 6, 7]), (12, [6])], [(0, [3, 5, 6, 7]), (2, [3, 5, 6, 7, 8, 23, 24, 25])], [(8, [[], [0], [0, 1], [0, 1, 2], [0, 1, 2], List.range 5, List.range 6, List.range 7, List.range 8, List.range 9, List.range 10, List.range 11, List.range 9, List.range 13, List.range 14, List.range 15, List.range 9, [0, 1, 2, 3, 4, 5, 6, 7, 8, 16], [0, 1, 2, 3, 4, 5, 6, 7, 8, 16, 17], List.range 9, [0, 1, 2, 3, 4, 5, 6, 7, 8, 16, 17, 18, 19], [0, 1, 2, 3, 4, 5, 6, 7, 8, 16, 17, 18, 19, 20], [0, 1, 2, 3, 4, 5, 6, 7, 8, 16, 17, 18, 19, 20, 21], List.range 23, List.range 24]), (9, [[], [], [], [], [2, 3], [2, 3, 4], [], [6], [2, 3, 4, 5, 6, 7], List.range 9, List.range 10]), (11, [[], [], [], [1, 2], [1, 2, 3], List.range 5, List.range 6])], []⟩
def h127 : Hints := ⟨[(0, [0, 1, 2]), (1, [4])], [], [], []⟩
def h128 : Hints := ⟨[(0, [0, 1]), (1, [0, 1, 7, 8]), (2, [0, 1, 7, 8, 9]), (3, [0, 1, 5, 7, 8]), (4, [0, 1, 5, 7, 8, 16]), (5, [4]), (6, [0, 1, 7, 8]), (7, [4])], [(0, [0, 1, 7, 8])], [], []⟩
def h129 : Hints := ⟨[(0, [1, 2]), (1, [3])], [], [], []⟩
def h130 : Hints := ⟨[(0, [0, 1]), (1, [4])], [], [], []⟩
def h131 : Hints := ⟨[(0, [0]), (1, [0]), (2, [0]), (3, [0]), (4, [2])], [], [], []⟩
def h132 : Hints := ⟨[(0, [1, 2, 4]), (1, [1, 4, 5, 6]), (2, [1, 4, 5, 6]), (3, [1, 4, 5, 7]), (4, [1, 4, 5, 7, 17]), (5, [4, 5]), (6, [1, 4, 7, 22]), (7, [4, 5]), (8, [4, 27]), (9, [4, 5]), (10, [4, 5])], [], [], []⟩
def h133 : Hints := ⟨[(0, [1, 2]), (1, [1, 2, 5]), (2, [1, 2, 5, 16, 17]), (3, [1, 2, 5, 16, 17, 18]), (4, [1, 2, 5, 6, 16, 17]), (5, [1, 2, 5, 16, 17]), (6, [1, 2, 5, 16, 17]), (7, [1, 2, 5, 26, 27]), (8, [1, 2, 5, 26, 27, 28]), (9, [1, 2, 5, 7, 26, 27]), (10, [1, 2, 5, 7, 8, 26, 27]), (11, [1, 2, 7, 8, 26, 27, 32]), (12, [1, 2, 7, 8, 26, 27, 32, 34]), (13, [1, 2, 7, 8, 9, 10, 26, 27, 32]), (14, [1, 2, 7, 8, 9, 10, 26, 27, 32, 42]), (15, [1, 2, 7, 8, 26, 27, 32]), (16, [1, 2, 5, 26, 27]), (17, [1, 2, 5, 26, 27]), (18, [4])], [(0, [1, 2, 5, 16, 17]), (2, [1, 2, 5, 26, 27]), (4, [1, 2, 7, 8, 26, 27, 32])], [], []⟩
def h134 : Hints := ⟨[(0, [1, 2, 3]), (1, [6])], [], [], []⟩
def h144 : Hints := ⟨[(0, [0, 1, 2]), (1, [4])], [], [], []⟩
def h153 : Hints := ⟨[(0, [2, 3]), (1, [4])], [], [], []⟩
def h156 : Hints := ⟨[(0, [0, 1]), (1, [0, 1, 7, 8]), (2, [0, 1, 7, 8, 9]), (3, [0, 1, 5, 7, 8]), (4, [0, 1, 5, 7, 8, 16]), (5, [4]), (6, [0, 1, 7, 8]), (7, [4])], [(0, [0, 1, 7, 8])], [], []⟩
def h157 : Hints := ⟨[(0, [0]), (1, [0]), (2, [0]), (3, [2])], [], [], []⟩
def h158 : Hints := ⟨[(0, [0, 1]), (1, [3])], [], [], []⟩
def h159 : Hints := ⟨[(0, [1, 2, 3]), (1, [6])], [], [(1, [[], [0], [], [0, 1, 2], [0, 1, 2, 3], List.range 5, List.range 6, List.range 7, List.range 8, List.range 7, List.range 10, List.range 11, List.range 7, [0, 1, 2, 3, 4, 5, 6, 12], List.range 7, [0, 1, 2, 3, 4, 5, 6, 12, 13, 14], List.range 16, List.range 17, List.range 18])], []⟩
def h160 : Hints := ⟨[(0, [1, 3, 4, 5, 7]), (1, [1, 3, 4, 5, 7, 12]), (2, [1, 3, 4, 5, 7, 12, 13]), (3, [1, 3, 4, 5, 7, 10, 12]), (4, [1, 3, 4, 5, 7, 11, 12]), (5, [1, 3, 4, 5, 7, 11, 12, 30]), (6, [1, 3, 4, 5, 7, 12]), (7, [1, 3, 4, 5, 7, 12])], [(0, [1, 3, 4, 5, 7, 12])], [(4, [[], [0], [], [2], [], List.range 5, [], [6], [], [0, 1, 2, 3, 4, 5, 8], List.range 10, List.range 11, [], List.range 13]), (6, [[], [], [0, 1], [], [0, 1, 2, 3], [0, 1, 3], [0, 1, 3, 5], List.range 7])], []⟩
def h165 : Hints := ⟨[(0, [0, 1, 2, 8, 9]), (1, [0, 1, 2, 8, 9, 10]), (2, [0, 1, 2, 4, 8, 9]), (3, [0, 1, 2, 8, 9, 18]), (4, [0, 1, 2, 8, 9])], [(0, [0, 1, 2, 8, 9])], [], []⟩
def h167 : Hints := ⟨[(0, [0]), (1, [4]), (2, [2]), (3, [2])], [], [], []⟩
def F : Nat → Option AFn
  | 3 => some a3
  | 8 => some a8
  | 9 => some a9
  | 10 => some a10
  | 11 => some a11
  | 12 => some a12
  | 13 => some a13
  | 14 => some a14
  | 15 => some a15
  | 16 => some a16
  | 17 => some a17
  | 18 => some a18
  | 29 => some a29
  | 36 => some a36
  | 38 => some a38
  | 39 => some a39
  | 40 => some a40
  | 41 => some a41
  | 42 => some a42
  | 43 => some a43
  | 44 => some a44
  | 45 => some a45
  | 46 => some a46
  | 47 => some a47
  | 48 => some a48
  | 49 => some a49
  | 50 => some a50
  | 51 => some a51
  | 64 => some a64
  | 70 => some a70
  | 79 => some a79
  | 80 => some a80
  | 83 => some a83
  | 84 => some a84
  | 85 => some a85
  | 86 => some a86
  | 87 => some a87
  | 88 => some a88
  | 89 => some a89
  | 90 => some a90
  | 91 => some a91
  | 92 => some a92
  | 93 => some a93
  | 94 => some a94
  | 95 => some a95
  | 96 => some a96
  | 110 => some a110
  | 113 => some a113
  | 121 => some a121
  | 127 => some a127
  | 128 => some a128
  | 129 => some a129
  | 130 => some a130
  | 131 => some a131
  | 132 => some a132
  | 133 => some a133
  | 134 => some a134
  | 144 => some a144
  | 153 => some a153
  | 156 => some a156
  | 157 => some a157
  | 158 => some a158
  | 159 => some a159
  | 160 => some a160
  | 165 => some a165
  | 167 => some a167
  | _ => none
theorem c3 : compFn Try.prog bor h3 Try.f3 = some a3 := by kernel_rfl
theorem c8 : compFn Try.prog bor h8 Try.f8 = some a8 := by kernel_rfl
theorem c9 : compFn Try.prog bor h9 Try.f9 = some a9 := by kernel_rfl
theorem c10 : compFn Try.prog bor h10 Try.f10 = some a10 := by kernel_rfl
theorem c11 : compFn Try.prog bor h11 Try.f11 = some a11 := by kernel_rfl
theorem c12 : compFn Try.prog bor h12 Try.f12 = some a12 := by kernel_rfl
theorem c13 : compFn Try.prog bor h13 Try.f13 = some a13 := by kernel_rfl
theorem c14 : compFn Try.prog bor h14 Try.f14 = some a14 := by kernel_rfl
theorem c15 : compFn Try.prog bor h15 Try.f15 = some a15 := by kernel_rfl
theorem c16 : compFn Try.prog bor h16 Try.f16 = some a16 := by kernel_rfl
theorem c17 : compFn Try.prog bor h17 Try.f17 = some a17 := by kernel_rfl
theorem c18 : compFn Try.prog bor h18 Try.f18 = some a18 := by kernel_rfl
theorem c29 : compFn Try.prog bor h29 Try.f29 = some a29 := by kernel_rfl
theorem c36 : compFn Try.prog bor h36 Try.f36 = some a36 := by kernel_rfl
theorem c38 : compFn Try.prog bor h38 Try.f38 = some a38 := by kernel_rfl
theorem c39 : compFn Try.prog bor h39 Try.f39 = some a39 := by kernel_rfl
theorem c40 : compFn Try.prog bor h40 Try.f40 = some a40 := by kernel_rfl
theorem c41 : compFn Try.prog bor h41 Try.f41 = some a41 := by kernel_rfl
theorem c42 : compFn Try.prog bor h42 Try.f42 = some a42 := by kernel_rfl
theorem c43 : compFn Try.prog bor h43 Try.f43 = some a43 := by kernel_rfl
theorem c44 : compFn Try.prog bor h44 Try.f44 = some a44 := by kernel_rfl
theorem c45 : compFn Try.prog bor h45 Try.f45 = some a45 := by kernel_rfl
theorem c46 : compFn Try.prog bor h46 Try.f46 = some a46 := by kernel_rfl
theorem c47 : compFn Try.prog bor h47 Try.f47 = some a47 := by kernel_rfl
theorem c48 : compFn Try.prog bor h48 Try.f48 = some a48 := by kernel_rfl
theorem c49 : compFn Try.prog bor h49 Try.f49 = some a49 := by kernel_rfl
theorem c50 : compFn Try.prog bor h50 Try.f50 = some a50 := by kernel_rfl
theorem c51 : compFn Try.prog bor h51 Try.f51 = some a51 := by kernel_rfl
theorem c64 : compFn Try.prog bor h64 Try.f64 = some a64 := by kernel_rfl
theorem c70 : compFn Try.prog bor h70 Try.f70 = some a70 := by kernel_rfl
theorem c79 : compFn Try.prog bor h79 Try.f79 = some a79 := by kernel_rfl
theorem c80 : compFn Try.prog bor h80 Try.f80 = some a80 := by kernel_rfl
theorem c83 : compFn Try.prog bor h83 Try.f83 = some a83 := by kernel_rfl
theorem c84 : compFn Try.prog bor h84 Try.f84 = some a84 := by kernel_rfl
theorem c85 : compFn Try.prog bor h85 Try.f85 = some a85 := by kernel_rfl
theorem c86 : compFn Try.prog bor h86 Try.f86 = some a86 := by kernel_rfl
theorem c87 : compFn Try.prog bor h87 Try.f87 = some a87 := by kernel_rfl
theorem c88 : compFn Try.prog bor h88 Try.f88 = some a88 := by kernel_rfl
theorem c89 : compFn Try.prog bor h89 Try.f89 = some a89 := by kernel_rfl
theorem c90 : compFn Try.prog bor h90 Try.f90 = some a90 := by kernel_rfl
theorem c91 : compFn Try.prog bor h91 Try.f91 = some a91 := by kernel_rfl
theorem c92 : compFn Try.prog bor h92 Try.f92 = some a92 := by kernel_rfl
theorem c93 : compFn Try.prog bor h93 Try.f93 = some a93 := by kernel_rfl
theorem c94 : compFn Try.prog bor h94 Try.f94 = some a94 := by kernel_rfl
theorem c95 : compFn Try.prog bor h95 Try.f95 = some a95 := by kernel_rfl
theorem c96 : compFn Try.prog bor h96 Try.f96 = some a96 := by kernel_rfl
theorem c110 : compFn Try.prog bor h110 Try.f110 = some a110 := by kernel_rfl
theorem c113 : compFn Try.prog bor h113 Try.f113 = some a113 := by kernel_rfl
theorem c121 : compFn Try.prog bor h121 Try.f121 = some a121 := by kernel_rfl
theorem c127 : compFn Try.prog bor h127 Try.f127 = some a127 := by kernel_rfl
theorem c128 : compFn Try.prog bor h128 Try.f128 = some a128 := by kernel_rfl
theorem c129 : compFn Try.prog bor h129 Try.f129 = some a129 := by kernel_rfl
theorem c130 : compFn Try.prog bor h130 Try.f130 = some a130 := by kernel_rfl
theorem c131 : compFn Try.prog bor h131 Try.f131 = some a131 := by kernel_rfl
theorem c132 : compFn Try.prog bor h132 Try.f132 = some a132 := by kernel_rfl
theorem c133 : compFn Try.prog bor h133 Try.f133 = some a133 := by kernel_rfl
theorem c134 : compFn Try.prog bor h134 Try.f134 = some a134 := by kernel_rfl
theorem c144 : compFn Try.prog bor h144 Try.f144 = some a144 := by kernel_rfl
theorem c153 : compFn Try.prog bor h153 Try.f153 = some a153 := by kernel_rfl
theorem c156 : compFn Try.prog bor h156 Try.f156 = some a156 := by kernel_rfl
theorem c157 : compFn Try.prog bor h157 Try.f157 = some a157 := by kernel_rfl
theorem c158 : compFn Try.prog bor h158 Try.f158 = some a158 := by kernel_rfl
theorem c159 : compFn Try.prog bor h159 Try.f159 = some a159 := by kernel_rfl
theorem c160 : compFn Try.prog bor h160 Try.f160 = some a160 := by kernel_rfl
theorem c165 : compFn Try.prog bor h165 Try.f165 = some a165 := by kernel_rfl
theorem c167 : compFn Try.prog bor h167 Try.f167 = some a167 := by kernel_rfl
theorem F_ok (f : Nat) (afn : AFn) (h : F f = some afn) : ∃ fn hh, Try.prog.funcs[f]? = some fn ∧ compFn Try.prog bor hh fn = some afn := by
  unfold F at h
  split at h
  · cases h; exact ⟨_, _, Try.func3, c3⟩
  · cases h; exact ⟨_, _, Try.func8, c8⟩
  · cases h; exact ⟨_, _, Try.func9, c9⟩
  · cases h; exact ⟨_, _, Try.func10, c10⟩
  · cases h; exact ⟨_, _, Try.func11, c11⟩
  · cases h; exact ⟨_, _, Try.func12, c12⟩
  · cases h; exact ⟨_, _, Try.func13, c13⟩
  · cases h; exact ⟨_, _, Try.func14, c14⟩
  · cases h; exact ⟨_, _, Try.func15, c15⟩
  · cases h; exact ⟨_, _, Try.func16, c16⟩
  · cases h; exact ⟨_, _, Try.func17, c17⟩
  · cases h; exact ⟨_, _, Try.func18, c18⟩
  · cases h; exact ⟨_, _, Try.func29, c29⟩
  · cases h; exact ⟨_, _, Try.func36, c36⟩
  · cases h; exact ⟨_, _, Try.func38, c38⟩
  · cases h; exact ⟨_, _, Try.func39, c39⟩
  · cases h; exact ⟨_, _, Try.func40, c40⟩
  · cases h; exact ⟨_, _, Try.func41, c41⟩
  · cases h; exact ⟨_, _, Try.func42, c42⟩
  · cases h; exact ⟨_, _, Try.func43, c43⟩
  · cases h; exact ⟨_, _, Try.func44, c44⟩
  · cases h; exact ⟨_, _, Try.func45, c45⟩
  · cases h; exact ⟨_, _, Try.func46, c46⟩
  · cases h; exact ⟨_, _, Try.func47, c47⟩
  · cases h; exact ⟨_, _, Try.func48, c48⟩
  · cases h; exact ⟨_, _, Try.func49, c49⟩
  · cases h; exact ⟨_, _, Try.func50, c50⟩
  · cases h; exact ⟨_, _, Try.func51, c51⟩
  · cases h; exact ⟨_, _, Try.func64, c64⟩
  · cases h; exact ⟨_, _, Try.func70, c70⟩
  · cases h; exact ⟨_, _, Try.func79, c79⟩
  · cases h; exact ⟨_, _, Try.func80, c80⟩
  · cases h; exact ⟨_, _, Try.func83, c83⟩
  · cases h; exact ⟨_, _, Try.func84, c84⟩
  · cases h; exact ⟨_, _, Try.func85, c85⟩
  · cases h; exact ⟨_, _, Try.func86, c86⟩
  · cases h; exact ⟨_, _, Try.func87, c87⟩
  · cases h; exact ⟨_, _, Try.func88, c88⟩
  · cases h; exact ⟨_, _, Try.func89, c89⟩
  · cases h; exact ⟨_, _, Try.func90, c90⟩
  · cases h; exact ⟨_, _, Try.func91, c91⟩
  · cases h; exact ⟨_, _, Try.func92, c92⟩
  · cases h; exact ⟨_, _, Try.func93, c93⟩
  · cases h; exact ⟨_, _, Try.func94, c94⟩
  · cases h; exact ⟨_, _, Try.func95, c95⟩
  · cases h; exact ⟨_, _, Try.func96, c96⟩
  · cases h; exact ⟨_, _, Try.func110, c110⟩
  · cases h; exact ⟨_, _, Try.func113, c113⟩
  · cases h; exact ⟨_, _, Try.func121, c121⟩
  · cases h; exact ⟨_, _, Try.func127, c127⟩
  · cases h; exact ⟨_, _, Try.func128, c128⟩
  · cases h; exact ⟨_, _, Try.func129, c129⟩
  · cases h; exact ⟨_, _, Try.func130, c130⟩
  · cases h; exact ⟨_, _, Try.func131, c131⟩
  · cases h; exact ⟨_, _, Try.func132, c132⟩
  · cases h; exact ⟨_, _, Try.func133, c133⟩
  · cases h; exact ⟨_, _, Try.func134, c134⟩
  · cases h; exact ⟨_, _, Try.func144, c144⟩
  · cases h; exact ⟨_, _, Try.func153, c153⟩
  · cases h; exact ⟨_, _, Try.func156, c156⟩
  · cases h; exact ⟨_, _, Try.func157, c157⟩
  · cases h; exact ⟨_, _, Try.func158, c158⟩
  · cases h; exact ⟨_, _, Try.func159, c159⟩
  · cases h; exact ⟨_, _, Try.func160, c160⟩
  · cases h; exact ⟨_, _, Try.func165, c165⟩
  · cases h; exact ⟨_, _, Try.func167, c167⟩
  · cases h
end Go.Abs
