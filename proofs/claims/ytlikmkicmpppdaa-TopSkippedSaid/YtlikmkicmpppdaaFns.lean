/-
  The functions of this seat are what the compile step gives: proved by the kernel.
-/
import Derived.Test.YtlikmkicmpppdaaProg
import Derived.Test.YtlikmkicmpppdaaComp
import Derived.Test.YtlikmkicmpppdaaFnsA
import Derived.Test.YtlikmkicmpppdaaFnsB
import Derived.KernelRfl
set_option linter.all false
set_option maxRecDepth 100000
set_option maxHeartbeats 0
namespace Go.Abs
open Go.Proofs
def bor : Nat → List Nat
  | 111 => [0]
  | 145 => [0]
  | 146 => [0]
  | 147 => [0]
  | 149 => [0]
  | 160 => [1]
  | _ => []

def h4 : Hints := ⟨[(0, [1, 2]), (1, [1, 5]), (2, [1, 5, 6]), (3, [1, 5, 6, 7, 8]), (4, [1, 5, 6, 7, 42]), (5, [4]), (6, [1, 5, 6, 7, 9, 10]), (7, [1, 5, 6, 7, 9, 10, 11]), (8, [1, 5, 6, 7, 9, 10, 11, 51]), (9, [1, 5, 6, 7, 9, 10, 11]), (10, [1, 5, 6, 7, 9, 10, 11, 12]), (11, [1, 5, 6, 7, 9, 10, 11]), (12, [5, 6, 7, 9, 10, 13, 14, 15]), (13, [5, 6, 7, 14, 92]), (14, [4]), (15, [5, 6, 7, 14, 16, 17, 18]), (16, [5, 6, 14, 16, 17, 18, 19, 21]), (17, [5, 6, 14, 19, 142]), (18, [4]), (19, [5, 6, 14, 19, 22]), (20, [5, 6, 14, 19, 22, 145]), (21, [5, 6, 14, 19, 22]), (22, [5, 6, 14, 19, 22, 161]), (23, [4]), (24, [4])], [(0, [1, 5, 6, 7, 9, 10, 11]), (2, [5, 6, 14, 19, 22])], [(16, [[], [], [], [2], [0, 1, 2, 3], List.range 5, List.range 6, List.range 6, List.range 6, List.range 7, [0, 1, 2, 3, 4, 5, 6, 7, 9], List.range 11]), (22, [[], [], [0, 1], [0, 1, 2], [], [4], [], [], [6, 7], [], [6, 7, 8, 9], [4, 5, 6, 7, 8, 9, 10], [4, 5, 6, 7, 8, 9, 10, 11], List.range 13])], []⟩
def h13 : Hints := ⟨[(0, [1, 2]), (1, [1, 2, 4]), (2, [1, 2, 4, 9]), (3, [2, 3]), (4, [1, 2, 4, 14]), (5, [2, 3]), (6, [1, 2, 4, 20]), (7, [2, 3]), (8, [1, 2, 26]), (9, [2, 3]), (10, [1, 2]), (11, [2, 37, 38, 39]), (12, [2, 37, 38, 39, 40]), (13, [2, 5, 6, 37, 38, 39]), (14, [2, 37, 38, 39]), (15, [2, 37, 38, 39]), (16, [2, 3])], [(1, [2, 37, 38, 39])], [], []⟩
def h15 : Hints := ⟨[(0, [1, 2, 3, 6]), (1, [1, 2, 3, 6, 8, 9]), (2, [1, 2, 3, 6, 8, 9, 17]), (3, [6, 7, 8]), (4, [1, 2, 6, 9, 21]), (5, [6, 7, 8]), (6, [1, 2, 6, 9, 30]), (7, [6, 7, 8]), (8, [1, 2, 6, 9, 34]), (9, [6, 7, 8]), (10, [2, 6, 7, 9]), (11, [6, 7, 9, 39, 40, 41]), (12, [6, 7, 9, 39, 40, 41, 42]), (13, [6, 7, 9, 11, 39, 40, 41]), (14, [6, 7, 9, 11, 39, 40, 41]), (15, [6, 7, 9, 39, 40, 41]), (16, [6, 7, 9, 39, 40, 41]), (17, [6, 7, 8])], [(1, [6, 7, 9, 39, 40, 41])], [], []⟩
def h19 : Hints := ⟨[(0, [1, 2]), (1, [1, 2, 3]), (2, [1, 2, 3, 4]), (3, [1, 2, 3, 4, 24]), (4, [1, 2, 3, 4]), (5, [1, 2, 3, 4, 5]), (6, [1, 2, 3, 4, 5, 31]), (7, [1, 2, 3, 4, 5]), (8, [1, 2, 3, 4]), (9, [2])], [(0, [1, 2, 3, 4])], [], []⟩
def h20 : Hints := ⟨[(0, [1, 2]), (1, [2])], [], [(1, [[], [0], [], [2], [2, 3], List.range 5, List.range 6])], []⟩
def h21 : Hints := ⟨[(0, [1, 2]), (1, [2])], [], [(1, [[], [0], [], [], [3], [2, 3, 4], List.range 6, List.range 7])], []⟩
def h22 : Hints := ⟨[(0, [0]), (1, [2])], [], [], []⟩
def h23 : Hints := ⟨[(0, [0, 1, 2]), (1, [2, 8, 9]), (2, [2, 8, 9, 21]), (3, [6, 7, 8]), (4, [2, 10]), (5, [2, 10, 11]), (6, [6, 10, 11]), (7, [6, 10, 11, 12]), (8, [6, 10, 11, 12, 33]), (9, [6, 10, 11, 12]), (10, [6, 10, 11, 12]), (11, [6, 7, 8])], [(0, [6, 10, 11, 12])], [(10, [[], [], [], [1, 2], [1, 2, 3], [1, 2, 3, 4], [], [], [6, 7], [6, 7, 8], [6, 7, 8, 9], List.range 11, List.range 12]), (11, [[], [], [], [1, 2], [1, 2, 3], [1, 2, 3, 4], [0], List.range 7, List.range 8])], []⟩
def h24 : Hints := ⟨[(0, [0, 1]), (1, [0, 1, 5]), (2, [0, 1, 5, 6]), (3, [0, 1, 5, 6, 12]), (4, [0, 1, 5, 6]), (5, [0, 1, 5, 6]), (6, [4])], [(0, [0, 1, 5, 6])], [], []⟩
def h25 : Hints := ⟨[(0, []), (1, [1]), (2, [1, 2, 3]), (3, [2, 3, 4, 5, 6]), (4, [0])], [], [], []⟩
def h26 : Hints := ⟨[(0, []), (1, [1, 2]), (2, [1, 2, 3, 4]), (3, [3, 4, 5, 6, 7]), (4, [0])], [], [], []⟩
def h36 : Hints := ⟨[(0, [1, 2]), (1, [1, 2, 3, 4]), (2, [1, 2, 3, 4, 14]), (3, [2, 3]), (4, [1, 2, 4, 5]), (5, [1, 2, 4, 5, 6]), (6, [1, 2, 4, 5, 6, 22, 23]), (7, [1, 2, 4, 5, 6, 22, 23, 24]), (8, [1, 2, 4, 5, 6, 7, 22, 23]), (9, [1, 2, 4, 5, 6, 7, 22, 23]), (10, [1, 2, 4, 5, 6, 7, 22, 23, 32]), (11, [1, 2, 4, 5, 6, 22, 23]), (12, [1, 2, 4, 5, 6, 22, 23]), (13, [1, 2, 4, 5, 6, 22, 23, 46]), (14, [1, 2, 4, 5, 6, 22, 23]), (15, [2, 3])], [(0, [1, 2, 4, 5, 6, 22, 23])], [], []⟩
def h41 : Hints := ⟨[(0, [0]), (1, [2])], [], [], []⟩
def h42 : Hints := ⟨[(0, [0, 1]), (1, [4])], [], [], []⟩
def h43 : Hints := ⟨[(0, [1, 2]), (1, [1, 2, 4]), (2, [1, 2, 4, 9]), (3, [2, 3]), (4, [1, 2, 4, 15]), (5, [2, 3]), (6, [2, 4, 21]), (7, [2, 3]), (8, [2, 3])], [], [], []⟩
def h44 : Hints := ⟨[(0, [2, 3, 4]), (1, [6])], [], [], []⟩
def h45 : Hints := ⟨[(0, [1, 2]), (1, [1, 2, 5]), (2, [1, 2, 5, 13]), (3, [4]), (4, [4])], [], [], []⟩
def h46 : Hints := ⟨[(0, [1, 2, 3]), (1, [6])], [], [], []⟩
def h52 : Hints := ⟨[(0, [1, 2, 3, 6]), (1, [1, 2, 3, 6, 8]), (2, [1, 2, 3, 6, 8, 11]), (3, [6, 7]), (4, [1, 2, 3, 6, 8, 17]), (5, [1, 2, 3, 6, 8, 17]), (6, [6, 7]), (7, [1, 2, 3, 6, 8, 25]), (8, [1, 2, 3, 6, 25]), (9, [6, 7]), (10, [1, 2, 3, 6, 34, 35]), (11, [1, 2, 3, 6, 34, 35, 36]), (12, [1, 2, 3, 6, 9, 34, 35]), (13, [1, 2, 3, 6, 34, 35, 51]), (14, [6, 7]), (15, [1, 2, 3, 6, 34, 35]), (16, [6, 7])], [(1, [1, 2, 3, 6, 34, 35])], [(13, [[], [0], [0, 1], [0, 1, 2], [0, 1, 2], List.range 5, List.range 6, [0, 1, 2], [0, 1, 2], [0, 1, 2, 8], [0, 1, 2, 7, 8, 9], [0, 1, 2, 7, 8, 9, 10], List.range 12, List.range 13])], []⟩
def h53 : Hints := ⟨[(0, [1]), (1, [1, 3]), (2, [1, 3, 4]), (3, [1, 3, 4, 17]), (4, [1, 3, 4]), (5, [1, 3, 4, 5]), (6, [1, 3, 4, 5, 22, 23, 24]), (7, [1, 3, 4, 5, 22, 23, 24, 25]), (8, [1, 3, 4, 5, 6, 7, 22, 23, 24]), (9, [1, 3, 4, 5, 6, 7, 22, 23, 24, 33]), (10, [1, 3, 4, 5, 7, 8, 22, 23, 24]), (11, [1, 3, 4, 5, 8, 22, 23, 24]), (12, [1, 3, 4, 5, 8, 22, 23, 24, 62]), (13, [1, 3, 4, 5, 22, 23, 24]), (14, [1, 3, 4, 5, 22, 23, 24]), (15, [1, 3, 4]), (16, [2])], [(0, [1, 3, 4]), (2, [1, 3, 4, 5, 22, 23, 24])], [(10, [[], [], [], [], [], [4], [3, 4, 5], [2, 3, 4, 5, 6], [2, 3, 4, 5, 6, 7], [2, 3, 4, 5, 6, 7, 8], [], [1, 2, 3, 4, 5, 6, 7, 8, 9, 10], List.range 12, [], List.range 14])], []⟩
def h54 : Hints := ⟨[(0, [0, 1]), (1, [0, 1, 10]), (2, [4]), (3, [0, 1, 5]), (4, [0, 1, 5, 14]), (5, [0, 1, 5]), (6, [0, 1, 5, 25]), (7, [4]), (8, [4])], [(0, [0, 1, 5])], [(6, [[], [], [0, 1], [0, 1, 2], [], [], [4, 5], [4, 5, 6], List.range 8])], []⟩
def h55 : Hints := ⟨[(0, [0, 1, 4]), (1, [4])], [], [], []⟩
def h56 : Hints := ⟨[(0, [0, 1, 2, 6]), (1, [2, 6, 7, 8]), (2, [2, 6, 7, 8, 23]), (3, [6, 7]), (4, [2, 6, 8, 27]), (5, [6, 7]), (6, [2, 6, 8, 9]), (7, [2, 6, 8, 9, 10, 11]), (8, [2, 6, 8, 9, 10, 11, 12]), (9, [2, 6, 8, 9, 10, 11, 12, 43]), (10, [2, 6, 8, 9, 10, 11, 12]), (11, [2, 6, 8, 9, 10, 11, 12, 51]), (12, [2, 6, 8, 9, 10, 11, 12]), (13, [2, 6, 8, 9, 10, 11, 12, 13]), (14, [2, 6, 8, 9, 10, 11, 12, 13, 59]), (15, [2, 6, 8, 9, 10, 11, 12, 13]), (16, [2, 6, 8, 9, 10, 11, 12, 13, 85]), (17, [2, 6, 8, 9, 10, 11, 12, 13, 14, 15]), (18, [2, 6, 8, 9, 10, 11, 12, 13, 99]), (19, [2, 6, 8, 9, 10, 11, 12, 13]), (20, [6, 11, 115]), (21, [6, 7]), (22, [6, 11, 16]), (23, [6, 11, 16, 120]), (24, [6, 11, 16]), (25, [6, 11, 16]), (26, [6, 7])], [(1, [2, 6, 8, 9, 10, 11, 12]), (3, [2, 6, 8, 9, 10, 11, 12, 13]), (5, [6, 11, 16])], [(7, [[], [0], [0, 1], [], [3], [3, 4], [0, 1, 2], List.range 7]), (16, [[], [], [0, 1], [0, 1, 2], [0, 1, 2, 3], List.range 5, List.range 6, List.range 6, List.range 8, List.range 9, List.range 10, List.range 11, List.range 12, List.range 12, List.range 14, List.range 15, List.range 16, List.range 12, List.range 12, [0, 1, 2, 3, 4, 5, 6, 7, 8, 9, 10, 11, 17, 18], [0, 1, 2, 3, 4, 5, 6, 7, 8, 9, 10, 11, 17, 18, 19], List.range 21, List.range 22, List.range 23])], []⟩
def h57 : Hints := ⟨[(0, [0, 1, 2, 3]), (1, [3, 10, 12]), (2, [3, 10, 12, 23]), (3, [8, 9, 10]), (4, [3, 12, 27]), (5, [8, 9, 10]), (6, [3, 32, 33, 34]), (7, [3, 32, 33, 34, 35]), (8, [3, 13, 14, 32, 33, 34]), (9, [3, 13, 14, 32, 33, 34, 42]), (10, [8, 9, 10]), (11, [3, 32, 33, 34]), (12, [8, 9, 10])], [(1, [3, 32, 33, 34])], [], []⟩
def h64 : Hints := ⟨[(0, [1]), (1, [1, 3]), (2, [2]), (3, [1, 9]), (4, [2]), (5, [1, 14]), (6, [2]), (7, [19]), (8, [2]), (9, [2])], [], [(7, [[], [0], [0, 1], [0, 1, 2], [], [4], List.range 6, List.range 7, List.range 8])], []⟩
def h70 : Hints := ⟨[(0, [0, 1]), (1, [4])], [], [], []⟩
def h79 : Hints := ⟨[(0, [1, 2]), (1, [1, 2, 4, 5]), (2, [1, 2, 4, 5, 15]), (3, [2, 3]), (4, [1, 2, 4, 6]), (5, [1, 2, 4, 6, 20, 21, 22]), (6, [1, 2, 4, 6, 20, 21, 22, 23]), (7, [1, 2, 4, 6, 8, 20, 21, 22]), (8, [1, 2, 4, 6, 20, 21, 22]), (9, [1, 2, 4, 6, 20, 21, 22]), (10, [1, 2, 4, 6, 30]), (11, [2, 3]), (12, [2, 4, 34]), (13, [2, 3]), (14, [2, 3])], [(0, [1, 2, 4, 6, 20, 21, 22])], [], []⟩
def h80 : Hints := ⟨[(0, [1, 2, 4]), (1, [1, 2, 4, 9, 10]), (2, [1, 2, 4, 9, 10, 11]), (3, [1, 2, 4, 5, 9, 10]), (4, [1, 2, 4, 5, 9, 10, 16]), (5, [1, 2, 4, 9, 10]), (6, [1, 2, 4, 9, 10]), (7, [4])], [(0, [1, 2, 4, 9, 10])], [], []⟩
def h88 : Hints := ⟨[(0, [1, 2]), (1, [1, 5]), (2, [4])], [], [], []⟩
def h89 : Hints := ⟨[(0, [0, 1, 2]), (1, [4])], [], [], []⟩
def h90 : Hints := ⟨[(0, [0, 1]), (1, [4])], [], [], []⟩
def h97 : Hints := ⟨[(0, [1, 2]), (1, [3])], [], [], []⟩
def h98 : Hints := ⟨[(0, [2, 3, 4]), (1, [6])], [], [], []⟩
def h99 : Hints := ⟨[(0, [0, 1]), (1, [4])], [], [], []⟩
def h100 : Hints := ⟨[(0, [1, 3, 5]), (1, [3, 5, 7]), (2, [3, 5, 7]), (3, [3, 5, 7]), (4, [3, 5, 7, 8]), (5, [3, 5, 7, 8, 30, 31, 32]), (6, [3, 5, 7, 8, 30, 31, 32, 33]), (7, [3, 5, 7, 8, 10, 30, 31, 32]), (8, [3, 5, 7, 8, 10, 30, 31, 32, 46]), (9, [3, 5, 7, 8, 30, 31, 32]), (10, [3, 5, 7, 8, 30, 31, 32]), (11, [3, 5, 7, 8, 50]), (12, [6]), (13, [3, 5, 7])], [(0, [3, 5, 7]), (2, [3, 5, 7, 8, 30, 31, 32])], [(3, [[], [], [1], [], [3], [1, 2, 3, 4], [], [], [7], [6, 7, 8], [1, 2, 3, 4, 5, 6, 7, 8, 9], [], [11], [1, 2, 3, 4, 5, 6, 7, 8, 9, 10, 11, 12], List.range 14, List.range 15])], []⟩
def h101 : Hints := ⟨[(0, [0, 1, 4]), (1, [0, 1, 4, 13, 14]), (2, [0, 1, 4, 13, 14, 15]), (3, [0, 1, 4, 7, 13, 14]), (4, [0, 1, 4, 8, 13, 14]), (5, [0, 1, 4, 8, 13, 14, 20]), (6, [4, 5]), (7, [0, 1, 4, 13, 14]), (8, [4]), (9, [4, 36]), (10, [4, 5]), (11, [4, 39, 40, 41]), (12, [4, 39, 40, 41, 42]), (13, [4, 9, 10, 39, 40, 41]), (14, [4, 39, 40, 41]), (15, [4, 39, 40, 41]), (16, [4, 5])], [(0, [0, 1, 4, 13, 14]), (2, [4, 39, 40, 41])], [(14, [[], [0], [], [], [3], [], [3, 4, 5], [3, 4, 5, 6], [2, 3, 4, 5, 6, 7], [2, 3, 4, 5, 6, 7, 8], List.range 10, List.range 11, List.range 12])], []⟩
def h102 : Hints := ⟨[(0, [0, 2]), (1, [2, 5, 6, 7]), (2, [2, 5, 6, 7, 8]), (3, [2, 4, 5, 6, 7]), (4, [2, 5, 6, 7]), (5, [2, 5, 6, 7]), (6, [2])], [(0, [2, 5, 6, 7])], [], []⟩
def h103 : Hints := ⟨[(0, [1, 2]), (1, [4])], [], [], []⟩
def h104 : Hints := ⟨[(0, [1, 2, 3]), (1, [6]), (2, [6, 8]), (3, [6, 8, 24, 25, 26]), (4, [6, 8, 24, 25, 26, 27]), (5, [6, 8, 9, 10, 24, 25, 26]), (6, [6, 8, 9, 10, 11, 24, 25, 26]), (7, [6, 8, 24, 25, 26]), (8, [6, 8, 24, 25, 26]), (9, [6, 7])], [(0, [6, 8, 24, 25, 26])], [(7, [[], [], [], [], [], [3, 4], [2, 3, 4, 5], List.range 7, List.range 8])], []⟩
def h105 : Hints := ⟨[(0, [0, 1, 2, 6]), (1, [2, 6, 8]), (2, [2, 6, 8, 18]), (3, [6, 7, 8]), (4, [2, 6, 26]), (5, [6, 7, 8]), (6, [2, 6, 29, 30]), (7, [2, 6, 29, 30, 31]), (8, [2, 6, 9, 29, 30]), (9, [2, 6, 29, 30, 46]), (10, [6, 7, 8]), (11, [2, 6, 29, 30]), (12, [6, 7, 10]), (13, [6, 7, 56]), (14, [6, 7, 8]), (15, [6, 7, 8])], [(0, [2, 6, 29, 30])], [(9, [[], [0], [0, 1], [0, 1, 2], [0, 1, 2], List.range 5, List.range 6, [0, 1, 2], [0, 1, 2], [0, 1, 2, 8], [0, 1, 2, 7, 8, 9], [0, 1, 2, 7, 8, 9, 10], List.range 12, List.range 13])], []⟩
def h106 : Hints := ⟨[(0, [1]), (1, [2])], [], [], []⟩
def h110 : Hints := ⟨[(0, [2, 3, 4]), (1, [6])], [], [], []⟩
def h113 : Hints := ⟨[(0, [0, 1]), (1, [0, 1, 7, 8]), (2, [0, 1, 7, 8, 9]), (3, [0, 1, 5, 7, 8]), (4, [0, 1, 5, 7, 8, 16]), (5, [4]), (6, [0, 1, 7, 8]), (7, [4])], [(0, [0, 1, 7, 8])], [], []⟩
def h121 : Hints := ⟨[(0, [1, 3, 5, 6]), (1, [1, 3, 5, 6, 7]), (2, [1, 3, 5, 6, 7]), (3, [3, 5, 6, 7, 21]), (4, [3, 5, 6, 7, 8]), (5, [3, 5, 6, 7, 8, 23, 24, 25]), (6, [3, 5, 6, 7, 8, 23, 24, 25, 26]), (7, [3, 5, 6, 7, 8, 9, 10, 23, 24, 25]), (8, [3, 5, 6, 7, 8, 10, 23, 24, 25, 54]), (9, [3, 5, 6, 7, 8, 23, 24, 25]), (10, [3, 5, 6, 7, 8, 23, 24, 25]), (11, [3, 5, 6, 7]), (12, [6])], [(0, [3, 5, 6, 7]), (2, [3, 5, 6, 7, 8, 23, 24, 25])], [(8, [[], [0], [0, 1], [0, 1, 2], [0, 1, 2], List.range 5, List.range 6, List.range 7, List.range 8, List.range 9, List.range 10, List.range 11, List.range 9, List.range 13, List.range 14, List.range 15, List.range 9, [0, 1, 2, 3, 4, 5, 6, 7, 8, 16], [0, 1, 2, 3, 4, 5, 6, 7, 8, 16, 17], List.range 9, [0, 1, 2, 3, 4, 5, 6, 7, 8, 16, 17, 18, 19], [0, 1, 2, 3, 4, 5, 6, 7, 8, 16, 17, 18, 19, 20], [0, 1, 2, 3, 4, 5, 6, 7, 8, 16, 17, 18, 19, 20, 21], List.range 23, List.range 24]), (9, [[], [], [], [], [2, 3], [2, 3, 4], [], [6], [2, 3, 4, 5, 6, 7], List.range 9, List.range 10]), (11, [[], [], [], [1, 2], [1, 2, 3], List.range 5, List.range 6])], []⟩
def h129 : Hints := ⟨[(0, [1, 2]), (1, [3])], [], [], []⟩
def h130 : Hints := ⟨[(0, [0, 1]), (1, [4])], [], [], []⟩
def h131 : Hints := ⟨[(0, [0]), (1, [0]), (2, [0]), (3, [0]), (4, [2])], [], [], []⟩
def h135 : Hints := ⟨[(0, [0, 1, 2]), (1, [4])], [], [], []⟩
def h136 : Hints := ⟨[(0, [0, 1]), (1, [0, 1, 7, 8]), (2, [0, 1, 7, 8, 9]), (3, [0, 1, 5, 7, 8]), (4, [0, 1, 5, 7, 8, 16]), (5, [4]), (6, [0, 1, 7, 8]), (7, [4])], [(0, [0, 1, 7, 8])], [], []⟩
def h137 : Hints := ⟨[(0, [0]), (1, [0, 3]), (2, [2]), (3, [0, 7]), (4, [2]), (5, [0, 11]), (6, [2]), (7, [14]), (8, [2]), (9, [2])], [], [], []⟩
def h138 : Hints := ⟨[(0, [0, 2]), (1, [2, 5, 6, 7]), (2, [2, 5, 6, 7, 8]), (3, [2, 4, 5, 6, 7]), (4, [2, 4, 5, 6, 7, 12, 13]), (5, [2, 4, 5, 6, 7, 12, 13, 14]), (6, [2, 4, 5, 6, 7, 12, 13]), (7, [2, 4, 5, 6, 7, 12, 13]), (8, [2, 5, 6, 7]), (9, [2])], [(0, [2, 5, 6, 7]), (2, [2, 4, 5, 6, 7, 12, 13])], [], []⟩
def h139 : Hints := ⟨[(0, [2, 3, 4]), (1, [4])], [], [], []⟩
def h140 : Hints := ⟨[(0, [0]), (1, [0, 3]), (2, [3, 8, 9, 10]), (3, [3, 8, 9, 10, 11]), (4, [3, 4, 5, 8, 9, 10]), (5, [3, 8, 9, 10]), (6, [3, 8, 9, 10]), (7, [2])], [(0, [3, 8, 9, 10])], [(5, [[], [], [], [1, 2], [1, 2, 3], [], [1, 2, 3, 4, 5], [1, 2, 3, 4, 5, 6], List.range 8, List.range 9])], []⟩
def h141 : Hints := ⟨[(0, [2, 3, 4]), (1, [4])], [], [], []⟩
def h142 : Hints := ⟨[(0, [1, 2]), (1, [4])], [], [], []⟩
def h143 : Hints := ⟨[(0, [1, 2, 4]), (1, [1, 2, 4, 6]), (2, [2, 4, 6, 11, 12, 13]), (3, [2, 4, 6, 11, 12, 13, 14]), (4, [2, 4, 6, 8, 11, 12, 13]), (5, [2, 4, 8, 9, 10, 11, 12, 13]), (6, [2, 4, 8, 9, 11, 12, 13, 25]), (7, [4, 5]), (8, [2, 4, 8, 11, 12, 13]), (9, [2, 4, 6, 11, 12, 13]), (10, [2, 4, 6, 11, 12, 13]), (11, [4, 5])], [(0, [2, 4, 6, 11, 12, 13])], [], []⟩
def h144 : Hints := ⟨[(0, [0, 1, 2]), (1, [4])], [], [], []⟩
def h153 : Hints := ⟨[(0, [2, 3]), (1, [4])], [], [], []⟩
def h156 : Hints := ⟨[(0, [0, 1]), (1, [0, 1, 7, 8]), (2, [0, 1, 7, 8, 9]), (3, [0, 1, 5, 7, 8]), (4, [0, 1, 5, 7, 8, 16]), (5, [4]), (6, [0, 1, 7, 8]), (7, [4])], [(0, [0, 1, 7, 8])], [], []⟩
def h157 : Hints := ⟨[(0, [0]), (1, [0]), (2, [0]), (3, [2])], [], [], []⟩
def h161 : Hints := ⟨[(0, [0, 1]), (1, [4])], [], [], []⟩
def h162 : Hints := ⟨[(0, [1]), (1, [2])], [], [], []⟩
def h163 : Hints := ⟨[(0, [1]), (1, [2])], [], [], []⟩
def h164 : Hints := ⟨[(0, [2, 3, 4]), (1, [4])], [], [], []⟩
def h165 : Hints := ⟨[(0, [0, 1, 2, 8, 9]), (1, [0, 1, 2, 8, 9, 10]), (2, [0, 1, 2, 4, 8, 9]), (3, [0, 1, 2, 8, 9, 18]), (4, [0, 1, 2, 8, 9])], [(0, [0, 1, 2, 8, 9])], [], []⟩
def h168 : Hints := ⟨[(0, [0, 1]), (1, [0, 1, 7, 8]), (2, [0, 1, 7, 8, 9]), (3, [0, 1, 5, 7, 8]), (4, [0, 1, 5, 7, 8, 16]), (5, [4]), (6, [0, 1, 7, 8]), (7, [4])], [(0, [0, 1, 7, 8])], [], []⟩
def F : Nat → Option AFn
  | 4 => some a4
  | 13 => some a13
  | 15 => some a15
  | 19 => some a19
  | 20 => some a20
  | 21 => some a21
  | 22 => some a22
  | 23 => some a23
  | 24 => some a24
  | 25 => some a25
  | 26 => some a26
  | 36 => some a36
  | 41 => some a41
  | 42 => some a42
  | 43 => some a43
  | 44 => some a44
  | 45 => some a45
  | 46 => some a46
  | 52 => some a52
  | 53 => some a53
  | 54 => some a54
  | 55 => some a55
  | 56 => some a56
  | 57 => some a57
  | 64 => some a64
  | 70 => some a70
  | 79 => some a79
  | 80 => some a80
  | 88 => some a88
  | 89 => some a89
  | 90 => some a90
  | 97 => some a97
  | 98 => some a98
  | 99 => some a99
  | 100 => some a100
  | 101 => some a101
  | 102 => some a102
  | 103 => some a103
  | 104 => some a104
  | 105 => some a105
  | 106 => some a106
  | 110 => some a110
  | 113 => some a113
  | 121 => some a121
  | 129 => some a129
  | 130 => some a130
  | 131 => some a131
  | 135 => some a135
  | 136 => some a136
  | 137 => some a137
  | 138 => some a138
  | 139 => some a139
  | 140 => some a140
  | 141 => some a141
  | 142 => some a142
  | 143 => some a143
  | 144 => some a144
  | 153 => some a153
  | 156 => some a156
  | 157 => some a157
  | 161 => some a161
  | 162 => some a162
  | 163 => some a163
  | 164 => some a164
  | 165 => some a165
  | 168 => some a168
  | _ => none
theorem c4 : compFn Try.prog bor h4 Try.f4 = some a4 := by kernel_rfl
theorem c13 : compFn Try.prog bor h13 Try.f13 = some a13 := by kernel_rfl
theorem c15 : compFn Try.prog bor h15 Try.f15 = some a15 := by kernel_rfl
theorem c19 : compFn Try.prog bor h19 Try.f19 = some a19 := by kernel_rfl
theorem c20 : compFn Try.prog bor h20 Try.f20 = some a20 := by kernel_rfl
theorem c21 : compFn Try.prog bor h21 Try.f21 = some a21 := by kernel_rfl
theorem c22 : compFn Try.prog bor h22 Try.f22 = some a22 := by kernel_rfl
theorem c23 : compFn Try.prog bor h23 Try.f23 = some a23 := by kernel_rfl
theorem c24 : compFn Try.prog bor h24 Try.f24 = some a24 := by kernel_rfl
theorem c25 : compFn Try.prog bor h25 Try.f25 = some a25 := by kernel_rfl
theorem c26 : compFn Try.prog bor h26 Try.f26 = some a26 := by kernel_rfl
theorem c36 : compFn Try.prog bor h36 Try.f36 = some a36 := by kernel_rfl
theorem c41 : compFn Try.prog bor h41 Try.f41 = some a41 := by kernel_rfl
theorem c42 : compFn Try.prog bor h42 Try.f42 = some a42 := by kernel_rfl
theorem c43 : compFn Try.prog bor h43 Try.f43 = some a43 := by kernel_rfl
theorem c44 : compFn Try.prog bor h44 Try.f44 = some a44 := by kernel_rfl
theorem c45 : compFn Try.prog bor h45 Try.f45 = some a45 := by kernel_rfl
theorem c46 : compFn Try.prog bor h46 Try.f46 = some a46 := by kernel_rfl
theorem c52 : compFn Try.prog bor h52 Try.f52 = some a52 := by kernel_rfl
theorem c53 : compFn Try.prog bor h53 Try.f53 = some a53 := by kernel_rfl
theorem c54 : compFn Try.prog bor h54 Try.f54 = some a54 := by kernel_rfl
theorem c55 : compFn Try.prog bor h55 Try.f55 = some a55 := by kernel_rfl
theorem c56 : compFn Try.prog bor h56 Try.f56 = some a56 := by kernel_rfl
theorem c57 : compFn Try.prog bor h57 Try.f57 = some a57 := by kernel_rfl
theorem c64 : compFn Try.prog bor h64 Try.f64 = some a64 := by kernel_rfl
theorem c70 : compFn Try.prog bor h70 Try.f70 = some a70 := by kernel_rfl
theorem c79 : compFn Try.prog bor h79 Try.f79 = some a79 := by kernel_rfl
theorem c80 : compFn Try.prog bor h80 Try.f80 = some a80 := by kernel_rfl
theorem c88 : compFn Try.prog bor h88 Try.f88 = some a88 := by kernel_rfl
theorem c89 : compFn Try.prog bor h89 Try.f89 = some a89 := by kernel_rfl
theorem c90 : compFn Try.prog bor h90 Try.f90 = some a90 := by kernel_rfl
theorem c97 : compFn Try.prog bor h97 Try.f97 = some a97 := by kernel_rfl
theorem c98 : compFn Try.prog bor h98 Try.f98 = some a98 := by kernel_rfl
theorem c99 : compFn Try.prog bor h99 Try.f99 = some a99 := by kernel_rfl
theorem c100 : compFn Try.prog bor h100 Try.f100 = some a100 := by kernel_rfl
theorem c101 : compFn Try.prog bor h101 Try.f101 = some a101 := by kernel_rfl
theorem c102 : compFn Try.prog bor h102 Try.f102 = some a102 := by kernel_rfl
theorem c103 : compFn Try.prog bor h103 Try.f103 = some a103 := by kernel_rfl
theorem c104 : compFn Try.prog bor h104 Try.f104 = some a104 := by kernel_rfl
theorem c105 : compFn Try.prog bor h105 Try.f105 = some a105 := by kernel_rfl
theorem c106 : compFn Try.prog bor h106 Try.f106 = some a106 := by kernel_rfl
theorem c110 : compFn Try.prog bor h110 Try.f110 = some a110 := by kernel_rfl
theorem c113 : compFn Try.prog bor h113 Try.f113 = some a113 := by kernel_rfl
theorem c121 : compFn Try.prog bor h121 Try.f121 = some a121 := by kernel_rfl
theorem c129 : compFn Try.prog bor h129 Try.f129 = some a129 := by kernel_rfl
theorem c130 : compFn Try.prog bor h130 Try.f130 = some a130 := by kernel_rfl
theorem c131 : compFn Try.prog bor h131 Try.f131 = some a131 := by kernel_rfl
theorem c135 : compFn Try.prog bor h135 Try.f135 = some a135 := by kernel_rfl
theorem c136 : compFn Try.prog bor h136 Try.f136 = some a136 := by kernel_rfl
theorem c137 : compFn Try.prog bor h137 Try.f137 = some a137 := by kernel_rfl
theorem c138 : compFn Try.prog bor h138 Try.f138 = some a138 := by kernel_rfl
theorem c139 : compFn Try.prog bor h139 Try.f139 = some a139 := by kernel_rfl
theorem c140 : compFn Try.prog bor h140 Try.f140 = some a140 := by kernel_rfl
theorem c141 : compFn Try.prog bor h141 Try.f141 = some a141 := by kernel_rfl
theorem c142 : compFn Try.prog bor h142 Try.f142 = some a142 := by kernel_rfl
theorem c143 : compFn Try.prog bor h143 Try.f143 = some a143 := by kernel_rfl
theorem c144 : compFn Try.prog bor h144 Try.f144 = some a144 := by kernel_rfl
theorem c153 : compFn Try.prog bor h153 Try.f153 = some a153 := by kernel_rfl
theorem c156 : compFn Try.prog bor h156 Try.f156 = some a156 := by kernel_rfl
theorem c157 : compFn Try.prog bor h157 Try.f157 = some a157 := by kernel_rfl
theorem c161 : compFn Try.prog bor h161 Try.f161 = some a161 := by kernel_rfl
theorem c162 : compFn Try.prog bor h162 Try.f162 = some a162 := by kernel_rfl
theorem c163 : compFn Try.prog bor h163 Try.f163 = some a163 := by kernel_rfl
theorem c164 : compFn Try.prog bor h164 Try.f164 = some a164 := by kernel_rfl
theorem c165 : compFn Try.prog bor h165 Try.f165 = some a165 := by kernel_rfl
theorem c168 : compFn Try.prog bor h168 Try.f168 = some a168 := by kernel_rfl
theorem F_ok (f : Nat) (afn : AFn) (h : F f = some afn) : ∃ fn hh, Try.prog.funcs[f]? = some fn ∧ compFn Try.prog bor hh fn = some afn := by
  unfold F at h
  split at h
  · cases h; exact ⟨_, _, Try.func4, c4⟩
  · cases h; exact ⟨_, _, Try.func13, c13⟩
  · cases h; exact ⟨_, _, Try.func15, c15⟩
  · cases h; exact ⟨_, _, Try.func19, c19⟩
  · cases h; exact ⟨_, _, Try.func20, c20⟩
  · cases h; exact ⟨_, _, Try.func21, c21⟩
  · cases h; exact ⟨_, _, Try.func22, c22⟩
  · cases h; exact ⟨_, _, Try.func23, c23⟩
  · cases h; exact ⟨_, _, Try.func24, c24⟩
  · cases h; exact ⟨_, _, Try.func25, c25⟩
  · cases h; exact ⟨_, _, Try.func26, c26⟩
  · cases h; exact ⟨_, _, Try.func36, c36⟩
  · cases h; exact ⟨_, _, Try.func41, c41⟩
  · cases h; exact ⟨_, _, Try.func42, c42⟩
  · cases h; exact ⟨_, _, Try.func43, c43⟩
  · cases h; exact ⟨_, _, Try.func44, c44⟩
  · cases h; exact ⟨_, _, Try.func45, c45⟩
  · cases h; exact ⟨_, _, Try.func46, c46⟩
  · cases h; exact ⟨_, _, Try.func52, c52⟩
  · cases h; exact ⟨_, _, Try.func53, c53⟩
  · cases h; exact ⟨_, _, Try.func54, c54⟩
  · cases h; exact ⟨_, _, Try.func55, c55⟩
  · cases h; exact ⟨_, _, Try.func56, c56⟩
  · cases h; exact ⟨_, _, Try.func57, c57⟩
  · cases h; exact ⟨_, _, Try.func64, c64⟩
  · cases h; exact ⟨_, _, Try.func70, c70⟩
  · cases h; exact ⟨_, _, Try.func79, c79⟩
  · cases h; exact ⟨_, _, Try.func80, c80⟩
  · cases h; exact ⟨_, _, Try.func88, c88⟩
  · cases h; exact ⟨_, _, Try.func89, c89⟩
  · cases h; exact ⟨_, _, Try.func90, c90⟩
  · cases h; exact ⟨_, _, Try.func97, c97⟩
  · cases h; exact ⟨_, _, Try.func98, c98⟩
  · cases h; exact ⟨_, _, Try.func99, c99⟩
  · cases h; exact ⟨_, _, Try.func100, c100⟩
  · cases h; exact ⟨_, _, Try.func101, c101⟩
  · cases h; exact ⟨_, _, Try.func102, c102⟩
  · cases h; exact ⟨_, _, Try.func103, c103⟩
  · cases h; exact ⟨_, _, Try.func104, c104⟩
  · cases h; exact ⟨_, _, Try.func105, c105⟩
  · cases h; exact ⟨_, _, Try.func106, c106⟩
  · cases h; exact ⟨_, _, Try.func110, c110⟩
  · cases h; exact ⟨_, _, Try.func113, c113⟩
  · cases h; exact ⟨_, _, Try.func121, c121⟩
  · cases h; exact ⟨_, _, Try.func129, c129⟩
  · cases h; exact ⟨_, _, Try.func130, c130⟩
  · cases h; exact ⟨_, _, Try.func131, c131⟩
  · cases h; exact ⟨_, _, Try.func135, c135⟩
  · cases h; exact ⟨_, _, Try.func136, c136⟩
  · cases h; exact ⟨_, _, Try.func137, c137⟩
  · cases h; exact ⟨_, _, Try.func138, c138⟩
  · cases h; exact ⟨_, _, Try.func139, c139⟩
  · cases h; exact ⟨_, _, Try.func140, c140⟩
  · cases h; exact ⟨_, _, Try.func141, c141⟩
  · cases h; exact ⟨_, _, Try.func142, c142⟩
  · cases h; exact ⟨_, _, Try.func143, c143⟩
  · cases h; exact ⟨_, _, Try.func144, c144⟩
  · cases h; exact ⟨_, _, Try.func153, c153⟩
  · cases h; exact ⟨_, _, Try.func156, c156⟩
  · cases h; exact ⟨_, _, Try.func157, c157⟩
  · cases h; exact ⟨_, _, Try.func161, c161⟩
  · cases h; exact ⟨_, _, Try.func162, c162⟩
  · cases h; exact ⟨_, _, Try.func163, c163⟩
  · cases h; exact ⟨_, _, Try.func164, c164⟩
  · cases h; exact ⟨_, _, Try.func165, c165⟩
  · cases h; exact ⟨_, _, Try.func168, c168⟩
  · cases h
end Go.Abs
