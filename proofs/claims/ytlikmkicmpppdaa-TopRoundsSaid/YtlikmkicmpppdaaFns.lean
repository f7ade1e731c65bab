/-
  The functions of this seat are what the compile step gives: proved by the kernel.
-/
import Derived.Test.YtlikmkicmpppdaaProg
import Derived.Test.YtlikmkicmpppdaaComp
import Derived.Test.YtlikmkicmpppdaaFnsA
import Derived.Test.YtlikmkicmpppdaaFnsB
import Derived.KernelRfl
set_option linter.all false
set_option maxRecDepth 100000
set_option maxHeartbeats 0
namespace Go.Abs
open Go.Proofs
def bor : Nat → List Nat
  | 111 => [0]
  | 145 => [0]
  | 146 => [0]
  | 147 => [0]
  | 149 => [0]
  | 160 => [1]
  | _ => []

def h6 : Hints := ⟨[(0, [0, 1, 5]), (1, [5, 7]), (2, [5, 7, 8]), (3, [5, 7, 8, 9, 10]), (4, [5, 7, 8, 9, 45]), (5, [6]), (6, [7, 11, 13]), (7, [7, 13, 14]), (8, [7, 13, 14, 15, 16, 17]), (9, [7, 13, 14, 15, 16, 17, 18, 19, 20]), (10, [13, 14, 15, 16, 17, 18, 19, 20, 21, 22]), (11, [13, 15, 16, 17, 18, 19, 20, 21, 22, 23, 24]), (12, [6])], [], [(6, [[], [], [1], [1, 2], [], [1, 2, 3, 4], [], [], [7], [7, 8], [7, 8, 9], [7, 8, 9, 10], [6, 7, 8, 9, 10, 11], [6, 7, 8, 9, 10, 11, 12], List.range 14, List.range 15, List.range 16, List.range 16, List.range 16, List.range 17, [0, 1, 2, 3, 4, 5, 6, 7, 8, 9, 10, 11, 12, 13, 14, 15, 16, 17, 19], List.range 21])], []⟩
def h8 : Hints := ⟨[(0, [0, 1, 4]), (1, [1, 4, 5]), (2, [1, 4, 5, 6]), (3, [1, 4, 5, 6, 24]), (4, [1, 4, 5, 6]), (5, [1, 4, 5, 6, 7]), (6, [1, 4, 5, 6, 7, 30]), (7, [1, 4, 5, 6, 7]), (8, [1, 4, 5, 6]), (9, [4])], [(0, [1, 4, 5, 6])], [(7, [[], [], [0, 1], [0, 1, 2], [0, 1, 2, 3], [], [5], [5, 6], [5, 6, 7], List.range 9, List.range 10])], []⟩
def h13 : Hints := ⟨[(0, [1, 2]), (1, [1, 2, 4]), (2, [1, 2, 4, 9]), (3, [2, 3]), (4, [1, 2, 4, 14]), (5, [2, 3]), (6, [1, 2, 4, 20]), (7, [2, 3]), (8, [1, 2, 26]), (9, [2, 3]), (10, [1, 2]), (11, [2, 37, 38, 39]), (12, [2, 37, 38, 39, 40]), (13, [2, 5, 6, 37, 38, 39]), (14, [2, 37, 38, 39]), (15, [2, 37, 38, 39]), (16, [2, 3])], [(1, [2, 37, 38, 39])], [], []⟩
def h14 : Hints := ⟨[(0, [1, 2]), (1, [1, 2]), (2, [2])], [], [], []⟩
def h15 : Hints := ⟨[(0, [1, 2, 3, 6]), (1, [1, 2, 3, 6, 8, 9]), (2, [1, 2, 3, 6, 8, 9, 17]), (3, [6, 7, 8]), (4, [1, 2, 6, 9, 21]), (5, [6, 7, 8]), (6, [1, 2, 6, 9, 30]), (7, [6, 7, 8]), (8, [1, 2, 6, 9, 34]), (9, [6, 7, 8]), (10, [2, 6, 7, 9]), (11, [6, 7, 9, 39, 40, 41]), (12, [6, 7, 9, 39, 40, 41, 42]), (13, [6, 7, 9, 11, 39, 40, 41]), (14, [6, 7, 9, 11, 39, 40, 41]), (15, [6, 7, 9, 39, 40, 41]), (16, [6, 7, 9, 39, 40, 41]), (17, [6, 7, 8])], [(1, [6, 7, 9, 39, 40, 41])], [], []⟩
def h16 : Hints := ⟨[(0, [0]), (1, [0, 3]), (2, [0, 3, 4]), (3, [0, 3, 4, 8]), (4, [0, 3, 4]), (5, [0, 3, 4]), (6, [2])], [(0, [0, 3, 4])], [], []⟩
def h17 : Hints := ⟨[(0, []), (1, [1]), (2, [1, 2, 3, 4]), (3, [1, 2, 3, 4, 5, 6]), (4, [2, 3, 4, 5, 6, 7, 8]), (5, [0])], [], [], []⟩
def h29 : Hints := ⟨[(0, [0, 1]), (1, [0, 1, 10]), (2, [4]), (3, [0, 1, 5]), (4, [0, 1, 5, 14]), (5, [0, 1, 5]), (6, [0, 1, 5, 25]), (7, [4]), (8, [4])], [(0, [0, 1, 5])], [(6, [[], [], [0, 1], [0, 1, 2], [], [], [4, 5], [4, 5, 6], List.range 8])], []⟩
def h30 : Hints := ⟨[(0, []), (1, [1]), (2, [1, 2, 3, 4]), (3, [2, 3, 4, 5, 6]), (4, [2, 3, 4, 5, 6, 7, 8]), (5, [0])], [], [], []⟩
def h31 : Hints := ⟨[(0, [1]), (1, [1, 5]), (2, [1, 5, 9]), (3, [2, 3, 4]), (4, [1, 2]), (5, [2, 3]), (6, [2, 3, 4])], [], [], []⟩
def h32 : Hints := ⟨[(0, [1, 2]), (1, [1, 2, 4]), (2, [1, 2, 4, 12]), (3, [2, 3]), (4, [1, 2, 23]), (5, [1, 2, 23, 25]), (6, [1, 2, 5, 6, 23]), (7, [1, 2, 6, 23, 32]), (8, [1, 2, 6, 7, 23]), (9, [1, 2, 6, 7, 8, 23]), (10, [1, 2, 6, 7, 8, 23, 37]), (11, [1, 2, 6, 7, 8, 23]), (12, [1, 2, 6, 23]), (13, [2, 3])], [(0, [1, 2, 23]), (2, [1, 2, 6, 23])], [(12, [[], [], [1], [1, 2], [], [4], [1, 2, 3, 4, 5], List.range 7, List.range 8])], []⟩
def h36 : Hints := ⟨[(0, [1, 2]), (1, [1, 2, 3, 4]), (2, [1, 2, 3, 4, 14]), (3, [2, 3]), (4, [1, 2, 4, 5]), (5, [1, 2, 4, 5, 6]), (6, [1, 2, 4, 5, 6, 22, 23]), (7, [1, 2, 4, 5, 6, 22, 23, 24]), (8, [1, 2, 4, 5, 6, 7, 22, 23]), (9, [1, 2, 4, 5, 6, 7, 22, 23]), (10, [1, 2, 4, 5, 6, 7, 22, 23, 32]), (11, [1, 2, 4, 5, 6, 22, 23]), (12, [1, 2, 4, 5, 6, 22, 23]), (13, [1, 2, 4, 5, 6, 22, 23, 46]), (14, [1, 2, 4, 5, 6, 22, 23]), (15, [2, 3])], [(0, [1, 2, 4, 5, 6, 22, 23])], [], []⟩
def h41 : Hints := ⟨[(0, [0]), (1, [2])], [], [], []⟩
def h42 : Hints := ⟨[(0, [0, 1]), (1, [4])], [], [], []⟩
def h43 : Hints := ⟨[(0, [1, 2]), (1, [1, 2, 4]), (2, [1, 2, 4, 9]), (3, [2, 3]), (4, [1, 2, 4, 15]), (5, [2, 3]), (6, [2, 4, 21]), (7, [2, 3]), (8, [2, 3])], [], [], []⟩
def h44 : Hints := ⟨[(0, [2, 3, 4]), (1, [6])], [], [], []⟩
def h45 : Hints := ⟨[(0, [1, 2]), (1, [1, 2, 5]), (2, [1, 2, 5, 13]), (3, [4]), (4, [4])], [], [], []⟩
def h46 : Hints := ⟨[(0, [1, 2, 3]), (1, [6])], [], [], []⟩
def h47 : Hints := ⟨[(0, [1, 2]), (1, [1, 2]), (2, [2])], [], [], []⟩
def h48 : Hints := ⟨[(0, [1, 2, 3, 6]), (1, [6, 7, 8]), (2, [6, 7, 19]), (3, [6, 7, 19, 21]), (4, [6, 7, 10, 19]), (5, [6, 7, 19]), (6, [6, 7])], [(0, [6, 7, 19])], [], []⟩
def h58 : Hints := ⟨[(0, [2, 3, 4]), (1, [2, 3, 4, 6]), (2, [2, 3, 4, 6, 10]), (3, [4, 5]), (4, [4, 5])], [], [], []⟩
def h61 : Hints := ⟨[(0, [1, 2, 3, 6, 7]), (1, [1, 2, 3, 6, 7, 9]), (2, [1, 2, 3, 6, 7, 9, 16]), (3, [6, 7, 8]), (4, [1, 2, 3, 6, 7, 21]), (5, [6, 7, 8]), (6, [1, 2, 3, 6, 7, 29]), (7, [6, 7, 8]), (8, [1, 2, 3, 6, 7, 38]), (9, [6, 7, 8]), (10, [1, 2, 3, 6, 7]), (11, [1, 2, 3, 6, 7, 48, 49, 50]), (12, [1, 2, 3, 6, 7, 48, 49, 50, 51]), (13, [1, 2, 3, 6, 7, 10, 11, 48, 49, 50]), (14, [1, 2, 3, 6, 7, 12, 13, 48, 49, 50]), (15, [1, 2, 3, 6, 7, 12, 13, 48, 49, 50, 70]), (16, [6, 7, 8]), (17, [1, 2, 3, 6, 7, 48, 49, 50]), (18, [1, 2, 3, 6, 7, 48, 49, 50]), (19, [6, 7, 8])], [(1, [1, 2, 3, 6, 7, 48, 49, 50])], [(14, [[], [], [], [1, 2], [1, 2, 3], [], [5], [], List.range 8, List.range 9, List.range 10, List.range 11, List.range 12, List.range 12, List.range 13, List.range 15])], []⟩
def h62 : Hints := ⟨[(0, [1, 3, 5, 6]), (1, [1, 3, 5, 6, 8]), (2, [1, 3, 5, 6, 8, 12]), (3, [6, 7]), (4, [1, 3, 5, 6, 16]), (5, [6, 7]), (6, [1, 3, 5, 6, 23]), (7, [6, 7]), (8, [5, 6, 31]), (9, [5, 6, 9]), (10, [5, 6, 9, 36]), (11, [5, 6]), (12, [6, 7])], [(1, [5, 6])], [], []⟩
def h63 : Hints := ⟨[(0, [3, 4, 5, 6]), (1, [3, 4, 5, 6, 8]), (2, [3, 4, 5, 6, 8, 11]), (3, [6, 7]), (4, [3, 4, 5, 6, 16]), (5, [3, 4, 5, 6, 16]), (6, [6, 7]), (7, [6, 7])], [], [], []⟩
def h64 : Hints := ⟨[(0, [1]), (1, [1, 3]), (2, [2]), (3, [1, 9]), (4, [2]), (5, [1, 14]), (6, [2]), (7, [19]), (8, [2]), (9, [2])], [], [(7, [[], [0], [0, 1], [0, 1, 2], [], [4], List.range 6, List.range 7, List.range 8])], []⟩
def h65 : Hints := ⟨[(0, [0, 1]), (1, [0, 1, 6, 7]), (2, [0, 1, 6, 7, 8]), (3, [0, 1, 5, 6, 7]), (4, [0, 1, 5, 6, 7, 22]), (5, [4]), (6, [0, 1, 6, 7]), (7, [4])], [(0, [0, 1, 6, 7])], [], []⟩
def h66 : Hints := ⟨[(0, [0, 1]), (1, [3])], [], [(1, [[], [0], [], [0, 1, 2], [], [4], [], [6], [6, 7], [], [6, 7, 8, 9], [4, 5, 6, 7, 8, 9, 10], List.range 12, List.range 13])], []⟩
def h67 : Hints := ⟨[(0, [0, 1]), (1, [0, 1, 10]), (2, [4]), (3, [0, 1, 12, 13]), (4, [0, 1, 12, 13, 14]), (5, [0, 1, 5, 12, 13]), (6, [0, 1, 12, 13, 24]), (7, [4]), (8, [0, 1, 12, 13]), (9, [4])], [(0, [0, 1, 12, 13])], [(6, [[], [], [0, 1], [0, 1, 2], [], [], [4, 5], [4, 5, 6], List.range 8])], []⟩
def h68 : Hints := ⟨[(0, [1, 2]), (1, [1, 4]), (2, [3])], [], [], []⟩
def h69 : Hints := ⟨[(0, [0, 1, 2]), (1, [4])], [], [(1, [[], [], [0, 1], [], [], [4], [], [4, 5, 6], [4, 5, 6, 7], [4, 5, 6, 7, 8], [3, 4, 5, 6, 7, 8, 9], List.range 11, List.range 12])], []⟩
def h70 : Hints := ⟨[(0, [0, 1]), (1, [4])], [], [], []⟩
def h71 : Hints := ⟨[(0, [0, 1]), (1, [3])], [], [], []⟩
def h72 : Hints := ⟨[(0, [2, 3]), (1, [2, 3, 5, 6]), (2, [2, 3, 5, 6, 14]), (3, [3, 5, 6]), (4, [4])], [], [(1, [[], [0], [], [2], [2, 3], [2, 3, 4], [], [], [0, 1, 6, 7], List.range 9]), (3, [[], [0], [], [2], [2, 3], [0, 1], List.range 6])], []⟩
def h79 : Hints := ⟨[(0, [1, 2]), (1, [1, 2, 4, 5]), (2, [1, 2, 4, 5, 15]), (3, [2, 3]), (4, [1, 2, 4, 6]), (5, [1, 2, 4, 6, 20, 21, 22]), (6, [1, 2, 4, 6, 20, 21, 22, 23]), (7, [1, 2, 4, 6, 8, 20, 21, 22]), (8, [1, 2, 4, 6, 20, 21, 22]), (9, [1, 2, 4, 6, 20, 21, 22]), (10, [1, 2, 4, 6, 30]), (11, [2, 3]), (12, [2, 4, 34]), (13, [2, 3]), (14, [2, 3])], [(0, [1, 2, 4, 6, 20, 21, 22])], [], []⟩
def h80 : Hints := ⟨[(0, [1, 2, 4]), (1, [1, 2, 4, 9, 10]), (2, [1, 2, 4, 9, 10, 11]), (3, [1, 2, 4, 5, 9, 10]), (4, [1, 2, 4, 5, 9, 10, 16]), (5, [1, 2, 4, 9, 10]), (6, [1, 2, 4, 9, 10]), (7, [4])], [(0, [1, 2, 4, 9, 10])], [], []⟩
def h88 : Hints := ⟨[(0, [1, 2]), (1, [1, 5]), (2, [4])], [], [], []⟩
def h89 : Hints := ⟨[(0, [0, 1, 2]), (1, [4])], [], [], []⟩
def h90 : Hints := ⟨[(0, [0, 1]), (1, [4])], [], [], []⟩
def h91 : Hints := ⟨[(0, [1, 2, 3]), (1, [2, 8, 9]), (2, [2, 8, 9, 16]), (3, [6, 7]), (4, [2, 8, 20]), (5, [6, 7]), (6, [6, 7])], [], [], []⟩
def h107 : Hints := ⟨[(0, [0, 1, 2, 6]), (1, [0, 1, 2, 6, 7]), (2, [1, 2, 6, 7, 14, 15]), (3, [1, 2, 6, 7, 14, 15, 16]), (4, [1, 2, 6, 7, 8, 14, 15]), (5, [1, 2, 6, 7, 8, 14, 15, 18, 19]), (6, [1, 2, 6, 7, 8, 14, 15, 18, 19, 20]), (7, [1, 2, 6, 7, 8, 9, 14, 15, 18, 19]), (8, [1, 2, 6, 7, 8, 9, 14, 15, 18, 19, 25]), (9, [1, 2, 6, 7, 8, 14, 15, 18, 19]), (10, [1, 2, 6, 7, 8, 14, 15, 18, 19]), (11, [1, 2, 6, 7, 14, 15]), (12, [6])], [(0, [1, 2, 6, 7, 14, 15]), (2, [1, 2, 6, 7, 8, 14, 15, 18, 19])], [(9, [[], [0], [], [0, 1, 2], [0, 1, 2, 3], [], [5], List.range 7, List.range 8, List.range 9])], []⟩
def h108 : Hints := ⟨[(0, [0, 1, 2, 3]), (1, [6])], [], [(1, [[], [0], [], [], [], [2, 3, 4], [2, 3, 4, 5], [2, 3, 4, 5], List.range 8, List.range 9])], []⟩
def h109 : Hints := ⟨[(0, [1, 2, 3]), (1, [6])], [], [(1, [[], [0], [0, 1], [], [], [4], [4, 5], [4, 5, 6], [3, 4, 5, 6, 7], List.range 9, List.range 10, [], [], [12], [12, 13], [11, 12, 13, 14], List.range 16, List.range 17, List.range 18, List.range 19])], []⟩
def h110 : Hints := ⟨[(0, [2, 3, 4]), (1, [6])], [], [], []⟩
def h111 : Hints := ⟨[(0, [0]), (1, [0, 3]), (2, [0, 3, 4]), (3, [0, 3, 4, 15, 16]), (4, [0, 3, 4, 15, 16, 17]), (5, [0, 3, 4, 6, 15, 16]), (6, [0, 3, 4, 6, 7, 15, 16]), (7, [0, 3, 4, 7, 8, 15, 16]), (8, [0, 3, 4, 7, 8, 15, 16, 36]), (9, [0, 3, 4, 15, 16]), (10, [0, 3, 4, 15, 16]), (11, [0, 3, 4, 41]), (12, [2, 3]), (13, [0, 3, 4]), (14, [0, 3, 4, 9]), (15, [0, 2, 3, 4, 9]), (16, [0, 2, 3, 4, 9, 62]), (17, [0, 2, 3, 4, 9, 63, 64]), (18, [0, 2, 3, 4, 9, 63, 64, 65]), (19, [0, 2, 3, 4, 9, 11, 63, 64]), (20, [0, 2, 3, 4, 9, 11, 12, 13, 63, 64]), (21, [0, 2, 3, 4, 9, 11, 12, 13, 14, 63, 64]), (22, [0, 2, 3, 4, 9, 11, 12, 14, 63, 64, 89]), (23, [0, 2, 3, 4, 9]), (24, [0, 2, 3, 4, 9, 63, 64]), (25, [2, 3])], [(0, [0, 3, 4, 15, 16]), (2, [0, 2, 3, 4, 9]), (4, [0, 2, 3, 4, 9, 63, 64])], [(7, [[], [], [1], [1, 2], [1, 2, 3], [1, 2, 3, 4], [], List.range 7, [], [], List.range 10, List.range 11, List.range 12]), (14, [[], [], [], [2], [2, 3], [2, 3, 4], [2, 3, 4, 5], [], [7], [1, 2, 3, 4, 5, 6, 7, 8], List.range 10, List.range 11]), (23, [[], [], [], [1, 2], [], [4], [], [6], [4, 5, 6, 7], [0, 6, 7], [0, 1, 2, 3, 6, 7, 9], List.range 11])], []⟩
def h112 : Hints := ⟨[(0, List.range 5), (1, [7, 8])], [], [(1, [[], [], [1], [1, 2], [0, 1, 2, 3], [], List.range 6, [], [], [8], [7, 8, 9], [], [7, 8, 9, 10, 11], List.range 7, List.range 14])], []⟩
def h113 : Hints := ⟨[(0, [0, 1]), (1, [0, 1, 7, 8]), (2, [0, 1, 7, 8, 9]), (3, [0, 1, 5, 7, 8]), (4, [0, 1, 5, 7, 8, 16]), (5, [4]), (6, [0, 1, 7, 8]), (7, [4])], [(0, [0, 1, 7, 8])], [], []⟩
def h114 : Hints := ⟨[(0, [1, 2, 4]), (1, [1, 2, 4, 8, 9]), (2, [1, 2, 4, 8, 9, 10]), (3, [1, 2, 4, 5, 8, 9]), (4, [1, 2, 4, 8, 9]), (5, [1, 2, 4, 8, 9]), (6, [4])], [(0, [1, 2, 4, 8, 9])], [], []⟩
def h115 : Hints := ⟨[(0, [1, 2, 4]), (1, [1, 4, 9, 10, 11]), (2, [1, 4, 9, 10, 11, 12]), (3, [1, 4, 6, 9, 10, 11]), (4, [1, 4, 9, 10, 11]), (5, [1, 4, 9, 10, 11]), (6, [4])], [(0, [1, 4, 9, 10, 11])], [], []⟩
def h116 : Hints := ⟨[(0, [1, 2, 3, 4]), (1, [2, 3, 4, 8, 9]), (2, [2, 3, 4, 8, 9, 10]), (3, [2, 3, 4, 5, 8, 9]), (4, [2, 3, 4, 5, 8, 9, 15]), (5, [2, 3, 4, 5, 6, 8, 9]), (6, [2, 3, 4, 5, 6, 7, 8, 9]), (7, [2, 3, 4, 5, 6, 7, 8, 9, 26]), (8, [2, 3, 4, 5, 7, 8, 9]), (9, [2, 3, 4, 5, 8, 9, 35]), (10, [2, 3, 4, 8, 9])], [(0, [2, 3, 4, 8, 9]), (2, [2, 3, 4, 5, 8, 9])], [(8, [[], [0], [], [0, 1], [0, 1, 3], List.range 5, List.range 6])], []⟩
def h117 : Hints := ⟨[(0, [1, 2]), (1, [1, 2, 4]), (2, [1, 2, 4, 5]), (3, [1, 2, 4, 5, 10, 11]), (4, [1, 2, 4, 5, 10, 11, 12]), (5, [1, 2, 4, 5, 6, 10, 11]), (6, [1, 2, 4, 5, 6, 10, 11, 17]), (7, [1, 2, 4, 5, 6, 10, 11]), (8, [1, 2, 4, 5, 6, 7, 10, 11]), (9, [1, 2, 4, 5, 6, 7, 10, 11, 33]), (10, [1, 2, 4, 5, 6, 7, 10, 11]), (11, [1, 2, 4, 5, 10, 11, 41]), (12, [1, 2, 4, 5, 10, 11]), (13, [1, 2, 43]), (14, [])], [(0, [1, 2, 4, 5, 10, 11]), (2, [1, 2, 4, 5, 6, 7, 10, 11])], [], []⟩
def h121 : Hints := ⟨[(0, [1, 3, 5, 6]), (1, [1, 3, 5, 6, 7]), (2, [1, 3, 5, 6, 7]), (3, [3, 5, 6, 7, 21]), (4, [3, 5, 6, 7, 8]), (5, [3, 5, 6, 7, 8, 23, 24, 25]), (6, [3, 5, 6, 7, 8, 23, 24, 25, 26]), (7, [3, 5, 6, 7, 8, 9, 10, 23, 24, 25]), (8, [3, 5, 6, 7, 8, 10, 23, 24, 25, 54]), (9, [3, 5, 6, 7, 8, 23, 24, 25]), (10, [3, 5, 6, 7, 8, 23, 24, 25]), (11, [3, 5, 6, 7]), (12, [6])], [(0, [3, 5, 6, 7]), (2, [3, 5, 6, 7, 8, 23, 24, 25])], [(8, [[], [0], [0, 1], [0, 1, 2], [0, 1, 2], List.range 5, List.range 6, List.range 7, List.range 8, List.range 9, List.range 10, List.range 11, List.range 9, List.range 13, List.range 14, List.range 15, List.range 9, [0, 1, 2, 3, 4, 5, 6, 7, 8, 16], [0, 1, 2, 3, 4, 5, 6, 7, 8, 16, 17], List.range 9, [0, 1, 2, 3, 4, 5, 6, 7, 8, 16, 17, 18, 19], [0, 1, 2, 3, 4, 5, 6, 7, 8, 16, 17, 18, 19, 20], [0, 1, 2, 3, 4, 5, 6, 7, 8, 16, 17, 18, 19, 20, 21], List.range 23, List.range 24]), (9, [[], [], [], [], [2, 3], [2, 3, 4], [], [6], [2, 3, 4, 5, 6, 7], List.range 9, List.range 10]), (11, [[], [], [], [1, 2], [1, 2, 3], List.range 5, List.range 6])], []⟩
def h129 : Hints := ⟨[(0, [1, 2]), (1, [3])], [], [], []⟩
def h130 : Hints := ⟨[(0, [0, 1]), (1, [4])], [], [], []⟩
def h131 : Hints := ⟨[(0, [0]), (1, [0]), (2, [0]), (3, [0]), (4, [2])], [], [], []⟩
def h132 : Hints := ⟨[(0, [1, 2, 4]), (1, [1, 4, 5, 6]), (2, [1, 4, 5, 6]), (3, [1, 4, 5, 7]), (4, [1, 4, 5, 7, 17]), (5, [4, 5]), (6, [1, 4, 7, 22]), (7, [4, 5]), (8, [4, 27]), (9, [4, 5]), (10, [4, 5])], [], [], []⟩
def h133 : Hints := ⟨[(0, [1, 2]), (1, [1, 2, 5]), (2, [1, 2, 5, 16, 17]), (3, [1, 2, 5, 16, 17, 18]), (4, [1, 2, 5, 6, 16, 17]), (5, [1, 2, 5, 16, 17]), (6, [1, 2, 5, 16, 17]), (7, [1, 2, 5, 26, 27]), (8, [1, 2, 5, 26, 27, 28]), (9, [1, 2, 5, 7, 26, 27]), (10, [1, 2, 5, 7, 8, 26, 27]), (11, [1, 2, 7, 8, 26, 27, 32]), (12, [1, 2, 7, 8, 26, 27, 32, 34]), (13, [1, 2, 7, 8, 9, 10, 26, 27, 32]), (14, [1, 2, 7, 8, 9, 10, 26, 27, 32, 42]), (15, [1, 2, 7, 8, 26, 27, 32]), (16, [1, 2, 5, 26, 27]), (17, [1, 2, 5, 26, 27]), (18, [4])], [(0, [1, 2, 5, 16, 17]), (2, [1, 2, 5, 26, 27]), (4, [1, 2, 7, 8, 26, 27, 32])], [], []⟩
def h144 : Hints := ⟨[(0, [0, 1, 2]), (1, [4])], [], [], []⟩
def h145 : Hints := ⟨[(0, [0, 1, 4]), (1, [0, 1, 4]), (2, [4])], [], [], []⟩
def h146 : Hints := ⟨[(0, [0, 1, 2]), (1, [0, 1, 2, 7]), (2, [0, 1, 16]), (3, [6]), (4, [20]), (5, [6]), (6, [6])], [], [], []⟩
def h147 : Hints := ⟨[(0, [0, 3]), (1, [0, 3, 14]), (2, [38]), (3, [4]), (4, [4]), (5, [0, 3, 5, 6]), (6, [0, 3, 5, 48]), (7, [4]), (8, [0, 3, 7]), (9, [0, 3, 7, 50, 51]), (10, [0, 3, 7, 50, 51, 52]), (11, [0, 3, 7, 9, 50, 51]), (12, [0, 3, 7, 9, 10, 11, 50, 51]), (13, [0, 3, 7, 9, 10, 50, 51, 61]), (14, [0, 3, 7, 50, 51]), (15, [0, 3, 7, 50, 51]), (16, [7]), (17, [4])], [(0, [0, 3, 7, 50, 51])], [(2, [[], [0], [0, 1], [0, 1, 2], [0, 1, 2, 3], List.range 5, [0, 1, 2, 3], [0, 1, 2, 3, 6], [0, 1, 2, 3, 6, 7], [0, 1, 2, 3, 6, 7, 8], List.range 10, List.range 11, List.range 12, List.range 13, List.range 12, [0, 1, 2, 3, 4, 5, 6, 7, 8, 9, 10, 11, 14], List.range 16, List.range 12, [0, 1, 2, 3, 4, 5, 6, 7, 8, 9, 10, 11, 17], [0, 1, 2, 3, 4, 5, 6, 7, 8, 9, 10, 11, 17, 18], [0, 1, 2, 3, 4, 5, 6, 7, 8, 9, 10, 11, 17, 18, 19], List.range 21, List.range 22, List.range 23]), (5, [[], [0], [0, 1], [0, 1, 2], [], List.range 5, List.range 6, List.range 7, List.range 7, List.range 8, List.range 10]), (14, [[], [], [], [2], [], [1, 2, 3, 4], [], [], [1, 2, 3, 4, 5, 6, 7], [1, 2, 3, 4, 5, 6, 7, 8], List.range 10, List.range 11]), (16, [[], [0], [0, 1], [0, 1, 2], [], [], List.range 6])], []⟩
def h148 : Hints := ⟨[(0, [0]), (1, [3]), (2, [2]), (3, [2])], [], [], []⟩
def h149 : Hints := ⟨[(0, [0, 2, 4, 6]), (1, [0, 2, 4, 6, 8]), (2, [0, 4, 6, 8, 16]), (3, [0, 6, 8]), (4, [0, 4, 6, 8, 25]), (5, [0, 6, 8]), (6, [6, 7])], [], [(6, [[], [], [1], [], [3], [3, 4], [3, 4, 5], [1, 2, 3, 4, 5, 6], [0], List.range 9])], []⟩
def h150 : Hints := ⟨[(0, [0, 1]), (1, [3])], [], [(1, [[], [], [0, 1], [0, 1, 2], [], [], [], [6], [5, 6, 7], [5, 6, 7, 8], [], [10], [5, 6, 7, 8, 9, 10, 11], [4, 5, 6, 7, 8, 9, 10, 11, 12], [4, 5, 6, 7, 8, 9, 10, 11, 12, 13], List.range 15, List.range 16])], []⟩
def h153 : Hints := ⟨[(0, [2, 3]), (1, [4])], [], [], []⟩
def h156 : Hints := ⟨[(0, [0, 1]), (1, [0, 1, 7, 8]), (2, [0, 1, 7, 8, 9]), (3, [0, 1, 5, 7, 8]), (4, [0, 1, 5, 7, 8, 16]), (5, [4]), (6, [0, 1, 7, 8]), (7, [4])], [(0, [0, 1, 7, 8])], [], []⟩
def h157 : Hints := ⟨[(0, [0]), (1, [0]), (2, [0]), (3, [2])], [], [], []⟩
def h158 : Hints := ⟨[(0, [0, 1]), (1, [3])], [], [], []⟩
def h159 : Hints := ⟨[(0, [1, 2, 3]), (1, [6])], [], [(1, [[], [0], [], [0, 1, 2], [0, 1, 2, 3], List.range 5, List.range 6, List.range 7, List.range 8, List.range 7, List.range 10, List.range 11, List.range 7, [0, 1, 2, 3, 4, 5, 6, 12], List.range 7, [0, 1, 2, 3, 4, 5, 6, 12, 13, 14], List.range 16, List.range 17, List.range 18])], []⟩
def h160 : Hints := ⟨[(0, [1, 3, 4, 5, 7]), (1, [1, 3, 4, 5, 7, 12]), (2, [1, 3, 4, 5, 7, 12, 13]), (3, [1, 3, 4, 5, 7, 10, 12]), (4, [1, 3, 4, 5, 7, 11, 12]), (5, [1, 3, 4, 5, 7, 11, 12, 30]), (6, [1, 3, 4, 5, 7, 12]), (7, [1, 3, 4, 5, 7, 12])], [(0, [1, 3, 4, 5, 7, 12])], [(4, [[], [0], [], [2], [], List.range 5, [], [6], [], [0, 1, 2, 3, 4, 5, 8], List.range 10, List.range 11, [], List.range 13]), (6, [[], [], [0, 1], [], [0, 1, 2, 3], [0, 1, 3], [0, 1, 3, 5], List.range 7])], []⟩
def h165 : Hints := ⟨[(0, [0, 1, 2, 8, 9]), (1, [0, 1, 2, 8, 9, 10]), (2, [0, 1, 2, 4, 8, 9]), (3, [0, 1, 2, 8, 9, 18]), (4, [0, 1, 2, 8, 9])], [(0, [0, 1, 2, 8, 9])], [], []⟩
def h167 : Hints := ⟨[(0, [0]), (1, [4]), (2, [2]), (3, [2])], [], [], []⟩
def F : Nat → Option AFn
  | 6 => some a6
  | 8 => some a8
  | 13 => some a13
  | 14 => some a14
  | 15 => some a15
  | 16 => some a16
  | 17 => some a17
  | 29 => some a29
  | 30 => some a30
  | 31 => some a31
  | 32 => some a32
  | 36 => some a36
  | 41 => some a41
  | 42 => some a42
  | 43 => some a43
  | 44 => some a44
  | 45 => some a45
  | 46 => some a46
  | 47 => some a47
  | 48 => some a48
  | 58 => some a58
  | 61 => some a61
  | 62 => some a62
  | 63 => some a63
  | 64 => some a64
  | 65 => some a65
  | 66 => some a66
  | 67 => some a67
  | 68 => some a68
  | 69 => some a69
  | 70 => some a70
  | 71 => some a71
  | 72 => some a72
  | 79 => some a79
  | 80 => some a80
  | 88 => some a88
  | 89 => some a89
  | 90 => some a90
  | 91 => some a91
  | 107 => some a107
  | 108 => some a108
  | 109 => some a109
  | 110 => some a110
  | 111 => some a111
  | 112 => some a112
  | 113 => some a113
  | 114 => some a114
  | 115 => some a115
  | 116 => some a116
  | 117 => some a117
  | 121 => some a121
  | 129 => some a129
  | 130 => some a130
  | 131 => some a131
  | 132 => some a132
  | 133 => some a133
  | 144 => some a144
  | 145 => some a145
  | 146 => some a146
  | 147 => some a147
  | 148 => some a148
  | 149 => some a149
  | 150 => some a150
  | 153 => some a153
  | 156 => some a156
  | 157 => some a157
  | 158 => some a158
  | 159 => some a159
  | 160 => some a160
  | 165 => some a165
  | 167 => some a167
  | _ => none
theorem c6 : compFn Try.prog bor h6 Try.f6 = some a6 := by kernel_rfl
theorem c8 : compFn Try.prog bor h8 Try.f8 = some a8 := by kernel_rfl
theorem c13 : compFn Try.prog bor h13 Try.f13 = some a13 := by kernel_rfl
theorem c14 : compFn Try.prog bor h14 Try.f14 = some a14 := by kernel_rfl
theorem c15 : compFn Try.prog bor h15 Try.f15 = some a15 := by kernel_rfl
theorem c16 : compFn Try.prog bor h16 Try.f16 = some a16 := by kernel_rfl
theorem c17 : compFn Try.prog bor h17 Try.f17 = some a17 := by kernel_rfl
theorem c29 : compFn Try.prog bor h29 Try.f29 = some a29 := by kernel_rfl
theorem c30 : compFn Try.prog bor h30 Try.f30 = some a30 := by kernel_rfl
theorem c31 : compFn Try.prog bor h31 Try.f31 = some a31 := by kernel_rfl
theorem c32 : compFn Try.prog bor h32 Try.f32 = some a32 := by kernel_rfl
theorem c36 : compFn Try.prog bor h36 Try.f36 = some a36 := by kernel_rfl
theorem c41 : compFn Try.prog bor h41 Try.f41 = some a41 := by kernel_rfl
theorem c42 : compFn Try.prog bor h42 Try.f42 = some a42 := by kernel_rfl
theorem c43 : compFn Try.prog bor h43 Try.f43 = some a43 := by kernel_rfl
theorem c44 : compFn Try.prog bor h44 Try.f44 = some a44 := by kernel_rfl
theorem c45 : compFn Try.prog bor h45 Try.f45 = some a45 := by kernel_rfl
theorem c46 : compFn Try.prog bor h46 Try.f46 = some a46 := by kernel_rfl
theorem c47 : compFn Try.prog bor h47 Try.f47 = some a47 := by kernel_rfl
theorem c48 : compFn Try.prog bor h48 Try.f48 = some a48 := by kernel_rfl
theorem c58 : compFn Try.prog bor h58 Try.f58 = some a58 := by kernel_rfl
theorem c61 : compFn Try.prog bor h61 Try.f61 = some a61 := by kernel_rfl
theorem c62 : compFn Try.prog bor h62 Try.f62 = some a62 := by kernel_rfl
theorem c63 : compFn Try.prog bor h63 Try.f63 = some a63 := by kernel_rfl
theorem c64 : compFn Try.prog bor h64 Try.f64 = some a64 := by kernel_rfl
theorem c65 : compFn Try.prog bor h65 Try.f65 = some a65 := by kernel_rfl
theorem c66 : compFn Try.prog bor h66 Try.f66 = some a66 := by kernel_rfl
theorem c67 : compFn Try.prog bor h67 Try.f67 = some a67 := by kernel_rfl
theorem c68 : compFn Try.prog bor h68 Try.f68 = some a68 := by kernel_rfl
theorem c69 : compFn Try.prog bor h69 Try.f69 = some a69 := by kernel_rfl
theorem c70 : compFn Try.prog bor h70 Try.f70 = some a70 := by kernel_rfl
theorem c71 : compFn Try.prog bor h71 Try.f71 = some a71 := by kernel_rfl
theorem c72 : compFn Try.prog bor h72 Try.f72 = some a72 := by kernel_rfl
theorem c79 : compFn Try.prog bor h79 Try.f79 = some a79 := by kernel_rfl
theorem c80 : compFn Try.prog bor h80 Try.f80 = some a80 := by kernel_rfl
theorem c88 : compFn Try.prog bor h88 Try.f88 = some a88 := by kernel_rfl
theorem c89 : compFn Try.prog bor h89 Try.f89 = some a89 := by kernel_rfl
theorem c90 : compFn Try.prog bor h90 Try.f90 = some a90 := by kernel_rfl
theorem c91 : compFn Try.prog bor h91 Try.f91 = some a91 := by kernel_rfl
theorem c107 : compFn Try.prog bor h107 Try.f107 = some a107 := by kernel_rfl
theorem c108 : compFn Try.prog bor h108 Try.f108 = some a108 := by kernel_rfl
theorem c109 : compFn Try.prog bor h109 Try.f109 = some a109 := by kernel_rfl
theorem c110 : compFn Try.prog bor h110 Try.f110 = some a110 := by kernel_rfl
theorem c111 : compFn Try.prog bor h111 Try.f111 = some a111 := by kernel_rfl
theorem c112 : compFn Try.prog bor h112 Try.f112 = some a112 := by kernel_rfl
theorem c113 : compFn Try.prog bor h113 Try.f113 = some a113 := by kernel_rfl
theorem c114 : compFn Try.prog bor h114 Try.f114 = some a114 := by kernel_rfl
theorem c115 : compFn Try.prog bor h115 Try.f115 = some a115 := by kernel_rfl
theorem c116 : compFn Try.prog bor h116 Try.f116 = some a116 := by kernel_rfl
theorem c117 : compFn Try.prog bor h117 Try.f117 = some a117 := by kernel_rfl
theorem c121 : compFn Try.prog bor h121 Try.f121 = some a121 := by kernel_rfl
theorem c129 : compFn Try.prog bor h129 Try.f129 = some a129 := by kernel_rfl
theorem c130 : compFn Try.prog bor h130 Try.f130 = some a130 := by kernel_rfl
theorem c131 : compFn Try.prog bor h131 Try.f131 = some a131 := by kernel_rfl
theorem c132 : compFn Try.prog bor h132 Try.f132 = some a132 := by kernel_rfl
theorem c133 : compFn Try.prog bor h133 Try.f133 = some a133 := by kernel_rfl
theorem c144 : compFn Try.prog bor h144 Try.f144 = some a144 := by kernel_rfl
theorem c145 : compFn Try.prog bor h145 Try.f145 = some a145 := by kernel_rfl
theorem c146 : compFn Try.prog bor h146 Try.f146 = some a146 := by kernel_rfl
theorem c147 : compFn Try.prog bor h147 Try.f147 = some a147 := by kernel_rfl
theorem c148 : compFn Try.prog bor h148 Try.f148 = some a148 := by kernel_rfl
theorem c149 : compFn Try.prog bor h149 Try.f149 = some a149 := by kernel_rfl
theorem c150 : compFn Try.prog bor h150 Try.f150 = some a150 := by kernel_rfl
theorem c153 : compFn Try.prog bor h153 Try.f153 = some a153 := by kernel_rfl
theorem c156 : compFn Try.prog bor h156 Try.f156 = some a156 := by kernel_rfl
theorem c157 : compFn Try.prog bor h157 Try.f157 = some a157 := by kernel_rfl
theorem c158 : compFn Try.prog bor h158 Try.f158 = some a158 := by kernel_rfl
theorem c159 : compFn Try.prog bor h159 Try.f159 = some a159 := by kernel_rfl
theorem c160 : compFn Try.prog bor h160 Try.f160 = some a160 := by kernel_rfl
theorem c165 : compFn Try.prog bor h165 Try.f165 = some a165 := by kernel_rfl
theorem c167 : compFn Try.prog bor h167 Try.f167 = some a167 := by kernel_rfl
theorem F_ok (f : Nat) (afn : AFn) (h : F f = some afn) : ∃ fn hh, Try.prog.funcs[f]? = some fn ∧ compFn Try.prog bor hh fn = some afn := by
  unfold F at h
  split at h
  · cases h; exact ⟨_, _, Try.func6, c6⟩
  · cases h; exact ⟨_, _, Try.func8, c8⟩
  · cases h; exact ⟨_, _, Try.func13, c13⟩
  · cases h; exact ⟨_, _, Try.func14, c14⟩
  · cases h; exact ⟨_, _, Try.func15, c15⟩
  · cases h; exact ⟨_, _, Try.func16, c16⟩
  · cases h; exact ⟨_, _, Try.func17, c17⟩
  · cases h; exact ⟨_, _, Try.func29, c29⟩
  · cases h; exact ⟨_, _, Try.func30, c30⟩
  · cases h; exact ⟨_, _, Try.func31, c31⟩
  · cases h; exact ⟨_, _, Try.func32, c32⟩
  · cases h; exact ⟨_, _, Try.func36, c36⟩
  · cases h; exact ⟨_, _, Try.func41, c41⟩
  · cases h; exact ⟨_, _, Try.func42, c42⟩
  · cases h; exact ⟨_, _, Try.func43, c43⟩
  · cases h; exact ⟨_, _, Try.func44, c44⟩
  · cases h; exact ⟨_, _, Try.func45, c45⟩
  · cases h; exact ⟨_, _, Try.func46, c46⟩
  · cases h; exact ⟨_, _, Try.func47, c47⟩
  · cases h; exact ⟨_, _, Try.func48, c48⟩
  · cases h; exact ⟨_, _, Try.func58, c58⟩
  · cases h; exact ⟨_, _, Try.func61, c61⟩
  · cases h; exact ⟨_, _, Try.func62, c62⟩
  · cases h; exact ⟨_, _, Try.func63, c63⟩
  · cases h; exact ⟨_, _, Try.func64, c64⟩
  · cases h; exact ⟨_, _, Try.func65, c65⟩
  · cases h; exact ⟨_, _, Try.func66, c66⟩
  · cases h; exact ⟨_, _, Try.func67, c67⟩
  · cases h; exact ⟨_, _, Try.func68, c68⟩
  · cases h; exact ⟨_, _, Try.func69, c69⟩
  · cases h; exact ⟨_, _, Try.func70, c70⟩
  · cases h; exact ⟨_, _, Try.func71, c71⟩
  · cases h; exact ⟨_, _, Try.func72, c72⟩
  · cases h; exact ⟨_, _, Try.func79, c79⟩
  · cases h; exact ⟨_, _, Try.func80, c80⟩
  · cases h; exact ⟨_, _, Try.func88, c88⟩
  · cases h; exact ⟨_, _, Try.func89, c89⟩
  · cases h; exact ⟨_, _, Try.func90, c90⟩
  · cases h; exact ⟨_, _, Try.func91, c91⟩
  · cases h; exact ⟨_, _, Try.func107, c107⟩
  · cases h; exact ⟨_, _, Try.func108, c108⟩
  · cases h; exact ⟨_, _, Try.func109, c109⟩
  · cases h; exact ⟨_, _, Try.func110, c110⟩
  · cases h; exact ⟨_, _, Try.func111, c111⟩
  · cases h; exact ⟨_, _, Try.func112, c112⟩
  · cases h; exact ⟨_, _, Try.func113, c113⟩
  · cases h; exact ⟨_, _, Try.func114, c114⟩
  · cases h; exact ⟨_, _, Try.func115, c115⟩
  · cases h; exact ⟨_, _, Try.func116, c116⟩
  · cases h; exact ⟨_, _, Try.func117, c117⟩
  · cases h; exact ⟨_, _, Try.func121, c121⟩
  · cases h; exact ⟨_, _, Try.func129, c129⟩
  · cases h; exact ⟨_, _, Try.func130, c130⟩
  · cases h; exact ⟨_, _, Try.func131, c131⟩
  · cases h; exact ⟨_, _, Try.func132, c132⟩
  · cases h; exact ⟨_, _, Try.func133, c133⟩
  · cases h; exact ⟨_, _, Try.func144, c144⟩
  · cases h; exact ⟨_, _, Try.func145, c145⟩
  · cases h; exact ⟨_, _, Try.func146, c146⟩
  · cases h; exact ⟨_, _, Try.func147, c147⟩
  · cases h; exact ⟨_, _, Try.func148, c148⟩
  · cases h; exact ⟨_, _, Try.func149, c149⟩
  · cases h; exact ⟨_, _, Try.func150, c150⟩
  · cases h; exact ⟨_, _, Try.func153, c153⟩
  · cases h; exact ⟨_, _, Try.func156, c156⟩
  · cases h; exact ⟨_, _, Try.func157, c157⟩
  · cases h; exact ⟨_, _, Try.func158, c158⟩
  · cases h; exact ⟨_, _, Try.func159, c159⟩
  · cases h; exact ⟨_, _, Try.func160, c160⟩
  · cases h; exact ⟨_, _, Try.func165, c165⟩
  · cases h; exact ⟨_, _, Try.func167, c167⟩
  · cases h
end Go.Abs
