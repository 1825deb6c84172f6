/-
  Plans for the regions that draw their order: by our program pls.py.
-/
import Derived.Test.YtconldbakjfbhaaSy34
open Go Go.SY
namespace Go.Proofs.Ytconldbakjfbhaa
def pl3 : List (Nat × Plan) := [(24, [(0, []), (2, []), (3, []), (4, []), (5, []), (1, [5]), (6, [])])]
def pl6 : List (Nat × Plan) := [(14, [(0, []), (1, []), (2, []), (3, []), (4, []), (5, []), (6, []), (7, []), (8, []), (9, []), (10, []), (11, []), (12, []), (13, []), (14, []), (15, []), (16, []), (17, []), (18, []), (19, []), (20, []), (21, []), (22, []), (23, []), (24, []), (25, []), (26, []), (27, []), (28, []), (29, []), (30, []), (31, []), (32, [])])]
def pl7 : List (Nat × Plan) := [(10, [(0, []), (2, []), (3, []), (4, []), (5, []), (1, [5]), (6, [])]), (15, [(0, []), (1, []), (2, []), (3, []), (4, []), (6, []), (7, []), (8, []), (9, []), (10, []), (5, [10]), (11, []), (12, []), (13, [])])]
def pl12 : List (Nat × Plan) := [(5, [(0, []), (1, []), (2, []), (3, []), (4, []), (5, []), (6, []), (7, []), (8, []), (9, [])])]
def pl15 : List (Nat × Plan) := [(14, [(0, []), (1, []), (2, []), (3, []), (4, []), (5, []), (6, []), (7, []), (8, []), (9, []), (10, []), (11, []), (12, []), (13, []), (14, []), (15, [])])]
def pl17 : List (Nat × Plan) := [(7, [(0, []), (1, []), (2, []), (3, []), (4, []), (5, []), (6, []), (7, []), (8, []), (9, []), (10, []), (11, []), (12, []), (13, []), (14, []), (15, []), (16, []), (17, []), (18, [])])]
def pl18 : List (Nat × Plan) := [(2, [(0, []), (1, []), (2, []), (3, []), (4, []), (5, []), (6, []), (7, []), (8, []), (9, [])]), (4, [(0, []), (1, []), (2, []), (3, []), (4, []), (5, []), (6, []), (7, []), (8, []), (9, []), (10, []), (11, [])])]
def pls : Pls := [(3, pl3), (6, pl6), (7, pl7), (12, pl12), (15, pl15), (17, pl17), (18, pl18)]
theorem plA3 (id : Nat) : plOf pls 3 id = plk pl3 id := rfl
theorem plA6 (id : Nat) : plOf pls 6 id = plk pl6 id := rfl
theorem plA7 (id : Nat) : plOf pls 7 id = plk pl7 id := rfl
theorem plA12 (id : Nat) : plOf pls 12 id = plk pl12 id := rfl
theorem plA15 (id : Nat) : plOf pls 15 id = plk pl15 id := rfl
theorem plA17 (id : Nat) : plOf pls 17 id = plk pl17 id := rfl
theorem plA18 (id : Nat) : plOf pls 18 id = plk pl18 id := rfl
def pts : Pts := []
end Go.Proofs.Ytconldbakjfbhaa
