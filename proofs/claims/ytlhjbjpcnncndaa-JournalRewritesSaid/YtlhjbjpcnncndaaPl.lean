/-
  Plans for the regions that draw their order: by our program pls.py.
-/
import Derived.Test.YtlhjbjpcnncndaaSd
open Go Go.SY
namespace Go.Proofs.Ytlhjbjpcnncndaa
def pl8 : List (Nat × Plan) := [(7, [(0, []), (1, []), (2, []), (3, []), (4, []), (5, []), (6, [4]), (7, [4]), (8, []), (9, []), (10, []), (11, [])])]
def pl10 : List (Nat × Plan) := [(13, [(0, []), (1, []), (2, []), (3, []), (4, []), (5, []), (6, [0, 1, 4]), (7, [0, 1, 4]), (8, [0]), (9, []), (10, []), (11, [])])]
def pl11 : List (Nat × Plan) := [(4, [(0, []), (1, []), (2, [0]), (3, [0]), (4, []), (5, [])])]
def pl17 : List (Nat × Plan) := [(6, [(0, []), (1, []), (2, []), (3, []), (4, []), (5, []), (6, []), (7, []), (8, []), (9, [])])]
def pl22 : List (Nat × Plan) := [(5, [(0, []), (1, []), (2, []), (3, []), (4, []), (5, []), (6, []), (7, []), (8, []), (9, []), (10, []), (11, []), (12, []), (13, []), (14, []), (15, []), (16, [])]), (6, [(0, []), (1, []), (2, []), (3, []), (4, []), (5, []), (6, []), (7, []), (8, []), (9, []), (10, []), (11, []), (12, []), (13, []), (14, []), (15, []), (16, []), (17, []), (18, []), (19, []), (20, [])])]
def pl25 : List (Nat × Plan) := [(7, [(0, []), (1, []), (2, [0]), (3, [])])]
def pl31 : List (Nat × Plan) := [(1, [(0, []), (1, []), (2, []), (3, []), (4, []), (5, []), (6, [])])]
def pl37 : List (Nat × Plan) := [(7, [(0, []), (1, []), (5, []), (2, [0]), (3, [0]), (4, []), (6, []), (7, [])]), (8, [(0, []), (1, []), (2, []), (3, [])])]
def pl45 : List (Nat × Plan) := [(5, [(0, []), (1, []), (2, []), (3, []), (4, []), (5, []), (6, []), (7, []), (8, []), (9, []), (10, []), (11, []), (12, []), (13, []), (14, []), (15, []), (16, []), (17, []), (18, []), (19, []), (20, []), (21, []), (22, []), (23, [])])]
def pl53 : List (Nat × Plan) := [(0, [(0, []), (1, []), (2, []), (3, []), (4, []), (5, []), (6, [0]), (7, []), (8, []), (9, [])])]
def pl55 : List (Nat × Plan) := [(5, [(0, []), (2, []), (3, []), (4, []), (5, []), (1, [2, 5]), (6, []), (7, [])])]
def pls : Pls := [(8, pl8), (10, pl10), (11, pl11), (17, pl17), (22, pl22), (25, pl25), (31, pl31), (37, pl37), (45, pl45), (53, pl53), (55, pl55)]
theorem plA8 (id : Nat) : plOf pls 8 id = plk pl8 id := rfl
theorem plA10 (id : Nat) : plOf pls 10 id = plk pl10 id := rfl
theorem plA11 (id : Nat) : plOf pls 11 id = plk pl11 id := rfl
theorem plA17 (id : Nat) : plOf pls 17 id = plk pl17 id := rfl
theorem plA22 (id : Nat) : plOf pls 22 id = plk pl22 id := rfl
theorem plA25 (id : Nat) : plOf pls 25 id = plk pl25 id := rfl
theorem plA31 (id : Nat) : plOf pls 31 id = plk pl31 id := rfl
theorem plA37 (id : Nat) : plOf pls 37 id = plk pl37 id := rfl
theorem plA45 (id : Nat) : plOf pls 45 id = plk pl45 id := rfl
theorem plA53 (id : Nat) : plOf pls 53 id = plk pl53 id := rfl
theorem plA55 (id : Nat) : plOf pls 55 id = plk pl55 id := rfl
def pts : Pts := []
end Go.Proofs.Ytlhjbjpcnncndaa
