/-
  Plans for the regions that draw their order: by our program pls.py.
-/
import Derived.Test.YtdoeopcimhpjaaaSd
open Go Go.SY
namespace Go.Proofs.Ytdoeopcimhpjaaa
def pl11 : List (Nat × Plan) := [(7, [(0, []), (1, []), (5, []), (2, [0]), (3, [0]), (4, []), (6, []), (7, [])]), (8, [(0, []), (1, []), (2, []), (3, [])])]
def pl13 : List (Nat × Plan) := [(6, [(0, []), (1, []), (2, []), (3, []), (4, []), (5, []), (6, []), (7, []), (8, []), (9, [])])]
def pl16 : List (Nat × Plan) := [(7, [(0, []), (1, []), (2, [0]), (3, [])])]
def pl31 : List (Nat × Plan) := [(7, [(0, []), (2, []), (3, []), (1, [3]), (4, []), (5, [])])]
def pl37 : List (Nat × Plan) := [(5, [(0, []), (2, []), (3, []), (4, []), (5, []), (1, [2, 5]), (6, []), (7, [])])]
def pl39 : List (Nat × Plan) := [(1, [(0, []), (1, []), (2, []), (3, []), (4, []), (5, []), (6, []), (7, []), (8, []), (9, []), (10, []), (11, []), (12, []), (13, []), (14, []), (15, []), (16, []), (17, []), (18, []), (19, []), (20, []), (21, []), (22, [])])]
def pls : Pls := [(11, pl11), (13, pl13), (16, pl16), (31, pl31), (37, pl37), (39, pl39)]
theorem plA11 (id : Nat) : plOf pls 11 id = plk pl11 id := rfl
theorem plA13 (id : Nat) : plOf pls 13 id = plk pl13 id := rfl
theorem plA16 (id : Nat) : plOf pls 16 id = plk pl16 id := rfl
theorem plA31 (id : Nat) : plOf pls 31 id = plk pl31 id := rfl
theorem plA37 (id : Nat) : plOf pls 37 id = plk pl37 id := rfl
theorem plA39 (id : Nat) : plOf pls 39 id = plk pl39 id := rfl
def pts : Pts := []
end Go.Proofs.Ytdoeopcimhpjaaa
