/- The table of types. -/
import Derived.Test.YtmpcninebooaiaaChecked
import Derived.KernelRfl
import Derived.Test.YtmpcninebooaiaaE6
set_option linter.unusedVariables false
set_option linter.unusedSimpArgs false
namespace Go.Proofs.Ytmpcninebooaiaa.Tt
open Go.Ev Go
set_option maxRecDepth 100000

def tab : Tab := [
  (2, ⟨.sc (.int .i64), 1, [(.int .i64)]⟩),
  (3, ⟨.sc (.int .i64), 1, [(.int .i64)]⟩),
  (4, ⟨.sc .bool, 1, [.bool]⟩),
  (5, ⟨.sc (.int .u8), 1, [(.int .u8)]⟩),
  (6, ⟨.sc (.int .u8), 1, [(.int .u8)]⟩),
  (7, ⟨.struct [(0, 2), (1, 3), (2, 4), (3, 6)], 4, [(.int .i64), (.int .i64)] ++ [.bool] ++ [(.int .u8)]⟩),
  (8, ⟨.struct [(0, 2), (1, 3), (2, 4), (3, 6)], 4, [(.int .i64), (.int .i64)] ++ [.bool] ++ [(.int .u8)]⟩),
  (9, ⟨.str, 1, []⟩),
  (10, ⟨.str, 1, []⟩),
  (11, ⟨.str, 1, []⟩),
  (12, ⟨.sc (.int .u64), 1, [(.int .u64)]⟩),
  (13, ⟨.struct [(0, 9), (1, 12)], 2, []⟩),
  (14, ⟨.struct [(0, 9), (1, 12)], 2, []⟩),
  (15, ⟨.ptr 168, 1, []⟩),
  (16, ⟨.ptr 171, 1, []⟩),
  (17, ⟨.ptr 180, 1, []⟩),
  (18, ⟨.struct [(0, 17)], 1, []⟩),
  (19, ⟨.struct [(0, 17)], 1, []⟩),
  (21, ⟨.sc (.int .i32), 1, [(.int .i32)]⟩),
  (22, ⟨.sc (.int .i8), 1, [(.int .i8)]⟩),
  (23, ⟨.arr 10 5, 10, List.replicate 10 (.int .u8)⟩),
  (24, ⟨.arr 10 23, 100, List.replicate 100 (.int .u8)⟩),
  (25, ⟨.struct [(0, 22), (1, 22), (2, 24)], 102, [(.int .i8), (.int .i8)] ++ List.replicate 100 (.int .u8)⟩),
  (26, ⟨.struct [(0, 22), (1, 22), (2, 24)], 102, [(.int .i8), (.int .i8)] ++ List.replicate 100 (.int .u8)⟩),
  (27, ⟨.struct [(0, 22), (1, 22)], 2, [(.int .i8), (.int .i8)]⟩),
  (28, ⟨.struct [(0, 22), (1, 22)], 2, [(.int .i8), (.int .i8)]⟩),
  (29, ⟨.struct [(0, 28), (2, 22)], 3, [(.int .i8), (.int .i8), (.int .i8)]⟩),
  (30, ⟨.struct [(0, 28), (2, 22)], 3, [(.int .i8), (.int .i8), (.int .i8)]⟩),
  (33, ⟨.struct [(0, 22), (1, 22), (2, 24)], 102, [(.int .i8), (.int .i8)] ++ List.replicate 100 (.int .u8)⟩),
  (37, ⟨.arr 5 22, 5, [(.int .i8), (.int .i8), (.int .i8), (.int .i8), (.int .i8)]⟩),
  (40, ⟨.arr 5 22, 5, [(.int .i8), (.int .i8), (.int .i8), (.int .i8), (.int .i8)]⟩),
  (46, ⟨.fnB 26, 1, []⟩),
  (47, ⟨.slice 28, 1, []⟩),
  (52, ⟨.struct [(0, 22), (1, 22)], 2, [(.int .i8), (.int .i8)]⟩),
  (57, ⟨.arr 10 22, 10, List.replicate 10 (.int .i8)⟩),
  (58, ⟨.arr 10 57, 100, List.replicate 100 (.int .i8)⟩),
  (59, ⟨.struct [(0, 52), (2, 52), (4, 22)], 5, [(.int .i8), (.int .i8), (.int .i8), (.int .i8), (.int .i8)]⟩),
  (60, ⟨.struct [(0, 52), (2, 52), (4, 22)], 5, [(.int .i8), (.int .i8), (.int .i8), (.int .i8), (.int .i8)]⟩),
  (61, ⟨.arr 10 57, 100, List.replicate 100 (.int .i8)⟩),
  (65, ⟨.struct [(0, 28), (2, 28), (4, 22)], 5, [(.int .i8), (.int .i8), (.int .i8), (.int .i8), (.int .i8)]⟩),
  (66, ⟨.struct [(0, 28), (2, 28), (4, 22)], 5, [(.int .i8), (.int .i8), (.int .i8), (.int .i8), (.int .i8)]⟩),
  (74, ⟨.slice 30, 1, []⟩),
  (82, ⟨.fnB 83, 1, []⟩),
  (83, ⟨.ptr 33, 1, []⟩),
  (87, ⟨.fnL 4 30, 1, []⟩),
  (88, ⟨.fnB 89, 1, []⟩),
  (89, ⟨.ptr 40, 1, []⟩),
  (90, ⟨.arr 5 2, 5, [(.int .i64), (.int .i64), (.int .i64), (.int .i64), (.int .i64)]⟩),
  (91, ⟨.arr 5 2, 5, [(.int .i64), (.int .i64), (.int .i64), (.int .i64), (.int .i64)]⟩),
  (93, ⟨.fnB 33, 1, []⟩),
  (94, ⟨.fnB 40, 1, []⟩),
  (99, ⟨.fnL 102 28, 1, []⟩),
  (102, ⟨.fnB 28, 1, []⟩),
  (111, ⟨.slice 66, 1, []⟩),
  (117, ⟨.ptr 61, 1, []⟩),
  (122, ⟨.arr 10 2, 10, List.replicate 10 (.int .i64)⟩),
  (123, ⟨.arr 10 122, 100, List.replicate 100 (.int .i64)⟩),
  (125, ⟨.slice 2, 1, []⟩),
  (130, ⟨.fnB 2, 1, []⟩),
  (137, ⟨.slice 22, 1, []⟩),
  (138, ⟨.fnB 22, 1, []⟩),
  (139, ⟨.fnL 83 28, 1, []⟩),
  (141, ⟨.fnL 28 28, 1, []⟩),
  (157, ⟨.sc (.int .u64), 1, [(.int .u64)]⟩),
  (160, ⟨.sc (.int .u32), 1, [(.int .u32)]⟩),
  (163, ⟨.sc (.int .u64), 1, [(.int .u64)]⟩),
  (167, ⟨.struct [(0, 17), (1, 17), (2, 17), (3, 9)], 4, []⟩),
  (168, ⟨.struct [(0, 17), (1, 17), (2, 17), (3, 9)], 4, []⟩),
  (173, ⟨.sc (.int .u8), 1, [(.int .u8)]⟩),
  (174, ⟨.sc (.int .u8), 1, [(.int .u8)]⟩),
  (176, ⟨.ptr 5, 1, []⟩),
  (177, ⟨.sc (.int .i32), 1, [(.int .i32)]⟩),
  (178, ⟨.sc (.int .i32), 1, [(.int .i32)]⟩),
  (179, ⟨.struct [(0, 12), (1, 12), (2, 160), (3, 173), (4, 5), (5, 5), (6, 174), (7, 175), (8, 176), (9, 177), (10, 178)], 11, []⟩),
  (180, ⟨.struct [(0, 12), (1, 12), (2, 160), (3, 173), (4, 5), (5, 5), (6, 174), (7, 175), (8, 176), (9, 177), (10, 178)], 11, []⟩)]

theorem tab_chk : chkTab Try.prog tab tab = true := by kernel_rfl
theorem tabOK : TabOK Try.prog tab := tabOK_of tab_chk
theorem eqTabOK : EqTabOK Try.prog tab := eqTabOK_of tab_chk
theorem follows : Try.prog.follows .mixedOrders = true := by kernel_rfl

end Go.Proofs.Ytmpcninebooaiaa.Tt
