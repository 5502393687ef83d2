/- The table of types. -/
import Derived.Test.YtboddfdojkgemaaChecked
import Derived.KernelRfl
import Derived.Test.YtboddfdojkgemaaE6
set_option linter.unusedVariables false
set_option linter.unusedSimpArgs false
namespace Go.Proofs.Ytboddfdojkgemaa.Tt
open Go.Ev Go
set_option maxRecDepth 100000

def tab : Tab := [
  (2, ⟨.sc (.int .i64), 1, [(.int .i64)]⟩),
  (3, ⟨.sc (.int .i64), 1, [(.int .i64)]⟩),
  (4, ⟨.sc .bool, 1, [.bool]⟩),
  (5, ⟨.sc (.int .u8), 1, [(.int .u8)]⟩),
  (6, ⟨.sc (.int .u8), 1, [(.int .u8)]⟩),
  (7, ⟨.struct [(0, 2), (1, 3), (2, 4), (3, 6)], 4, [(.int .i64), (.int .i64)] ++ [.bool] ++ [(.int .u8)]⟩),
  (8, ⟨.struct [(0, 2), (1, 3), (2, 4), (3, 6)], 4, [(.int .i64), (.int .i64)] ++ [.bool] ++ [(.int .u8)]⟩),
  (9, ⟨.str, 1, []⟩),
  (10, ⟨.str, 1, []⟩),
  (11, ⟨.str, 1, []⟩),
  (12, ⟨.sc (.int .u64), 1, [(.int .u64)]⟩),
  (13, ⟨.struct [(0, 9), (1, 12)], 2, []⟩),
  (14, ⟨.struct [(0, 9), (1, 12)], 2, []⟩),
  (15, ⟨.ptr 120, 1, []⟩),
  (16, ⟨.ptr 123, 1, []⟩),
  (17, ⟨.ptr 132, 1, []⟩),
  (18, ⟨.struct [(0, 17)], 1, []⟩),
  (19, ⟨.struct [(0, 17)], 1, []⟩),
  (21, ⟨.sc (.int .i32), 1, [(.int .i32)]⟩),
  (22, ⟨.sc (.int .i8), 1, [(.int .i8)]⟩),
  (23, ⟨.arr 10 5, 10, List.replicate 10 (.int .u8)⟩),
  (24, ⟨.arr 10 23, 100, List.replicate 100 (.int .u8)⟩),
  (25, ⟨.struct [(0, 22), (1, 22), (2, 24)], 102, [(.int .i8), (.int .i8)] ++ List.replicate 100 (.int .u8)⟩),
  (26, ⟨.struct [(0, 22), (1, 22), (2, 24)], 102, [(.int .i8), (.int .i8)] ++ List.replicate 100 (.int .u8)⟩),
  (27, ⟨.struct [(0, 22), (1, 22)], 2, [(.int .i8), (.int .i8)]⟩),
  (28, ⟨.struct [(0, 22), (1, 22)], 2, [(.int .i8), (.int .i8)]⟩),
  (31, ⟨.struct [(0, 22), (1, 22), (2, 24)], 102, [(.int .i8), (.int .i8)] ++ List.replicate 100 (.int .u8)⟩),
  (33, ⟨.struct [(0, 22), (1, 22)], 2, [(.int .i8), (.int .i8)]⟩),
  (36, ⟨.slice 47, 1, []⟩),
  (41, ⟨.fnB 26, 1, []⟩),
  (46, ⟨.ptr 31, 1, []⟩),
  (47, ⟨.slice 33, 1, []⟩),
  (49, ⟨.sc (.int .u64), 1, [(.int .u64)]⟩),
  (50, ⟨.arr 512 4, 512, List.replicate 512 .bool⟩),
  (54, ⟨.struct [(0, 33), (2, 3), (3, 9)], 4, []⟩),
  (55, ⟨.struct [(0, 33), (2, 3), (3, 9)], 4, []⟩),
  (56, ⟨.slice 55, 1, []⟩),
  (61, ⟨.map 33 3, 1, []⟩),
  (63, ⟨.struct [(0, 33), (2, 5), (3, 3)], 4, [(.int .i8), (.int .i8)] ++ [(.int .u8)] ++ [(.int .i64)]⟩),
  (64, ⟨.struct [(0, 33), (2, 5), (3, 3)], 4, [(.int .i8), (.int .i8)] ++ [(.int .u8)] ++ [(.int .i64)]⟩),
  (66, ⟨.map 64 9, 1, []⟩),
  (67, ⟨.slice 64, 1, []⟩),
  (71, ⟨.fnB 46, 1, []⟩),
  (72, ⟨.fnL 46 47, 1, []⟩),
  (75, ⟨.fnB 33, 1, []⟩),
  (76, ⟨.fnL 33 33, 1, []⟩),
  (79, ⟨.fnL 46 33, 1, []⟩),
  (82, ⟨.fnB 31, 1, []⟩),
  (83, ⟨.fnL 75 33, 1, []⟩),
  (89, ⟨.fnB 2, 1, []⟩),
  (90, ⟨.arr 10 4, 10, List.replicate 10 .bool⟩),
  (91, ⟨.arr 10 90, 100, List.replicate 100 .bool⟩),
  (92, ⟨.arr 10 2, 10, List.replicate 10 (.int .i64)⟩),
  (93, ⟨.arr 10 92, 100, List.replicate 100 (.int .i64)⟩),
  (96, ⟨.map 33 4, 1, []⟩),
  (102, ⟨.slice 2, 1, []⟩),
  (112, ⟨.sc (.int .u32), 1, [(.int .u32)]⟩),
  (115, ⟨.sc (.int .u64), 1, [(.int .u64)]⟩),
  (119, ⟨.struct [(0, 17), (1, 17), (2, 17), (3, 9)], 4, []⟩),
  (120, ⟨.struct [(0, 17), (1, 17), (2, 17), (3, 9)], 4, []⟩),
  (125, ⟨.sc (.int .u8), 1, [(.int .u8)]⟩),
  (126, ⟨.sc (.int .u8), 1, [(.int .u8)]⟩),
  (128, ⟨.ptr 5, 1, []⟩),
  (129, ⟨.sc (.int .i32), 1, [(.int .i32)]⟩),
  (130, ⟨.sc (.int .i32), 1, [(.int .i32)]⟩),
  (131, ⟨.struct [(0, 12), (1, 12), (2, 112), (3, 125), (4, 5), (5, 5), (6, 126), (7, 127), (8, 128), (9, 129), (10, 130)], 11, []⟩),
  (132, ⟨.struct [(0, 12), (1, 12), (2, 112), (3, 125), (4, 5), (5, 5), (6, 126), (7, 127), (8, 128), (9, 129), (10, 130)], 11, []⟩)]

theorem tab_chk : chkTab Try.prog tab tab = true := by kernel_rfl
theorem tabOK : TabOK Try.prog tab := tabOK_of tab_chk
theorem eqTabOK : EqTabOK Try.prog tab := eqTabOK_of tab_chk
theorem follows : Try.prog.follows .mixedOrders = true := by kernel_rfl

end Go.Proofs.Ytboddfdojkgemaa.Tt
