/-
  The types of the translation, as a tree; held against the program by the kernel.
-/
import Derived.Test.YtkaonbolpaedmaaEngA
import Derived.Test.YtkaonbolpaedmaaRows
namespace Go.Proofs.Ytkaonbolpaedmaa
open Eng

def T : Tab := (.node 37 ⟨.struct [(0, 3), (1, 3), (2, 3), (3, 4), (4, 4)], 5, 32⟩ (.node 21 ⟨.int .i32, 1, 4⟩ (.node 9 ⟨.str, 1, 16⟩ (.node 4 ⟨.bool, 1, 1⟩ (.node 2 ⟨.int .i64, 1, 8⟩ (.node 1 ⟨.func, 1, 8⟩ .leaf .leaf) (.node 3 ⟨.int .i64, 1, 8⟩ .leaf .leaf)) (.node 6 ⟨.int .u8, 1, 1⟩ (.node 5 ⟨.int .u8, 1, 1⟩ .leaf .leaf) .leaf)) (.node 15 ⟨.ptr 54, 1, 8⟩ (.node 11 ⟨.str, 1, 16⟩ (.node 10 ⟨.str, 1, 16⟩ .leaf .leaf) (.node 12 ⟨.int .u64, 1, 8⟩ .leaf .leaf)) (.node 17 ⟨.ptr 66, 1, 8⟩ (.node 16 ⟨.ptr 57, 1, 8⟩ .leaf .leaf) .leaf))) (.node 30 ⟨.func, 1, 8⟩ (.node 25 ⟨.int .i64, 1, 8⟩ (.node 23 ⟨.func, 1, 8⟩ (.node 22 ⟨.slice 33, 1, 24⟩ .leaf .leaf) (.node 24 ⟨.ptr 47, 1, 8⟩ .leaf .leaf)) (.node 28 ⟨.ptr 38, 1, 8⟩ (.node 27 ⟨.func, 1, 8⟩ .leaf .leaf) .leaf)) (.node 33 ⟨.struct [(0, 3), (1, 3)], 2, 16⟩ (.node 32 ⟨.struct [(0, 3), (1, 3)], 2, 16⟩ (.node 31 ⟨.func, 1, 8⟩ .leaf .leaf) .leaf) (.node 36 ⟨.func, 1, 8⟩ (.node 34 ⟨.func, 1, 8⟩ .leaf .leaf) .leaf)))) (.node 50 ⟨.func, 1, 8⟩ (.node 44 ⟨.func, 1, 8⟩ (.node 41 ⟨.slice 4, 1, 24⟩ (.node 39 ⟨.func, 1, 8⟩ (.node 38 ⟨.struct [(0, 3), (1, 3), (2, 3), (3, 4), (4, 4)], 5, 32⟩ .leaf .leaf) (.node 40 ⟨.func, 1, 8⟩ .leaf .leaf)) (.node 43 ⟨.func, 1, 8⟩ (.node 42 ⟨.func, 1, 8⟩ .leaf .leaf) .leaf)) (.node 47 ⟨.struct [(0, 3), (1, 3), (2, 3), (3, 4), (4, 4)], 5, 32⟩ (.node 46 ⟨.struct [(0, 3), (1, 3), (2, 3), (3, 4), (4, 4)], 5, 32⟩ (.node 45 ⟨.func, 1, 8⟩ .leaf .leaf) .leaf) (.node 49 ⟨.func, 1, 8⟩ (.node 48 ⟨.int .u64, 1, 8⟩ .leaf .leaf) .leaf))) (.node 61 ⟨.func, 1, 8⟩ (.node 58 ⟨.int .u32, 1, 4⟩ (.node 52 ⟨.func, 1, 8⟩ (.node 51 ⟨.slice 3, 1, 24⟩ .leaf .leaf) (.node 55 ⟨.arr 0 16, 0, 0⟩ .leaf .leaf)) (.node 60 ⟨.int .u8, 1, 1⟩ (.node 59 ⟨.int .u8, 1, 1⟩ .leaf .leaf) .leaf)) (.node 64 ⟨.int .i32, 1, 4⟩ (.node 63 ⟨.int .i32, 1, 4⟩ (.node 62 ⟨.ptr 5, 1, 8⟩ .leaf .leaf) .leaf) (.node 66 ⟨.struct [(0, 12), (1, 12), (2, 58), (3, 59), (4, 5), (5, 5), (6, 60), (7, 61), (8, 62), (9, 63), (10, 64)], 11, 48⟩ (.node 65 ⟨.struct [(0, 12), (1, 12), (2, 58), (3, 59), (4, 5), (5, 5), (6, 60), (7, 61), (8, 62), (9, 63), (10, 64)], 11, 48⟩ .leaf .leaf) .leaf)))))

set_option maxRecDepth 100000 in
theorem tabOk : TabOk Try.prog T := ⟨by kernel_rfl, by kernel_rfl, by kernel_rfl, by kernel_rfl⟩
theorem mixed : Try.prog.follows .mixedOrders = true := by kernel_rfl

end Go.Proofs.Ytkaonbolpaedmaa
