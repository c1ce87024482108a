/-
  The types of the translation, as a tree; held against the program by the kernel.
-/
import Derived.Test.YtkcabcejnikihaaEngA
import Derived.Test.YtkcabcejnikihaaRows
namespace Go.Proofs.Ytkcabcejnikihaa
open Eng

def T : Tab := (.node 35 ⟨.func, 1, 8⟩ (.node 21 ⟨.int .i32, 1, 4⟩ (.node 9 ⟨.str, 1, 16⟩ (.node 4 ⟨.bool, 1, 1⟩ (.node 2 ⟨.int .i64, 1, 8⟩ (.node 1 ⟨.func, 1, 8⟩ .leaf .leaf) (.node 3 ⟨.int .i64, 1, 8⟩ .leaf .leaf)) (.node 6 ⟨.int .u8, 1, 1⟩ (.node 5 ⟨.int .u8, 1, 1⟩ .leaf .leaf) .leaf)) (.node 15 ⟨.ptr 52, 1, 8⟩ (.node 11 ⟨.str, 1, 16⟩ (.node 10 ⟨.str, 1, 16⟩ .leaf .leaf) (.node 12 ⟨.int .u64, 1, 8⟩ .leaf .leaf)) (.node 17 ⟨.ptr 65, 1, 8⟩ (.node 16 ⟨.ptr 55, 1, 8⟩ .leaf .leaf) .leaf))) (.node 28 ⟨.struct [(0, 3), (1, 3), (2, 3), (3, 3), (4, 3), (5, 3)], 6, 48⟩ (.node 25 ⟨.func, 1, 8⟩ (.node 23 ⟨.func, 1, 8⟩ (.node 22 ⟨.slice 39, 1, 24⟩ .leaf .leaf) (.node 24 ⟨.func, 1, 8⟩ .leaf .leaf)) (.node 27 ⟨.func, 1, 8⟩ (.node 26 ⟨.slice 29, 1, 24⟩ .leaf .leaf) .leaf)) (.node 32 ⟨.slice 36, 1, 24⟩ (.node 30 ⟨.func, 1, 8⟩ (.node 29 ⟨.struct [(0, 3), (1, 3), (2, 3), (3, 3), (4, 3), (5, 3)], 6, 48⟩ .leaf .leaf) (.node 31 ⟨.func, 1, 8⟩ .leaf .leaf)) (.node 34 ⟨.func, 1, 8⟩ (.node 33 ⟨.func, 1, 8⟩ .leaf .leaf) .leaf)))) (.node 49 ⟨.func, 1, 8⟩ (.node 42 ⟨.func, 1, 8⟩ (.node 39 ⟨.struct [(0, 3), (1, 3), (2, 3), (3, 3), (4, 3), (5, 4)], 6, 48⟩ (.node 37 ⟨.func, 1, 8⟩ (.node 36 ⟨.struct [(0, 3), (1, 3), (2, 3), (3, 3), (4, 3), (5, 3)], 6, 48⟩ .leaf .leaf) (.node 38 ⟨.struct [(0, 3), (1, 3), (2, 3), (3, 3), (4, 3), (5, 4)], 6, 48⟩ .leaf .leaf)) (.node 41 ⟨.slice 3, 1, 24⟩ (.node 40 ⟨.func, 1, 8⟩ .leaf .leaf) .leaf)) (.node 46 ⟨.slice 45, 1, 24⟩ (.node 44 ⟨.ptr 29, 1, 8⟩ (.node 43 ⟨.int .u64, 1, 8⟩ .leaf .leaf) (.node 45 ⟨.func, 1, 8⟩ .leaf .leaf)) (.node 48 ⟨.func, 1, 8⟩ (.node 47 ⟨.func, 1, 8⟩ .leaf .leaf) .leaf))) (.node 60 ⟨.func, 1, 8⟩ (.node 57 ⟨.int .u32, 1, 4⟩ (.node 53 ⟨.arr 0 16, 0, 0⟩ (.node 50 ⟨.func, 1, 8⟩ .leaf .leaf) (.node 56 ⟨.func, 1, 8⟩ .leaf .leaf)) (.node 59 ⟨.int .u8, 1, 1⟩ (.node 58 ⟨.int .u8, 1, 1⟩ .leaf .leaf) .leaf)) (.node 63 ⟨.int .i32, 1, 4⟩ (.node 62 ⟨.int .i32, 1, 4⟩ (.node 61 ⟨.ptr 5, 1, 8⟩ .leaf .leaf) .leaf) (.node 65 ⟨.struct [(0, 12), (1, 12), (2, 57), (3, 58), (4, 5), (5, 5), (6, 59), (7, 60), (8, 61), (9, 62), (10, 63)], 11, 48⟩ (.node 64 ⟨.struct [(0, 12), (1, 12), (2, 57), (3, 58), (4, 5), (5, 5), (6, 59), (7, 60), (8, 61), (9, 62), (10, 63)], 11, 48⟩ .leaf .leaf) .leaf)))))

set_option maxRecDepth 100000 in
theorem tabOk : TabOk Try.prog T := ⟨by kernel_rfl, by kernel_rfl, by kernel_rfl, by kernel_rfl⟩
theorem mixed : Try.prog.follows .mixedOrders = true := by kernel_rfl

end Go.Proofs.Ytkcabcejnikihaa
