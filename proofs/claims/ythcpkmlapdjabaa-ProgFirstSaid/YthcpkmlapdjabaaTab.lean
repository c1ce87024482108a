/-
  The types of the translation, as a tree; held against the program by the kernel.
-/
import Derived.Test.YthcpkmlapdjabaaEngA
import Derived.Test.YthcpkmlapdjabaaRows
namespace Go.Proofs.Ythcpkmlapdjabaa
open Eng

def T : Tab := (.node 32 ⟨.func, 1, 8⟩ (.node 17 ⟨.ptr 61, 1, 8⟩ (.node 9 ⟨.str, 1, 16⟩ (.node 4 ⟨.bool, 1, 1⟩ (.node 2 ⟨.int .i64, 1, 8⟩ (.node 1 ⟨.func, 1, 8⟩ .leaf .leaf) (.node 3 ⟨.int .i64, 1, 8⟩ .leaf .leaf)) (.node 6 ⟨.int .u8, 1, 1⟩ (.node 5 ⟨.int .u8, 1, 1⟩ .leaf .leaf) .leaf)) (.node 12 ⟨.int .u64, 1, 8⟩ (.node 11 ⟨.str, 1, 16⟩ (.node 10 ⟨.str, 1, 16⟩ .leaf .leaf) .leaf) (.node 16 ⟨.ptr 51, 1, 8⟩ (.node 15 ⟨.ptr 48, 1, 8⟩ .leaf .leaf) .leaf))) (.node 26 ⟨.func, 1, 8⟩ (.node 23 ⟨.struct [(0, 3), (1, 3), (2, 3), (3, 9), (4, 9)], 5, 56⟩ (.node 22 ⟨.struct [(0, 3), (1, 3), (2, 3), (3, 9), (4, 9)], 5, 56⟩ (.node 21 ⟨.int .i32, 1, 4⟩ .leaf .leaf) .leaf) (.node 25 ⟨.struct [(0, 3), (1, 3), (2, 3), (3, 3), (4, 23)], 9, 88⟩ (.node 24 ⟨.struct [(0, 3), (1, 3), (2, 3), (3, 3), (4, 23)], 9, 88⟩ .leaf .leaf) .leaf)) (.node 29 ⟨.slice 25, 1, 24⟩ (.node 28 ⟨.func, 1, 8⟩ (.node 27 ⟨.func, 1, 8⟩ .leaf .leaf) .leaf) (.node 31 ⟨.func, 1, 8⟩ (.node 30 ⟨.func, 1, 8⟩ .leaf .leaf) .leaf)))) (.node 46 ⟨.func, 1, 8⟩ (.node 39 ⟨.func, 1, 8⟩ (.node 35 ⟨.func, 1, 8⟩ (.node 34 ⟨.func, 1, 8⟩ (.node 33 ⟨.func, 1, 8⟩ .leaf .leaf) .leaf) (.node 37 ⟨.func, 1, 8⟩ (.node 36 ⟨.func, 1, 8⟩ .leaf .leaf) .leaf)) (.node 42 ⟨.func, 1, 8⟩ (.node 41 ⟨.func, 1, 8⟩ (.node 40 ⟨.func, 1, 8⟩ .leaf .leaf) .leaf) (.node 45 ⟨.func, 1, 8⟩ (.node 44 ⟨.func, 1, 8⟩ .leaf .leaf) .leaf))) (.node 56 ⟨.func, 1, 8⟩ (.node 53 ⟨.int .u32, 1, 4⟩ (.node 52 ⟨.func, 1, 8⟩ (.node 49 ⟨.arr 0 16, 0, 0⟩ .leaf .leaf) .leaf) (.node 55 ⟨.int .u8, 1, 1⟩ (.node 54 ⟨.int .u8, 1, 1⟩ .leaf .leaf) .leaf)) (.node 59 ⟨.int .i32, 1, 4⟩ (.node 58 ⟨.int .i32, 1, 4⟩ (.node 57 ⟨.ptr 5, 1, 8⟩ .leaf .leaf) .leaf) (.node 61 ⟨.struct [(0, 12), (1, 12), (2, 53), (3, 54), (4, 5), (5, 5), (6, 55), (7, 56), (8, 57), (9, 58), (10, 59)], 11, 48⟩ (.node 60 ⟨.struct [(0, 12), (1, 12), (2, 53), (3, 54), (4, 5), (5, 5), (6, 55), (7, 56), (8, 57), (9, 58), (10, 59)], 11, 48⟩ .leaf .leaf) .leaf)))))

set_option maxRecDepth 100000 in
theorem tabOk : TabOk Try.prog T := ⟨by kernel_rfl, by kernel_rfl, by kernel_rfl, by kernel_rfl⟩
theorem mixed : Try.prog.follows .mixedOrders = true := by kernel_rfl

end Go.Proofs.Ythcpkmlapdjabaa
