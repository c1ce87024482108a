/-
  TopBeside is true at every input: out of the runs. No conditions.
-/
import Derived.Test.YtklnmjhldpohbaaGreatDoorR0
import Derived.Test.YtklnmjhldpohbaaGreatDoorR1
import Derived.Test.YtklnmjhldpohbaaGreatDoorR2
import Derived.Test.YtklnmjhldpohbaaGreatDoorR3
import Derived.Test.YtklnmjhldpohbaaGreatDoorR4
import Derived.Test.YtklnmjhldpohbaaGreatDoorR5
import Derived.Test.YtklnmjhldpohbaaGreatDoorR6
import Derived.Test.YtklnmjhldpohbaaGreatDoorR7
import Derived.Test.YtklnmjhldpohbaaGreatDoorFT
set_option linter.unusedVariables false
namespace Go.Proofs.YtklnmjhldpohbaaGreatDoor.topBeside
open Go Eng Den
theorem row0 : ∀ y, y < 13 → Bs 0 y = true
  | 0, _ => r0x0
  | 1, _ => r0x1
  | 2, _ => r0x2
  | 3, _ => r0x3
  | 4, _ => r0x4
  | 5, _ => r0x5
  | 6, _ => r0x6
  | 7, _ => r0x7
  | 8, _ => r0x8
  | 9, _ => r0x9
  | 10, _ => r0x10
  | 11, _ => r0x11
  | 12, _ => r0x12
  | n + 13, h => absurd h (by omega)
theorem row1 : ∀ y, y < 13 → Bs 1 y = true
  | 0, _ => r1x0
  | 1, _ => r1x1
  | 2, _ => r1x2
  | 3, _ => r1x3
  | 4, _ => r1x4
  | 5, _ => r1x5
  | 6, _ => r1x6
  | 7, _ => r1x7
  | 8, _ => r1x8
  | 9, _ => r1x9
  | 10, _ => r1x10
  | 11, _ => r1x11
  | 12, _ => r1x12
  | n + 13, h => absurd h (by omega)
theorem row2 : ∀ y, y < 13 → Bs 2 y = true
  | 0, _ => r2x0
  | 1, _ => r2x1
  | 2, _ => r2x2
  | 3, _ => r2x3
  | 4, _ => r2x4
  | 5, _ => r2x5
  | 6, _ => r2x6
  | 7, _ => r2x7
  | 8, _ => r2x8
  | 9, _ => r2x9
  | 10, _ => r2x10
  | 11, _ => r2x11
  | 12, _ => r2x12
  | n + 13, h => absurd h (by omega)
theorem row3 : ∀ y, y < 13 → Bs 3 y = true
  | 0, _ => r3x0
  | 1, _ => r3x1
  | 2, _ => r3x2
  | 3, _ => r3x3
  | 4, _ => r3x4
  | 5, _ => r3x5
  | 6, _ => r3x6
  | 7, _ => r3x7
  | 8, _ => r3x8
  | 9, _ => r3x9
  | 10, _ => r3x10
  | 11, _ => r3x11
  | 12, _ => r3x12
  | n + 13, h => absurd h (by omega)
theorem row4 : ∀ y, y < 13 → Bs 4 y = true
  | 0, _ => r4x0
  | 1, _ => r4x1
  | 2, _ => r4x2
  | 3, _ => r4x3
  | 4, _ => r4x4
  | 5, _ => r4x5
  | 6, _ => r4x6
  | 7, _ => r4x7
  | 8, _ => r4x8
  | 9, _ => r4x9
  | 10, _ => r4x10
  | 11, _ => r4x11
  | 12, _ => r4x12
  | n + 13, h => absurd h (by omega)
theorem row5 : ∀ y, y < 13 → Bs 5 y = true
  | 0, _ => r5x0
  | 1, _ => r5x1
  | 2, _ => r5x2
  | 3, _ => r5x3
  | 4, _ => r5x4
  | 5, _ => r5x5
  | 6, _ => r5x6
  | 7, _ => r5x7
  | 8, _ => r5x8
  | 9, _ => r5x9
  | 10, _ => r5x10
  | 11, _ => r5x11
  | 12, _ => r5x12
  | n + 13, h => absurd h (by omega)
theorem row6 : ∀ y, y < 13 → Bs 6 y = true
  | 0, _ => r6x0
  | 1, _ => r6x1
  | 2, _ => r6x2
  | 3, _ => r6x3
  | 4, _ => r6x4
  | 5, _ => r6x5
  | 6, _ => r6x6
  | 7, _ => r6x7
  | 8, _ => r6x8
  | 9, _ => r6x9
  | 10, _ => r6x10
  | 11, _ => r6x11
  | 12, _ => r6x12
  | n + 13, h => absurd h (by omega)
theorem row7 : ∀ y, y < 13 → Bs 7 y = true
  | 0, _ => r7x0
  | 1, _ => r7x1
  | 2, _ => r7x2
  | 3, _ => r7x3
  | 4, _ => r7x4
  | 5, _ => r7x5
  | 6, _ => r7x6
  | 7, _ => r7x7
  | 8, _ => r7x8
  | 9, _ => r7x9
  | 10, _ => r7x10
  | 11, _ => r7x11
  | 12, _ => r7x12
  | n + 13, h => absurd h (by omega)
theorem row8 : ∀ y, y < 13 → Bs 8 y = true
  | 0, _ => r8x0
  | 1, _ => r8x1
  | 2, _ => r8x2
  | 3, _ => r8x3
  | 4, _ => r8x4
  | 5, _ => r8x5
  | 6, _ => r8x6
  | 7, _ => r8x7
  | 8, _ => r8x8
  | 9, _ => r8x9
  | 10, _ => r8x10
  | 11, _ => r8x11
  | 12, _ => r8x12
  | n + 13, h => absurd h (by omega)
theorem row9 : ∀ y, y < 13 → Bs 9 y = true
  | 0, _ => r9x0
  | 1, _ => r9x1
  | 2, _ => r9x2
  | 3, _ => r9x3
  | 4, _ => r9x4
  | 5, _ => r9x5
  | 6, _ => r9x6
  | 7, _ => r9x7
  | 8, _ => r9x8
  | 9, _ => r9x9
  | 10, _ => r9x10
  | 11, _ => r9x11
  | 12, _ => r9x12
  | n + 13, h => absurd h (by omega)
theorem row10 : ∀ y, y < 13 → Bs 10 y = true
  | 0, _ => r10x0
  | 1, _ => r10x1
  | 2, _ => r10x2
  | 3, _ => r10x3
  | 4, _ => r10x4
  | 5, _ => r10x5
  | 6, _ => r10x6
  | 7, _ => r10x7
  | 8, _ => r10x8
  | 9, _ => r10x9
  | 10, _ => r10x10
  | 11, _ => r10x11
  | 12, _ => r10x12
  | n + 13, h => absurd h (by omega)
theorem row11 : ∀ y, y < 13 → Bs 11 y = true
  | 0, _ => r11x0
  | 1, _ => r11x1
  | 2, _ => r11x2
  | 3, _ => r11x3
  | 4, _ => r11x4
  | 5, _ => r11x5
  | 6, _ => r11x6
  | 7, _ => r11x7
  | 8, _ => r11x8
  | 9, _ => r11x9
  | 10, _ => r11x10
  | 11, _ => r11x11
  | 12, _ => r11x12
  | n + 13, h => absurd h (by omega)
theorem row12 : ∀ y, y < 13 → Bs 12 y = true
  | 0, _ => r12x0
  | 1, _ => r12x1
  | 2, _ => r12x2
  | 3, _ => r12x3
  | 4, _ => r12x4
  | 5, _ => r12x5
  | 6, _ => r12x6
  | 7, _ => r12x7
  | 8, _ => r12x8
  | 9, _ => r12x9
  | 10, _ => r12x10
  | 11, _ => r12x11
  | 12, _ => r12x12
  | n + 13, h => absurd h (by omega)
theorem runs : ∀ x, x < 13 → ∀ y, y < 13 → Bs x y = true
  | 0, _ => row0
  | 1, _ => row1
  | 2, _ => row2
  | 3, _ => row3
  | 4, _ => row4
  | 5, _ => row5
  | 6, _ => row6
  | 7, _ => row7
  | 8, _ => row8
  | 9, _ => row9
  | 10, _ => row10
  | 11, _ => row11
  | 12, _ => row12
  | n + 13, h => absurd h (by omega)

theorem beside_of (W0 : World) (a b : Int) (x y : Nat) (hx : lowZ a 13 = x) (hy : lowZ b 13 = y) (h : Bs x y = true) : Does W0 Tryz.prog 3 #[.int .i64 a, .int .i64 b] [] fun v _ => v = .bool true := by
  obtain ⟨v, M', nx', h1, _, _, h2⟩ := calls W0 60 Ast.s3 _ _ _ _ h
  refine (h2 (fun _ => none) [] [.int .i64 a, .int .i64 b] ⟨_, _, rfl, ⟨a, rfl, hx⟩, _, _, rfl, ⟨b, rfl, hy⟩, rfl⟩ start_ok).mono fun u C' hC' => ?_
  obtain ⟨ρ', _, _, _, hu⟩ := hC'
  exact end_true (M := M') (nx := nx') h1 hu

theorem beside_w (W0 : World) (a b : Int) : Does W0 Tryz.prog 3 #[.int .i64 a, .int .i64 b] [] fun v _ => v = .bool true := by
  have h1 := lowZ_bd a 13 (by omega)
  have h2 := lowZ_bd b 13 (by omega)
  exact beside_of W0 a b (lowZ a 13).toNat (lowZ b 13).toNat (by omega) (by omega) (runs _ (by omega) _ (by omega))
end Go.Proofs.YtklnmjhldpohbaaGreatDoor.topBeside
