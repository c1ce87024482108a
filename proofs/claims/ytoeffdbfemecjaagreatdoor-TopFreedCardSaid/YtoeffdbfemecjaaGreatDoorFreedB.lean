/-
  TopFreed is true at every input: out of the runs. No conditions.
-/
import Derived.Test.YtoeffdbfemecjaaGreatDoorFreedR0
import Derived.Test.YtoeffdbfemecjaaGreatDoorFreedR1
import Derived.Test.YtoeffdbfemecjaaGreatDoorFreedR2
import Derived.Test.YtoeffdbfemecjaaGreatDoorFreedR3
import Derived.Test.YtoeffdbfemecjaaGreatDoorFreedR4
import Derived.Test.YtoeffdbfemecjaaGreatDoorFreedR5
import Derived.Test.YtoeffdbfemecjaaGreatDoorFreedR6
import Derived.Test.YtoeffdbfemecjaaGreatDoorFreedR7
import Derived.Test.YtoeffdbfemecjaaGreatDoorFT
set_option linter.unusedVariables false
namespace Go.Proofs.YtoeffdbfemecjaaGreatDoor.topFreed
open Go Eng Den
theorem row0 : ∀ y, y < 10 → Bs 0 y = true
  | 0, _ => r0x0
  | 1, _ => r0x1
  | 2, _ => r0x2
  | 3, _ => r0x3
  | 4, _ => r0x4
  | 5, _ => r0x5
  | 6, _ => r0x6
  | 7, _ => r0x7
  | 8, _ => r0x8
  | 9, _ => r0x9
  | n + 10, h => absurd h (by omega)
theorem row1 : ∀ y, y < 10 → Bs 1 y = true
  | 0, _ => r1x0
  | 1, _ => r1x1
  | 2, _ => r1x2
  | 3, _ => r1x3
  | 4, _ => r1x4
  | 5, _ => r1x5
  | 6, _ => r1x6
  | 7, _ => r1x7
  | 8, _ => r1x8
  | 9, _ => r1x9
  | n + 10, h => absurd h (by omega)
theorem row2 : ∀ y, y < 10 → Bs 2 y = true
  | 0, _ => r2x0
  | 1, _ => r2x1
  | 2, _ => r2x2
  | 3, _ => r2x3
  | 4, _ => r2x4
  | 5, _ => r2x5
  | 6, _ => r2x6
  | 7, _ => r2x7
  | 8, _ => r2x8
  | 9, _ => r2x9
  | n + 10, h => absurd h (by omega)
theorem row3 : ∀ y, y < 10 → Bs 3 y = true
  | 0, _ => r3x0
  | 1, _ => r3x1
  | 2, _ => r3x2
  | 3, _ => r3x3
  | 4, _ => r3x4
  | 5, _ => r3x5
  | 6, _ => r3x6
  | 7, _ => r3x7
  | 8, _ => r3x8
  | 9, _ => r3x9
  | n + 10, h => absurd h (by omega)
theorem row4 : ∀ y, y < 10 → Bs 4 y = true
  | 0, _ => r4x0
  | 1, _ => r4x1
  | 2, _ => r4x2
  | 3, _ => r4x3
  | 4, _ => r4x4
  | 5, _ => r4x5
  | 6, _ => r4x6
  | 7, _ => r4x7
  | 8, _ => r4x8
  | 9, _ => r4x9
  | n + 10, h => absurd h (by omega)
theorem row5 : ∀ y, y < 10 → Bs 5 y = true
  | 0, _ => r5x0
  | 1, _ => r5x1
  | 2, _ => r5x2
  | 3, _ => r5x3
  | 4, _ => r5x4
  | 5, _ => r5x5
  | 6, _ => r5x6
  | 7, _ => r5x7
  | 8, _ => r5x8
  | 9, _ => r5x9
  | n + 10, h => absurd h (by omega)
theorem row6 : ∀ y, y < 10 → Bs 6 y = true
  | 0, _ => r6x0
  | 1, _ => r6x1
  | 2, _ => r6x2
  | 3, _ => r6x3
  | 4, _ => r6x4
  | 5, _ => r6x5
  | 6, _ => r6x6
  | 7, _ => r6x7
  | 8, _ => r6x8
  | 9, _ => r6x9
  | n + 10, h => absurd h (by omega)
theorem row7 : ∀ y, y < 10 → Bs 7 y = true
  | 0, _ => r7x0
  | 1, _ => r7x1
  | 2, _ => r7x2
  | 3, _ => r7x3
  | 4, _ => r7x4
  | 5, _ => r7x5
  | 6, _ => r7x6
  | 7, _ => r7x7
  | 8, _ => r7x8
  | 9, _ => r7x9
  | n + 10, h => absurd h (by omega)
theorem row8 : ∀ y, y < 10 → Bs 8 y = true
  | 0, _ => r8x0
  | 1, _ => r8x1
  | 2, _ => r8x2
  | 3, _ => r8x3
  | 4, _ => r8x4
  | 5, _ => r8x5
  | 6, _ => r8x6
  | 7, _ => r8x7
  | 8, _ => r8x8
  | 9, _ => r8x9
  | n + 10, h => absurd h (by omega)
theorem row9 : ∀ y, y < 10 → Bs 9 y = true
  | 0, _ => r9x0
  | 1, _ => r9x1
  | 2, _ => r9x2
  | 3, _ => r9x3
  | 4, _ => r9x4
  | 5, _ => r9x5
  | 6, _ => r9x6
  | 7, _ => r9x7
  | 8, _ => r9x8
  | 9, _ => r9x9
  | n + 10, h => absurd h (by omega)
theorem row10 : ∀ y, y < 10 → Bs 10 y = true
  | 0, _ => r10x0
  | 1, _ => r10x1
  | 2, _ => r10x2
  | 3, _ => r10x3
  | 4, _ => r10x4
  | 5, _ => r10x5
  | 6, _ => r10x6
  | 7, _ => r10x7
  | 8, _ => r10x8
  | 9, _ => r10x9
  | n + 10, h => absurd h (by omega)
theorem row11 : ∀ y, y < 10 → Bs 11 y = true
  | 0, _ => r11x0
  | 1, _ => r11x1
  | 2, _ => r11x2
  | 3, _ => r11x3
  | 4, _ => r11x4
  | 5, _ => r11x5
  | 6, _ => r11x6
  | 7, _ => r11x7
  | 8, _ => r11x8
  | 9, _ => r11x9
  | n + 10, h => absurd h (by omega)
theorem row12 : ∀ y, y < 10 → Bs 12 y = true
  | 0, _ => r12x0
  | 1, _ => r12x1
  | 2, _ => r12x2
  | 3, _ => r12x3
  | 4, _ => r12x4
  | 5, _ => r12x5
  | 6, _ => r12x6
  | 7, _ => r12x7
  | 8, _ => r12x8
  | 9, _ => r12x9
  | n + 10, h => absurd h (by omega)
theorem row13 : ∀ y, y < 10 → Bs 13 y = true
  | 0, _ => r13x0
  | 1, _ => r13x1
  | 2, _ => r13x2
  | 3, _ => r13x3
  | 4, _ => r13x4
  | 5, _ => r13x5
  | 6, _ => r13x6
  | 7, _ => r13x7
  | 8, _ => r13x8
  | 9, _ => r13x9
  | n + 10, h => absurd h (by omega)
theorem row14 : ∀ y, y < 10 → Bs 14 y = true
  | 0, _ => r14x0
  | 1, _ => r14x1
  | 2, _ => r14x2
  | 3, _ => r14x3
  | 4, _ => r14x4
  | 5, _ => r14x5
  | 6, _ => r14x6
  | 7, _ => r14x7
  | 8, _ => r14x8
  | 9, _ => r14x9
  | n + 10, h => absurd h (by omega)
theorem row15 : ∀ y, y < 10 → Bs 15 y = true
  | 0, _ => r15x0
  | 1, _ => r15x1
  | 2, _ => r15x2
  | 3, _ => r15x3
  | 4, _ => r15x4
  | 5, _ => r15x5
  | 6, _ => r15x6
  | 7, _ => r15x7
  | 8, _ => r15x8
  | 9, _ => r15x9
  | n + 10, h => absurd h (by omega)
theorem row16 : ∀ y, y < 10 → Bs 16 y = true
  | 0, _ => r16x0
  | 1, _ => r16x1
  | 2, _ => r16x2
  | 3, _ => r16x3
  | 4, _ => r16x4
  | 5, _ => r16x5
  | 6, _ => r16x6
  | 7, _ => r16x7
  | 8, _ => r16x8
  | 9, _ => r16x9
  | n + 10, h => absurd h (by omega)
theorem row17 : ∀ y, y < 10 → Bs 17 y = true
  | 0, _ => r17x0
  | 1, _ => r17x1
  | 2, _ => r17x2
  | 3, _ => r17x3
  | 4, _ => r17x4
  | 5, _ => r17x5
  | 6, _ => r17x6
  | 7, _ => r17x7
  | 8, _ => r17x8
  | 9, _ => r17x9
  | n + 10, h => absurd h (by omega)
theorem row18 : ∀ y, y < 10 → Bs 18 y = true
  | 0, _ => r18x0
  | 1, _ => r18x1
  | 2, _ => r18x2
  | 3, _ => r18x3
  | 4, _ => r18x4
  | 5, _ => r18x5
  | 6, _ => r18x6
  | 7, _ => r18x7
  | 8, _ => r18x8
  | 9, _ => r18x9
  | n + 10, h => absurd h (by omega)
theorem row19 : ∀ y, y < 10 → Bs 19 y = true
  | 0, _ => r19x0
  | 1, _ => r19x1
  | 2, _ => r19x2
  | 3, _ => r19x3
  | 4, _ => r19x4
  | 5, _ => r19x5
  | 6, _ => r19x6
  | 7, _ => r19x7
  | 8, _ => r19x8
  | 9, _ => r19x9
  | n + 10, h => absurd h (by omega)
theorem runs : ∀ x, x < 20 → ∀ y, y < 10 → Bs x y = true
  | 0, _ => row0
  | 1, _ => row1
  | 2, _ => row2
  | 3, _ => row3
  | 4, _ => row4
  | 5, _ => row5
  | 6, _ => row6
  | 7, _ => row7
  | 8, _ => row8
  | 9, _ => row9
  | 10, _ => row10
  | 11, _ => row11
  | 12, _ => row12
  | 13, _ => row13
  | 14, _ => row14
  | 15, _ => row15
  | 16, _ => row16
  | 17, _ => row17
  | 18, _ => row18
  | 19, _ => row19
  | n + 20, h => absurd h (by omega)

/-- What the unknown number stands for. -/
def rho (r : Nat) : Rho
  | .z => some (r, 0)
  | _ => none
theorem start (r : Nat) : MR (rho r) .lf (.a .z) [] where
  old := fun b x h => by
    cases b <;> first | (cases h; done) | (show 0 < 1; omega)
  live := fun b h => by
    have : Mm.at .lf b = .dead := Tr.get_lf _ _
    rw [this] at h; exact h.elim
  inj := fun b b' r c c' h => by
    have : Mm.at .lf b = .dead := Tr.get_lf _ _
    rw [this] at h; exact h.elim

theorem of (W0 : World) (a0 a1 : Int) (x0 x1 : Nat) (r : Nat) (h0 : lowZ a0 20 = x0) (h1 : lowZ a1 10 = x1) (h : Bs x0 x1 = true) : Does W0 Tryz.prog 3 #[.int .i64 a0, .int .i64 a1] [] fun v _ => v = .bool true := by
  obtain ⟨v, M', nx', hE, _, _, h2⟩ := calls W0 60 Ast.s3 _ _ _ _ h
  refine (h2 (rho r) [] [.int .i64 a0, .int .i64 a1] ⟨_, _, rfl, ⟨a0, rfl, h0⟩, ⟨_, _, rfl, ⟨a1, rfl, h1⟩, rfl⟩⟩ (start r)).mono fun u C' hC' => ?_
  obtain ⟨ρ', _, _, _, hu⟩ := hC'
  exact end_true (M := M') (nx := nx') hE hu
theorem w (W0 : World) (a0 a1 : Int) : Does W0 Tryz.prog 3 #[.int .i64 a0, .int .i64 a1] [] fun v _ => v = .bool true := by
  have b0 := lowZ_bd a0 20 (by omega)
  have b1 := lowZ_bd a1 10 (by omega)
  exact of W0 a0 a1 (lowZ a0 20).toNat (lowZ a1 10).toNat 0 (by omega) (by omega) (runs _ (by omega) _ (by omega))
end Go.Proofs.YtoeffdbfemecjaaGreatDoor.topFreed
