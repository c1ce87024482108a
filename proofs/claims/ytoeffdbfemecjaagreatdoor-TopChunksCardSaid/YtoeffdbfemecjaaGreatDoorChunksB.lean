/-
  TopChunks is true at every input: out of the runs. No conditions.
-/
import Derived.Test.YtoeffdbfemecjaaGreatDoorChunksR0
import Derived.Test.YtoeffdbfemecjaaGreatDoorChunksR1
import Derived.Test.YtoeffdbfemecjaaGreatDoorChunksR2
import Derived.Test.YtoeffdbfemecjaaGreatDoorChunksR3
import Derived.Test.YtoeffdbfemecjaaGreatDoorFT
set_option linter.unusedVariables false
namespace Go.Proofs.YtoeffdbfemecjaaGreatDoor.topChunks
open Go Eng Den
theorem runs : ∀ x, x < 46 → Bs x = true
  | 0, _ => r0
  | 1, _ => r1
  | 2, _ => r2
  | 3, _ => r3
  | 4, _ => r4
  | 5, _ => r5
  | 6, _ => r6
  | 7, _ => r7
  | 8, _ => r8
  | 9, _ => r9
  | 10, _ => r10
  | 11, _ => r11
  | 12, _ => r12
  | 13, _ => r13
  | 14, _ => r14
  | 15, _ => r15
  | 16, _ => r16
  | 17, _ => r17
  | 18, _ => r18
  | 19, _ => r19
  | 20, _ => r20
  | 21, _ => r21
  | 22, _ => r22
  | 23, _ => r23
  | 24, _ => r24
  | 25, _ => r25
  | 26, _ => r26
  | 27, _ => r27
  | 28, _ => r28
  | 29, _ => r29
  | 30, _ => r30
  | 31, _ => r31
  | 32, _ => r32
  | 33, _ => r33
  | 34, _ => r34
  | 35, _ => r35
  | 36, _ => r36
  | 37, _ => r37
  | 38, _ => r38
  | 39, _ => r39
  | 40, _ => r40
  | 41, _ => r41
  | 42, _ => r42
  | 43, _ => r43
  | 44, _ => r44
  | 45, _ => r45
  | n + 46, h => absurd h (by omega)

/-- What the unknown number stands for. -/
def rho (r : Nat) : Rho
  | .z => some (r, 0)
  | _ => none
theorem start (r : Nat) : MR (rho r) .lf (.a .z) [] where
  old := fun b x h => by
    cases b <;> first | (cases h; done) | (show 0 < 1; omega)
  live := fun b h => by
    have : Mm.at .lf b = .dead := Tr.get_lf _ _
    rw [this] at h; exact h.elim
  inj := fun b b' r c c' h => by
    have : Mm.at .lf b = .dead := Tr.get_lf _ _
    rw [this] at h; exact h.elim

theorem of (W0 : World) (a0 : Int) (x0 : Nat) (r : Nat) (h0 : lowZ a0 46 = x0) (h : Bs x0 = true) : Does W0 Tryz.prog 4 #[.int .i64 a0] [] fun v _ => v = .bool true := by
  obtain ⟨v, M', nx', hE, _, h2⟩ := calls W0 60 Ast.s4 _ _ _ _ h (by kernel_rfl)
  refine (h2 (rho r) [] [.int .i64 a0] ⟨_, _, rfl, ⟨a0, rfl, h0⟩, rfl⟩ (start r)).mono fun u C' hC' => ?_
  obtain ⟨ρ', _, _, _, hu⟩ := hC'
  exact end_true (M := M') (nx := nx') hE hu
theorem w (W0 : World) (a0 : Int) : Does W0 Tryz.prog 4 #[.int .i64 a0] [] fun v _ => v = .bool true := by
  have b0 := lowZ_bd a0 46 (by omega)
  exact of W0 a0 (lowZ a0 46).toNat 0 (by omega) (runs _ (by omega))
end Go.Proofs.YtoeffdbfemecjaaGreatDoor.topChunks
