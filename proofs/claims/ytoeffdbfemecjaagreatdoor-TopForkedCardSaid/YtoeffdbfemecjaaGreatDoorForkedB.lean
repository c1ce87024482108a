/-
  TopForked is true at every input: out of the runs. No conditions.
-/
import Derived.Test.YtoeffdbfemecjaaGreatDoorForkedR0
import Derived.Test.YtoeffdbfemecjaaGreatDoorForkedR1
import Derived.Test.YtoeffdbfemecjaaGreatDoorFT
set_option linter.unusedVariables false
namespace Go.Proofs.YtoeffdbfemecjaaGreatDoor.topForked
open Go Eng Den
theorem runs : ∀ x, x < 8 → Bs x = true
  | 0, _ => r0
  | 1, _ => r1
  | 2, _ => r2
  | 3, _ => r3
  | 4, _ => r4
  | 5, _ => r5
  | 6, _ => r6
  | 7, _ => r7
  | n + 8, h => absurd h (by omega)

/-- What the unknown number stands for. -/
def rho (r : Nat) : Rho
  | .z => some (r, 0)
  | _ => none
theorem start (r : Nat) : MR (rho r) .lf (.a .z) [] where
  old := fun b x h => by
    cases b <;> first | (cases h; done) | (show 0 < 1; omega)
  live := fun b h => by
    have : Mm.at .lf b = .dead := Tr.get_lf _ _
    rw [this] at h; exact h.elim
  inj := fun b b' r c c' h => by
    have : Mm.at .lf b = .dead := Tr.get_lf _ _
    rw [this] at h; exact h.elim

theorem of (W0 : World) (a0 a1 : Int) (x0 : Nat) (r : Nat) (h0 : lowZ a0 8 = x0) (hs : lowZ a1 256 = r) (h : Bs x0 = true) : Does W0 Tryz.prog 6 #[.int .i64 a0, .int .i64 a1] [] fun v _ => v = .bool true := by
  obtain ⟨v, M', nx', h1, _, _, h2⟩ := calls W0 60 Ast.s6 _ _ _ _ h
  refine (h2 (rho r) [] [.int .i64 a0, .int .i64 a1] ⟨_, _, rfl, ⟨a0, rfl, h0⟩, ⟨_, _, rfl, ⟨a1, _, 0, rfl, rfl, hs⟩, rfl⟩⟩ (start r)).mono fun u C' hC' => ?_
  obtain ⟨ρ', _, _, _, hu⟩ := hC'
  exact end_true (M := M') (nx := nx') h1 hu
theorem w (W0 : World) (a0 a1 : Int) : Does W0 Tryz.prog 6 #[.int .i64 a0, .int .i64 a1] [] fun v _ => v = .bool true := by
  have b0 := lowZ_bd a0 8 (by omega)
  have b1 := lowZ_bd a1 256 (by omega)
  exact of W0 a0 a1 (lowZ a0 8).toNat (lowZ a1 256).toNat (by omega) (by omega) (runs _ (by omega))
end Go.Proofs.YtoeffdbfemecjaaGreatDoor.topForked
