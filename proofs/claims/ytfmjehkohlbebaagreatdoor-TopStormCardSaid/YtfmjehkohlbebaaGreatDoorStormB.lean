/-
  TopStorm is true at every input: out of the runs. No conditions.
-/
import Derived.Test.YtfmjehkohlbebaaGreatDoorStormR0
import Derived.Test.YtfmjehkohlbebaaGreatDoorStormR1
import Derived.Test.YtfmjehkohlbebaaGreatDoorStormR2
import Derived.Test.YtfmjehkohlbebaaGreatDoorStormR3
import Derived.Test.YtfmjehkohlbebaaGreatDoorStormR4
import Derived.Test.YtfmjehkohlbebaaGreatDoorStormR5
import Derived.Test.YtfmjehkohlbebaaGreatDoorStormR6
import Derived.Test.YtfmjehkohlbebaaGreatDoorStormR7
import Derived.Test.YtfmjehkohlbebaaGreatDoorStormR8
import Derived.Test.YtfmjehkohlbebaaGreatDoorStormR9
import Derived.Test.YtfmjehkohlbebaaGreatDoorStormC
set_option linter.unusedVariables false
set_option maxRecDepth 100000
namespace Go.Proofs.YtfmjehkohlbebaaGreatDoor.topStorm
open Go Eng Den Ast
theorem runs : ∀ g r : Nat, g < 30 → r < 200 → ∃ a b, a ≤ r ∧ r ≤ b ∧ run g a b = true := fun g r hg h =>
  match g, hg with
  | 0, _ => if h0 : r < 50 then ⟨0, 49, by omega, by omega, r0_0⟩ else if h50 : r < 100 then ⟨50, 99, by omega, by omega, r0_50⟩ else if h100 : r < 150 then ⟨100, 149, by omega, by omega, r0_100⟩ else ⟨150, 199, by omega, by omega, r0_150⟩
  | 1, _ => if h0 : r < 50 then ⟨0, 49, by omega, by omega, r1_0⟩ else if h50 : r < 100 then ⟨50, 99, by omega, by omega, r1_50⟩ else if h100 : r < 150 then ⟨100, 149, by omega, by omega, r1_100⟩ else ⟨150, 199, by omega, by omega, r1_150⟩
  | 2, _ => if h0 : r < 50 then ⟨0, 49, by omega, by omega, r2_0⟩ else if h50 : r < 100 then ⟨50, 99, by omega, by omega, r2_50⟩ else if h100 : r < 150 then ⟨100, 149, by omega, by omega, r2_100⟩ else ⟨150, 199, by omega, by omega, r2_150⟩
  | 3, _ => if h0 : r < 50 then ⟨0, 49, by omega, by omega, r3_0⟩ else if h50 : r < 100 then ⟨50, 99, by omega, by omega, r3_50⟩ else if h100 : r < 150 then ⟨100, 149, by omega, by omega, r3_100⟩ else ⟨150, 199, by omega, by omega, r3_150⟩
  | 4, _ => if h0 : r < 50 then ⟨0, 49, by omega, by omega, r4_0⟩ else if h50 : r < 100 then ⟨50, 99, by omega, by omega, r4_50⟩ else if h100 : r < 150 then ⟨100, 149, by omega, by omega, r4_100⟩ else ⟨150, 199, by omega, by omega, r4_150⟩
  | 5, _ => if h0 : r < 50 then ⟨0, 49, by omega, by omega, r5_0⟩ else if h50 : r < 100 then ⟨50, 99, by omega, by omega, r5_50⟩ else if h100 : r < 150 then ⟨100, 149, by omega, by omega, r5_100⟩ else ⟨150, 199, by omega, by omega, r5_150⟩
  | 6, _ => if h0 : r < 50 then ⟨0, 49, by omega, by omega, r6_0⟩ else if h50 : r < 100 then ⟨50, 99, by omega, by omega, r6_50⟩ else if h100 : r < 150 then ⟨100, 149, by omega, by omega, r6_100⟩ else ⟨150, 199, by omega, by omega, r6_150⟩
  | 7, _ => if h0 : r < 50 then ⟨0, 49, by omega, by omega, r7_0⟩ else if h50 : r < 100 then ⟨50, 99, by omega, by omega, r7_50⟩ else if h100 : r < 150 then ⟨100, 149, by omega, by omega, r7_100⟩ else ⟨150, 199, by omega, by omega, r7_150⟩
  | 8, _ => if h0 : r < 50 then ⟨0, 49, by omega, by omega, r8_0⟩ else if h50 : r < 100 then ⟨50, 99, by omega, by omega, r8_50⟩ else if h100 : r < 150 then ⟨100, 149, by omega, by omega, r8_100⟩ else ⟨150, 199, by omega, by omega, r8_150⟩
  | 9, _ => if h0 : r < 50 then ⟨0, 49, by omega, by omega, r9_0⟩ else if h50 : r < 100 then ⟨50, 99, by omega, by omega, r9_50⟩ else if h100 : r < 150 then ⟨100, 149, by omega, by omega, r9_100⟩ else ⟨150, 199, by omega, by omega, r9_150⟩
  | 10, _ => if h0 : r < 50 then ⟨0, 49, by omega, by omega, r10_0⟩ else if h50 : r < 100 then ⟨50, 99, by omega, by omega, r10_50⟩ else if h100 : r < 150 then ⟨100, 149, by omega, by omega, r10_100⟩ else ⟨150, 199, by omega, by omega, r10_150⟩
  | 11, _ => if h0 : r < 50 then ⟨0, 49, by omega, by omega, r11_0⟩ else if h50 : r < 100 then ⟨50, 99, by omega, by omega, r11_50⟩ else if h100 : r < 150 then ⟨100, 149, by omega, by omega, r11_100⟩ else ⟨150, 199, by omega, by omega, r11_150⟩
  | 12, _ => if h0 : r < 50 then ⟨0, 49, by omega, by omega, r12_0⟩ else if h50 : r < 100 then ⟨50, 99, by omega, by omega, r12_50⟩ else if h100 : r < 150 then ⟨100, 149, by omega, by omega, r12_100⟩ else ⟨150, 199, by omega, by omega, r12_150⟩
  | 13, _ => if h0 : r < 50 then ⟨0, 49, by omega, by omega, r13_0⟩ else if h50 : r < 100 then ⟨50, 99, by omega, by omega, r13_50⟩ else if h100 : r < 150 then ⟨100, 149, by omega, by omega, r13_100⟩ else ⟨150, 199, by omega, by omega, r13_150⟩
  | 14, _ => if h0 : r < 50 then ⟨0, 49, by omega, by omega, r14_0⟩ else if h50 : r < 100 then ⟨50, 99, by omega, by omega, r14_50⟩ else if h100 : r < 150 then ⟨100, 149, by omega, by omega, r14_100⟩ else ⟨150, 199, by omega, by omega, r14_150⟩
  | 15, _ => if h0 : r < 50 then ⟨0, 49, by omega, by omega, r15_0⟩ else if h50 : r < 100 then ⟨50, 99, by omega, by omega, r15_50⟩ else if h100 : r < 150 then ⟨100, 149, by omega, by omega, r15_100⟩ else ⟨150, 199, by omega, by omega, r15_150⟩
  | 16, _ => if h0 : r < 50 then ⟨0, 49, by omega, by omega, r16_0⟩ else if h50 : r < 100 then ⟨50, 99, by omega, by omega, r16_50⟩ else if h100 : r < 150 then ⟨100, 149, by omega, by omega, r16_100⟩ else ⟨150, 199, by omega, by omega, r16_150⟩
  | 17, _ => if h0 : r < 50 then ⟨0, 49, by omega, by omega, r17_0⟩ else if h50 : r < 100 then ⟨50, 99, by omega, by omega, r17_50⟩ else if h100 : r < 150 then ⟨100, 149, by omega, by omega, r17_100⟩ else ⟨150, 199, by omega, by omega, r17_150⟩
  | 18, _ => if h0 : r < 50 then ⟨0, 49, by omega, by omega, r18_0⟩ else if h50 : r < 100 then ⟨50, 99, by omega, by omega, r18_50⟩ else if h100 : r < 150 then ⟨100, 149, by omega, by omega, r18_100⟩ else ⟨150, 199, by omega, by omega, r18_150⟩
  | 19, _ => if h0 : r < 50 then ⟨0, 49, by omega, by omega, r19_0⟩ else if h50 : r < 100 then ⟨50, 99, by omega, by omega, r19_50⟩ else if h100 : r < 150 then ⟨100, 149, by omega, by omega, r19_100⟩ else ⟨150, 199, by omega, by omega, r19_150⟩
  | 20, _ => if h0 : r < 50 then ⟨0, 49, by omega, by omega, r20_0⟩ else if h50 : r < 100 then ⟨50, 99, by omega, by omega, r20_50⟩ else if h100 : r < 150 then ⟨100, 149, by omega, by omega, r20_100⟩ else ⟨150, 199, by omega, by omega, r20_150⟩
  | 21, _ => if h0 : r < 50 then ⟨0, 49, by omega, by omega, r21_0⟩ else if h50 : r < 100 then ⟨50, 99, by omega, by omega, r21_50⟩ else if h100 : r < 150 then ⟨100, 149, by omega, by omega, r21_100⟩ else ⟨150, 199, by omega, by omega, r21_150⟩
  | 22, _ => if h0 : r < 50 then ⟨0, 49, by omega, by omega, r22_0⟩ else if h50 : r < 100 then ⟨50, 99, by omega, by omega, r22_50⟩ else if h100 : r < 150 then ⟨100, 149, by omega, by omega, r22_100⟩ else ⟨150, 199, by omega, by omega, r22_150⟩
  | 23, _ => if h0 : r < 50 then ⟨0, 49, by omega, by omega, r23_0⟩ else if h50 : r < 100 then ⟨50, 99, by omega, by omega, r23_50⟩ else if h100 : r < 150 then ⟨100, 149, by omega, by omega, r23_100⟩ else ⟨150, 199, by omega, by omega, r23_150⟩
  | 24, _ => if h0 : r < 50 then ⟨0, 49, by omega, by omega, r24_0⟩ else if h50 : r < 100 then ⟨50, 99, by omega, by omega, r24_50⟩ else if h100 : r < 150 then ⟨100, 149, by omega, by omega, r24_100⟩ else ⟨150, 199, by omega, by omega, r24_150⟩
  | 25, _ => if h0 : r < 50 then ⟨0, 49, by omega, by omega, r25_0⟩ else if h50 : r < 100 then ⟨50, 99, by omega, by omega, r25_50⟩ else if h100 : r < 150 then ⟨100, 149, by omega, by omega, r25_100⟩ else ⟨150, 199, by omega, by omega, r25_150⟩
  | 26, _ => if h0 : r < 50 then ⟨0, 49, by omega, by omega, r26_0⟩ else if h50 : r < 100 then ⟨50, 99, by omega, by omega, r26_50⟩ else if h100 : r < 150 then ⟨100, 149, by omega, by omega, r26_100⟩ else ⟨150, 199, by omega, by omega, r26_150⟩
  | 27, _ => if h0 : r < 50 then ⟨0, 49, by omega, by omega, r27_0⟩ else if h50 : r < 100 then ⟨50, 99, by omega, by omega, r27_50⟩ else if h100 : r < 150 then ⟨100, 149, by omega, by omega, r27_100⟩ else ⟨150, 199, by omega, by omega, r27_150⟩
  | 28, _ => if h0 : r < 50 then ⟨0, 49, by omega, by omega, r28_0⟩ else if h50 : r < 100 then ⟨50, 99, by omega, by omega, r28_50⟩ else if h100 : r < 150 then ⟨100, 149, by omega, by omega, r28_100⟩ else ⟨150, 199, by omega, by omega, r28_150⟩
  | 29, _ => if h0 : r < 50 then ⟨0, 49, by omega, by omega, r29_0⟩ else if h50 : r < 100 then ⟨50, 99, by omega, by omega, r29_50⟩ else if h100 : r < 150 then ⟨100, 149, by omega, by omega, r29_100⟩ else ⟨150, 199, by omega, by omega, r29_150⟩
  | _ + 30, hg => absurd hg (by omega)
theorem w (W0 : World) (a0 a1 : Int) : Does W0 Tryz.prog 4 #[.int .i64 a0, .int .i64 a1] [] fun v _ => v = .bool true := by
  have b0 := lowZ_bd a0 30 (by omega)
  have b1 := lowZ_bd a1 200 (by omega)
  obtain ⟨a, b, h1, h2, h3⟩ := runs (lowZ a0 30).toNat (lowZ a1 200).toNat (by omega) (by omega)
  have e : ((lowZ a0 30).toNat : Int) = lowZ a0 30 := by omega
  exact of W0 a0 a1 (lowZ a0 30).toNat a b (lowZ a1 200).toNat e.symm (by omega) h1 h2 h3
end Go.Proofs.YtfmjehkohlbebaaGreatDoor.topStorm
