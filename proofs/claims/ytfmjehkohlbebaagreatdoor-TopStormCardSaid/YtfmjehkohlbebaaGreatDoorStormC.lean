/-
  TopStorm's run does what the program does. No conditions.
-/
import Derived.Test.YtfmjehkohlbebaaGreatDoorStormD
import Derived.Test.YtfmjehkohlbebaaGreatDoorFT
import Derived.Test.YtfmjehkohlbebaaGreatDoorD6
set_option linter.unusedVariables false
set_option maxRecDepth 100000
namespace Go.Proofs.YtfmjehkohlbebaaGreatDoor.topStorm
open Go Eng Den Ast

def rho (r : Nat) : Rho
  | .z => some (r, 0)
  | _ => none
theorem start (r : Nat) : MR (rho r) .lf (.a .z) [] where
  old := fun b x h => by
    cases b with
    | z => show 0 < 1; omega
    | _ => cases h
  live := fun b h => by
    have : Mm.at .lf b = .dead := Tr.get_lf _ _
    rw [this] at h; exact h.elim
  inj := fun b b' r c c' h => by
    have : Mm.at .lf b = .dead := Tr.get_lf _ _
    rw [this] at h; exact h.elim
  dgs := fun b ty ti t e q h => by
    have : Mm.at .lf b = .dead := Tr.get_lf _ _
    rw [this] at h; cases h
  one := fun b b' h => by
    have : Mm.at .lf b = .dead := Tr.get_lf _ _
    rw [this] at h; exact h.elim

theorem base {W0 : World} {n : Nat} {S : List (Den.P × Den.I)} (hS : Inj S) {A : Rho → Prop} (hA : Stays A) {c : Code} {s : Step} (h : s = stepC (trC T MT n S c).toC2) : StepP W0 Tryz.prog n S (callF FT 60) A c s := by
  subst h
  exact .base hA (stepC_ok tabOk mixed (callF_ok tabOk mixed (table W0) 60) hS (trC_ok tabOk zerosOk mtOk c))
theorem baseP {W0 : World} {n : Nat} {S : List (Den.P × Den.I)} (hS : Inj S) {A : Rho → Prop} {call : Den.Call} (hc : CallP W0 Tryz.prog A call) (hA : Stays A) {c : Code} {s : Step} (h : s = stepC (trC T MT n S c).toC2) (hni : noInvC (trC T MT n S c) = true) : StepP W0 Tryz.prog n S call A c s := by
  subst h
  exact .ofReg tabOk hc hA hS (trC_ok tabOk zerosOk mtOk c) hni
theorem i77 : Inj S77 := inj_ok (by kernel_rfl)
theorem i33 : Inj S33 := inj_ok (by kernel_rfl)
theorem i17 : Inj S17 := inj_ok (by kernel_rfl)
theorem i4 : Inj S4 := inj_ok (by kernel_rfl)
theorem playB_ok (W0 : World) (A : Rho → Prop) (hA : Stays A) : StepP W0 Tryz.prog Tryz.f77.ntmps S77 (callF FT 60) A (Tryz.f77.body.getD .skip) playB :=
  .seq (base i77 hA (by kernel_rfl)) (.seq (base i77 hA (by kernel_rfl)) (.seq (base i77 hA (by kernel_rfl)) (.seq (.seq (base i77 hA (by kernel_rfl)) (.blk (.loop (.split hA (hookP_ok ⟨s13, (by kernel_rfl)⟩) (base i77 hA (by kernel_rfl)))))) (base i77 hA (by kernel_rfl)))))
theorem cP_ok (W0 : World) : ∀ A, CallP W0 Tryz.prog A cP := aheadC_ok (f := s77) tabOk (by kernel_rfl) Tryz.func77 rfl Tryz.results77 (ent_ok (by kernel_rfl)) (by kernel_rfl) (by kernel_rfl) (trR_ok (by kernel_rfl)) (playB_ok W0) fun A => .of (callF_ok tabOk mixed (table W0) 60)
theorem runB_ok (W0 : World) (A : Rho → Prop) (hA : Stays A) : StepP W0 Tryz.prog Tryz.f33.ntmps S33 (callF FT 60) A (Tryz.f33.body.getD .skip) runB :=
  .seq (base i33 hA (by kernel_rfl)) (.seq (base i33 hA (by kernel_rfl)) (.seq (base i33 hA (by kernel_rfl)) (.seq (.withC (baseP i33 (cP_ok W0 A) hA (by kernel_rfl) (by kernel_rfl))) (base i33 hA (by kernel_rfl)))))
theorem cR_ok (W0 : World) : ∀ A, CallP W0 Tryz.prog A cR := aheadC_ok (f := s33) tabOk (by kernel_rfl) Tryz.func33 rfl Tryz.results33 (ent_ok (by kernel_rfl)) (by kernel_rfl) (by kernel_rfl) (trR_ok (by kernel_rfl)) (runB_ok W0) (cP_ok W0)
theorem showB_ok (W0 : World) (A : Rho → Prop) (hA : Stays A) : StepP W0 Tryz.prog Tryz.f17.ntmps S17 (callF FT 60) A (Tryz.f17.body.getD .skip) showB :=
  .seq (base i17 hA (by kernel_rfl)) (.seq (.withC (baseP i17 (cR_ok W0 A) hA (by kernel_rfl) (by kernel_rfl))) (base i17 hA (by kernel_rfl)))
theorem cS_ok (W0 : World) : ∀ A, CallP W0 Tryz.prog A cS := aheadC_ok (f := s17) tabOk (by kernel_rfl) Tryz.func17 rfl Tryz.results17 (ent_ok (by kernel_rfl)) (by kernel_rfl) (by kernel_rfl) (trR_ok (by kernel_rfl)) (showB_ok W0) (cR_ok W0)
theorem esL_ok (W0 : World) {A : Rho → Prop} (hA : Stays A) : StepP W0 Tryz.prog Tryz.f4.ntmps S4 (callF FT 60) A YtfmjehkohlbebaaGreatDoor.esCode (Den.esK 41 q2 q5 q7 q8 q4 esL) :=
  esK_ok hA i4 (p5 := s5) (p6 := s6) (p7 := s7) (p8 := s8) (p9 := s9) (by kernel_rfl) (by kernel_rfl) (by kernel_rfl) (by kernel_rfl) (by kernel_rfl) rfl rfl rfl rfl rfl (base i4 hA (by kernel_rfl))
theorem body_ok (W0 : World) (a b : Nat) : StepP W0 Tryz.prog Tryz.f4.ntmps S4 (callF FT 60) (InR s0 a b) (Tryz.f4.body.getD .skip) (body a b) := by
  have hA := InR.stays s0 a b
  exact .seq (base i4 hA (by kernel_rfl)) (.seq (base i4 hA (by kernel_rfl)) (.split hA hookR_ok (.split hA (hookZ_ok ⟨s6, (by kernel_rfl)⟩) (.seq (base i4 hA (by kernel_rfl)) (.seq (base i4 hA (by kernel_rfl)) (.seq (base i4 hA (by kernel_rfl)) (.seq (.seq (base i4 hA (by kernel_rfl)) (esL_ok W0 hA)) (.seq (.withC (baseP i4 (cS_ok W0 _) hA (by kernel_rfl) (by kernel_rfl))) (.split hA hookL_ok (base i4 hA (by kernel_rfl)))))))))))

theorem of (W0 : World) (a0 a1 : Int) (g a b r : Nat) (h0 : lowZ a0 30 = g) (h1 : lowZ a1 200 = r) (ha : a ≤ r) (hb : r ≤ b) (h : run g a b = true) : Does W0 Tryz.prog 4 #[.int .i64 a0, .int .i64 a1] [] fun v _ => v = .bool true := by
  refine (law_ok (A := InR s0 a b) tabOk Tryz.func4 rfl Tryz.results4 (ent_ok (by kernel_rfl)) (by kernel_rfl) (by kernel_rfl) (trR_ok (by kernel_rfl)) (body_ok W0 a b) h (ρ := rho r) (C := []) (us := [.int .i64 a0, .int .i64 a1]) ⟨r, 0, rfl, ha, hb⟩ ⟨_, _, rfl, ⟨a0, rfl, h0⟩, _, _, rfl, ⟨a1, r, 0, rfl, rfl, h1⟩, rfl⟩ (start r)).mono fun u C' hC' => ?_
  obtain ⟨v, M', nx', ρ', hE, hu⟩ := hC'
  exact end_true (M := M') (nx := nx') hE hu
end Go.Proofs.YtfmjehkohlbebaaGreatDoor.topStorm
