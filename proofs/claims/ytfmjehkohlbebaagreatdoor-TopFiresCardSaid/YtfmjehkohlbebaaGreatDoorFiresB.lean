/-
  TopFires is true at every input: out of the runs. No conditions.
-/
import Derived.Test.YtfmjehkohlbebaaGreatDoorFiresR0
import Derived.Test.YtfmjehkohlbebaaGreatDoorFiresR1
import Derived.Test.YtfmjehkohlbebaaGreatDoorFiresR2
import Derived.Test.YtfmjehkohlbebaaGreatDoorFiresR3
import Derived.Test.YtfmjehkohlbebaaGreatDoorFiresR4
import Derived.Test.YtfmjehkohlbebaaGreatDoorFiresR5
import Derived.Test.YtfmjehkohlbebaaGreatDoorFiresR6
import Derived.Test.YtfmjehkohlbebaaGreatDoorFiresR7
import Derived.Test.YtfmjehkohlbebaaGreatDoorFT
import Derived.Test.YtfmjehkohlbebaaGreatDoorD6
set_option linter.unusedVariables false
set_option maxRecDepth 100000
namespace Go.Proofs.YtfmjehkohlbebaaGreatDoor.topFires
open Go Eng Den Ast
theorem runs : ∀ r, r < 199 → ∃ a b, a ≤ r ∧ r ≤ b ∧ run a b = true := fun r h =>
  if h0 : r < 3 then ⟨0, 2, by omega, by omega, r0⟩ else
  if h3 : r < 6 then ⟨3, 5, by omega, by omega, r3⟩ else
  if h6 : r < 9 then ⟨6, 8, by omega, by omega, r6⟩ else
  if h9 : r < 12 then ⟨9, 11, by omega, by omega, r9⟩ else
  if h12 : r < 15 then ⟨12, 14, by omega, by omega, r12⟩ else
  if h15 : r < 18 then ⟨15, 17, by omega, by omega, r15⟩ else
  if h18 : r < 21 then ⟨18, 20, by omega, by omega, r18⟩ else
  if h21 : r < 24 then ⟨21, 23, by omega, by omega, r21⟩ else
  if h24 : r < 27 then ⟨24, 26, by omega, by omega, r24⟩ else
  if h27 : r < 30 then ⟨27, 29, by omega, by omega, r27⟩ else
  if h30 : r < 33 then ⟨30, 32, by omega, by omega, r30⟩ else
  if h33 : r < 36 then ⟨33, 35, by omega, by omega, r33⟩ else
  if h36 : r < 39 then ⟨36, 38, by omega, by omega, r36⟩ else
  if h39 : r < 42 then ⟨39, 41, by omega, by omega, r39⟩ else
  if h42 : r < 45 then ⟨42, 44, by omega, by omega, r42⟩ else
  if h45 : r < 48 then ⟨45, 47, by omega, by omega, r45⟩ else
  if h48 : r < 51 then ⟨48, 50, by omega, by omega, r48⟩ else
  if h51 : r < 54 then ⟨51, 53, by omega, by omega, r51⟩ else
  if h54 : r < 57 then ⟨54, 56, by omega, by omega, r54⟩ else
  if h57 : r < 60 then ⟨57, 59, by omega, by omega, r57⟩ else
  if h60 : r < 63 then ⟨60, 62, by omega, by omega, r60⟩ else
  if h63 : r < 66 then ⟨63, 65, by omega, by omega, r63⟩ else
  if h66 : r < 69 then ⟨66, 68, by omega, by omega, r66⟩ else
  if h69 : r < 72 then ⟨69, 71, by omega, by omega, r69⟩ else
  if h72 : r < 75 then ⟨72, 74, by omega, by omega, r72⟩ else
  if h75 : r < 78 then ⟨75, 77, by omega, by omega, r75⟩ else
  if h78 : r < 81 then ⟨78, 80, by omega, by omega, r78⟩ else
  if h81 : r < 84 then ⟨81, 83, by omega, by omega, r81⟩ else
  if h84 : r < 87 then ⟨84, 86, by omega, by omega, r84⟩ else
  if h87 : r < 90 then ⟨87, 89, by omega, by omega, r87⟩ else
  if h90 : r < 93 then ⟨90, 92, by omega, by omega, r90⟩ else
  if h93 : r < 96 then ⟨93, 95, by omega, by omega, r93⟩ else
  if h96 : r < 99 then ⟨96, 98, by omega, by omega, r96⟩ else
  if h99 : r < 102 then ⟨99, 101, by omega, by omega, r99⟩ else
  if h102 : r < 105 then ⟨102, 104, by omega, by omega, r102⟩ else
  if h105 : r < 108 then ⟨105, 107, by omega, by omega, r105⟩ else
  if h108 : r < 111 then ⟨108, 110, by omega, by omega, r108⟩ else
  if h111 : r < 114 then ⟨111, 113, by omega, by omega, r111⟩ else
  if h114 : r < 117 then ⟨114, 116, by omega, by omega, r114⟩ else
  if h117 : r < 120 then ⟨117, 119, by omega, by omega, r117⟩ else
  if h120 : r < 123 then ⟨120, 122, by omega, by omega, r120⟩ else
  if h123 : r < 126 then ⟨123, 125, by omega, by omega, r123⟩ else
  if h126 : r < 129 then ⟨126, 128, by omega, by omega, r126⟩ else
  if h129 : r < 132 then ⟨129, 131, by omega, by omega, r129⟩ else
  if h132 : r < 135 then ⟨132, 134, by omega, by omega, r132⟩ else
  if h135 : r < 138 then ⟨135, 137, by omega, by omega, r135⟩ else
  if h138 : r < 141 then ⟨138, 140, by omega, by omega, r138⟩ else
  if h141 : r < 144 then ⟨141, 143, by omega, by omega, r141⟩ else
  if h144 : r < 147 then ⟨144, 146, by omega, by omega, r144⟩ else
  if h147 : r < 150 then ⟨147, 149, by omega, by omega, r147⟩ else
  if h150 : r < 153 then ⟨150, 152, by omega, by omega, r150⟩ else
  if h153 : r < 156 then ⟨153, 155, by omega, by omega, r153⟩ else
  if h156 : r < 159 then ⟨156, 158, by omega, by omega, r156⟩ else
  if h159 : r < 162 then ⟨159, 161, by omega, by omega, r159⟩ else
  if h162 : r < 165 then ⟨162, 164, by omega, by omega, r162⟩ else
  if h165 : r < 168 then ⟨165, 167, by omega, by omega, r165⟩ else
  if h168 : r < 171 then ⟨168, 170, by omega, by omega, r168⟩ else
  if h171 : r < 174 then ⟨171, 173, by omega, by omega, r171⟩ else
  if h174 : r < 177 then ⟨174, 176, by omega, by omega, r174⟩ else
  if h177 : r < 180 then ⟨177, 179, by omega, by omega, r177⟩ else
  if h180 : r < 183 then ⟨180, 182, by omega, by omega, r180⟩ else
  if h183 : r < 186 then ⟨183, 185, by omega, by omega, r183⟩ else
  if h186 : r < 189 then ⟨186, 188, by omega, by omega, r186⟩ else
  if h189 : r < 192 then ⟨189, 191, by omega, by omega, r189⟩ else
  if h192 : r < 195 then ⟨192, 194, by omega, by omega, r192⟩ else
  if h195 : r < 198 then ⟨195, 197, by omega, by omega, r195⟩ else
  ⟨198, 198, by omega, by omega, r198⟩

/-- What the unknown numbers stand for. -/
def rho (r t : Nat) : Rho
  | .z => some (r, 0)
  | .a .z => some (t, 0)
  | _ => none
theorem start (r t : Nat) : MR (rho r t) .lf (.b .z) [] where
  old := fun b x h => by
    cases b with
    | z => show 0 < 2; omega
    | a b => cases b <;> first | (cases h; done) | (show 1 < 2; omega)
    | _ => cases h
  live := fun b h => by
    have : Mm.at .lf b = .dead := Tr.get_lf _ _
    rw [this] at h; exact h.elim
  inj := fun b b' r c c' h => by
    have : Mm.at .lf b = .dead := Tr.get_lf _ _
    rw [this] at h; exact h.elim
  dgs := fun b ty ti t e q h => by
    have : Mm.at .lf b = .dead := Tr.get_lf _ _
    rw [this] at h; cases h
  one := fun b b' h => by
    have : Mm.at .lf b = .dead := Tr.get_lf _ _
    rw [this] at h; exact h.elim

theorem base1 {W0 : World} {n : Nat} {A : Rho → Prop} {call : Den.Call} (hc : CallOk W0 Tryz.prog call) (hA : Stays A) {c : Code} {s : Step} (h : s = stepC (trC T n S3 c).toC2) : StepP W0 Tryz.prog n S3 call A c s := by
  subst h
  exact .base hA (stepC_ok tabOk mixed hc (inj_ok (by kernel_rfl)) (trC_ok tabOk zerosOk c))
theorem base {W0 : World} {n : Nat} {A : Rho → Prop} (hA : Stays A) {c : Code} {s : Step} (h : s = stepC (trC T n S3 c).toC2) : StepP W0 Tryz.prog n S3 (callF FT 60) A c s := base1 (callF_ok tabOk mixed (table W0) 60) hA h
theorem body_ok (W0 : World) (a b : Nat) : StepP W0 Tryz.prog Tryz.f3.ntmps S3 (callF FT 60) (InR s0 a b) (Tryz.f3.body.getD .skip) (body a b) := by
  have hA := InR.stays s0 a b
  exact .seq (base hA (by kernel_rfl)) (.seq (base hA (by kernel_rfl)) (.split hA hookR_ok (.seq (base hA (by kernel_rfl)) (.seq (base hA (by kernel_rfl)) (.seq (base hA (by kernel_rfl)) (.seq (base hA (by kernel_rfl)) (.seq (.seq (base hA (by kernel_rfl)) (.blk (.loop (.split hA (hookN_ok ⟨s5, (by kernel_rfl)⟩) (base hA (by kernel_rfl)))))) (.split hA (hookW_ok ⟨s6, (by kernel_rfl)⟩) (.withC (base1 (callF_ok tabOk mixed (table1 W0) 60) hA (by kernel_rfl)))))))))))

theorem of (W0 : World) (a0 a1 : Int) (a b r t : Nat) (h0 : lowZ a0 199 = r) (h1 : lowZ a1 50 = t) (ha : a ≤ r) (hb : r ≤ b) (h : run a b = true) : Does W0 Tryz.prog 3 #[.int .i64 a0, .int .i64 a1] [] fun v _ => v = .bool true := by
  refine (law_ok (A := InR s0 a b) tabOk Tryz.func3 rfl Tryz.results3 (ent_ok (by kernel_rfl)) (by kernel_rfl) (by kernel_rfl) (trR_ok (by kernel_rfl)) (body_ok W0 a b) h (ρ := rho r t) (C := []) (us := [.int .i64 a0, .int .i64 a1]) ⟨r, 0, rfl, ha, hb⟩ ⟨_, _, rfl, ⟨a0, r, 0, rfl, rfl, h0⟩, _, _, rfl, ⟨a1, t, 0, rfl, rfl, h1⟩, rfl⟩ (start r t)).mono fun u C' hC' => ?_
  obtain ⟨v, M', nx', ρ', hE, hu⟩ := hC'
  exact end_true (M := M') (nx := nx') hE hu
theorem w (W0 : World) (a0 a1 : Int) : Does W0 Tryz.prog 3 #[.int .i64 a0, .int .i64 a1] [] fun v _ => v = .bool true := by
  have b0 := lowZ_bd a0 199 (by omega)
  have b1 := lowZ_bd a1 50 (by omega)
  obtain ⟨a, b, h1, h2, h3⟩ := runs (lowZ a0 199).toNat (by omega)
  exact of W0 a0 a1 a b (lowZ a0 199).toNat (lowZ a1 50).toNat (by omega) (by omega) h1 h2 h3
end Go.Proofs.YtfmjehkohlbebaaGreatDoor.topFires
