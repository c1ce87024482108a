/-
  TopDue's run does what the program does. No conditions.
-/
import Derived.Test.YtfmjehkohlbebaaGreatDoorDueD
import Derived.Test.YtfmjehkohlbebaaGreatDoorFT
import Derived.Test.YtfmjehkohlbebaaGreatDoorD6
set_option linter.unusedVariables false
set_option maxRecDepth 100000
namespace Go.Proofs.YtfmjehkohlbebaaGreatDoor.topDue
open Go Eng Den Ast

theorem base {W0 : World} {n : Nat} {S : List (Den.P × Den.I)} (hS : Inj S) {A : Rho → Prop} (hA : Stays A) {c : Code} {s : Step} (h : s = stepC (trC T MT n S c).toC2) : StepP W0 Tryz.prog n S (callF FT 60) A c s := by
  subst h
  exact .base hA (stepC_ok tabOk mixed (callF_ok tabOk mixed (table W0) 60) hS (trC_ok tabOk zerosOk mtOk c))
theorem baseP {W0 : World} {n : Nat} {S : List (Den.P × Den.I)} (hS : Inj S) {A : Rho → Prop} {call : Den.Call} (hc : CallP W0 Tryz.prog A call) (hA : Stays A) {c : Code} {s : Step} (h : s = stepC (trC T MT n S c).toC2) (hni : noInvC (trC T MT n S c) = true) : StepP W0 Tryz.prog n S call A c s := by
  subst h
  exact .ofReg tabOk hc hA hS (trC_ok tabOk zerosOk mtOk c) hni
theorem i77 : Inj S77 := inj_ok (by kernel_rfl)
theorem i33 : Inj S33 := inj_ok (by kernel_rfl)
theorem i17 : Inj S17 := inj_ok (by kernel_rfl)
theorem i5 : Inj S5 := inj_ok (by kernel_rfl)
section
variable (W0 : World) (Fs : Fss)
theorem playB_ok (A : Rho → Prop) (hA : Stays A) (hF : ∀ ρ, A ρ → InO Fs ρ) : StepP W0 Tryz.prog Tryz.f77.ntmps S77 (callF FT 60) A (Tryz.f77.body.getD .skip) (playB Fs) :=
  .seq (base i77 hA (by kernel_rfl)) (.seq (base i77 hA (by kernel_rfl)) (.seq (base i77 hA (by kernel_rfl)) (.seq (.seq (base i77 hA (by kernel_rfl)) (.blk (.loop (.split hA (hookO_ok hF) (base i77 hA (by kernel_rfl)))))) (base i77 hA (by kernel_rfl)))))
theorem cP_ok : ∀ A, (∀ ρ, A ρ → InO Fs ρ) → CallP W0 Tryz.prog A (cP Fs) := aheadC_ok (f := s77) tabOk (by kernel_rfl) Tryz.func77 rfl Tryz.results77 (ent_ok (by kernel_rfl)) (by kernel_rfl) (by kernel_rfl) (trR_ok (by kernel_rfl)) (InO.stays Fs) (playB_ok W0 Fs) fun _ _ => .of (callF_ok tabOk mixed (table W0) 60)
theorem runB_ok (A : Rho → Prop) (hA : Stays A) (hF : ∀ ρ, A ρ → InO Fs ρ) : StepP W0 Tryz.prog Tryz.f33.ntmps S33 (callF FT 60) A (Tryz.f33.body.getD .skip) (runB Fs) :=
  .seq (base i33 hA (by kernel_rfl)) (.seq (base i33 hA (by kernel_rfl)) (.seq (base i33 hA (by kernel_rfl)) (.seq (.withC (baseP i33 (cP_ok W0 Fs A hF) hA (by kernel_rfl) (by kernel_rfl))) (base i33 hA (by kernel_rfl)))))
theorem cR_ok : ∀ A, (∀ ρ, A ρ → InO Fs ρ) → CallP W0 Tryz.prog A (cR Fs) := aheadC_ok (f := s33) tabOk (by kernel_rfl) Tryz.func33 rfl Tryz.results33 (ent_ok (by kernel_rfl)) (by kernel_rfl) (by kernel_rfl) (trR_ok (by kernel_rfl)) (InO.stays Fs) (runB_ok W0 Fs) (cP_ok W0 Fs)
theorem showB_ok (A : Rho → Prop) (hA : Stays A) (hF : ∀ ρ, A ρ → InO Fs ρ) : StepP W0 Tryz.prog Tryz.f17.ntmps S17 (callF FT 60) A (Tryz.f17.body.getD .skip) (showB Fs) :=
  .seq (base i17 hA (by kernel_rfl)) (.seq (.withC (baseP i17 (cR_ok W0 Fs A hF) hA (by kernel_rfl) (by kernel_rfl))) (base i17 hA (by kernel_rfl)))
theorem cS_ok : ∀ A, (∀ ρ, A ρ → InO Fs ρ) → CallP W0 Tryz.prog A (cS Fs) := aheadC_ok (f := s17) tabOk (by kernel_rfl) Tryz.func17 rfl Tryz.results17 (ent_ok (by kernel_rfl)) (by kernel_rfl) (by kernel_rfl) (trR_ok (by kernel_rfl)) (InO.stays Fs) (showB_ok W0 Fs) (cR_ok W0 Fs)
theorem body_ok : StepP W0 Tryz.prog Tryz.f5.ntmps S5 (callF FT 60) (InO Fs) (Tryz.f5.body.getD .skip) (body Fs) :=
  have hA := InO.stays Fs
  .seq (base i5 hA (by kernel_rfl)) (.seq (base i5 hA (by kernel_rfl)) (.seq (base i5 hA (by kernel_rfl)) (.seq (base i5 hA (by kernel_rfl)) (.seq (base i5 hA (by kernel_rfl)) (.seq (.withC (baseP i5 (cS_ok W0 Fs _ fun _ h => h) hA (by kernel_rfl) (by kernel_rfl))) (.seq (base i5 hA (by kernel_rfl)) (.seq (.seq (base i5 hA (by kernel_rfl)) (.blk (.loop (.split hA hookT_ok (base i5 hA (by kernel_rfl)))))) (base i5 hA (by kernel_rfl)))))))))
end

/-! ## What came in -/

def rho (d : Nat → Nat) (L r o : Nat) : Rho
  | .z => some (d 0, 0) | .a .z => some (d 1, 0) | .b .z => some (d 2, 0) | .c .z => some (d 3, 0) | .d .z => some (d 4, 0) | .a (.a .z) => some (d 5, 0) | .b (.a .z) => some (L, 0) | .c (.a .z) => some (r, o)
  | _ => none
theorem rho_old {d : Nat → Nat} {L r o : Nat} : ∀ b x, rho d L r o b = some x → b.num < P.num s8 := fun b x h => by
  unfold rho at h
  split at h <;> first | (cases h; done) | decide
theorem rho_qs (d : Nat → Nat) (L r o : Nat) : ∀ i, i < 6 → rho d L r o (qs i) = some (d i, 0)
  | 0, _ => rfl | 1, _ => rfl | 2, _ => rfl | 3, _ => rfl | 4, _ => rfl | 5, _ => rfl
  | _ + 6, h => absurd h (by omega)

theorem rls_ls {ρ : Rho} (d : Nat → Nat) (hq : ∀ i, i < 6 → ρ (qs i) = some (d i, 0)) : ∀ (l : List Nat) (zs : List Int), (∀ i ∈ l, i < 6) → zs.length = l.length → (∀ (j i : Nat) (z : Int), l[j]? = some i → zs[j]? = some z → Den.lowZ z 40 = (d i : Int)) → Rls ρ (l.map fun i => .ls 40 (qs i)) (zs.map fun z => .int .i64 z)
  | [], [], _, _, _ => rfl
  | i :: l, z :: zs, hl, hn, hz => ⟨_, _, rfl, ⟨z, d i, 0, rfl, hq i (hl i (by simp)), hz 0 i z rfl rfl⟩, rls_ls d hq l zs (fun i h => hl i (by simp [h])) (by simpa using hn) fun j i z h1 h2 => hz (j + 1) i z (by simpa using h1) (by simpa using h2)⟩
  | [], _ :: _, _, h, _ => by simp at h
  | _ :: _, [], _, h, _ => by simp at h

theorem lf_at (b : Den.P) : Mm.at .lf b = .dead := Tr.get_lf _ _
theorem startZ (W0 : World) (ρ : Rho) (h : ∀ b x, ρ b = some x → b.num < P.num s8) : MR W0 ρ .lf s8 [] where
  old := h
  live := fun b h => by rw [lf_at] at h; exact h.elim
  inj := fun b b' r c c' h => by rw [lf_at] at h; exact h.elim
  dgs := fun b ty ti t e q h => by rw [lf_at] at h; cases h
  one := fun b b' h => by rw [lf_at] at h; exact h.elim
  bas := fun b t l F h => by rw [lf_at] at h; cases h
theorem start (W0 : World) (ρ : Rho) (n : Nat) (h : ∀ b x, ρ b = some x → b.num < P.num s8) (hb : BsR W0 ρ s7 3 (lsN n) []) : MR W0 ρ (m0 n) s8 [] := by
  have key : ∀ b, b ≠ s7 → Mm.at (m0 n) b = .dead := fun b hb => by unfold m0; rw [at_set_ne _ _ hb, lf_at]
  have key' : Mm.at (m0 n) s7 = .bs 3 (lsN n) [] := by unfold m0; rw [at_set]
  have dead : ∀ b, ¬ (Mm.at (m0 n) b).live := fun b hl => by
    by_cases hb : b = s7
    · subst hb; rw [key'] at hl; exact hl
    · rw [key b hb] at hl; exact hl
  have nod : ∀ b, ¬ (Mm.at (m0 n) b).isD := fun b hl => by
    by_cases hb : b = s7
    · subst hb; rw [key'] at hl; exact hl
    · rw [key b hb] at hl; exact hl
  exact ⟨h, fun b hl => absurd hl (dead b), fun b b' r c c' hl => absurd hl (dead b), fun b ty ti t e q hd => absurd (by rw [hd]; trivial) (nod b), fun b b' hl => absurd hl (nod b), fun b t l F hd => by
    by_cases hbb : b = s7
    · subst hbb; rw [key'] at hd; cases hd; exact hb
    · rw [key b hbb] at hd; cases hd⟩

/-! ## Rows of numbers -/

theorem mem_ins1 {x : Nat} : ∀ {l m : List Nat}, m ∈ ins1 x l → ∀ y ∈ m, y = x ∨ y ∈ l
  | [], m, h, y, hy => by simp [ins1] at h; subst h; simp at hy; exact .inl hy
  | z :: r, m, h, y, hy => by
    simp only [ins1, List.mem_cons, List.mem_map] at h
    rcases h with rfl | ⟨m', hm, rfl⟩
    · simpa using hy
    · rcases List.mem_cons.1 hy with rfl | hy
      · exact .inr (by simp)
      · rcases mem_ins1 hm y hy with h | h
        · exact .inl h
        · exact .inr (by simp [h])
/-- Rising by what they stand for, like ones by their numbers. -/
def Ris (d : Nat → Nat) : List Nat → Prop
  | [] => True
  | i :: l => (∀ j ∈ l, d i < d j ∨ d i = d j ∧ i < j) ∧ Ris d l
theorem ris_ins {d : Nat → Nat} {x : Nat} : ∀ {l : List Nat}, Ris d l → (∀ y ∈ l, y < x) → ∃ m ∈ ins1 x l, Ris d m
  | [], _, _ => ⟨[x], by simp [ins1], by simp, trivial⟩
  | y :: r, h, hx => by
    by_cases hlt : d x < d y
    · refine ⟨x :: y :: r, by simp [ins1], fun j hj => ?_, h⟩
      rcases List.mem_cons.1 hj with rfl | hj
      · exact .inl hlt
      · have := h.1 j hj
        left; omega
    · obtain ⟨m, hm, hr⟩ := ris_ins h.2 fun z hz => hx z (by simp [hz])
      refine ⟨y :: m, by simp only [ins1, List.mem_cons, List.mem_map]; exact .inr ⟨m, hm, rfl⟩, fun j hj => ?_, hr⟩
      rcases mem_ins1 hm j hj with rfl | hj
      · have := hx y (by simp); omega
      · exact h.1 j hj
theorem ris_perms (d : Nat → Nat) : ∀ n, ∃ m ∈ perms n, Ris d m ∧ ∀ y ∈ m, y < n
  | 0 => ⟨[], by simp [perms], trivial, by simp⟩
  | n + 1 => by
    obtain ⟨l, hl, hr, hn⟩ := ris_perms d n
    obtain ⟨m, hm, hr'⟩ := ris_ins hr hn
    refine ⟨m, by simp only [perms, List.mem_flatMap]; exact ⟨l, hl, hm⟩, hr', fun y hy => ?_⟩
    rcases mem_ins1 hm y hy with rfl | hy
    · omega
    · have := hn y hy; omega
theorem ris_ord {ρ : Rho} {d : Nat → Nat} (hq : ∀ i, i < 6 → ρ (qs i) = some (d i, 0)) : ∀ {l : List Nat}, Ris d l → (∀ y ∈ l, y < 6) → OrdR ρ (ord l)
  | [], _, _ => trivial
  | i :: l, h, hn => ⟨fun x hx => by
      obtain ⟨j, hj, rfl⟩ := List.mem_map.1 hx
      exact ⟨d i, 0, d j, 0, hq i (hn i (by simp)), hq j (hn j (by simp [hj])), h.1 j hj⟩, ris_ord hq h.2 fun y hy => hn y (by simp [hy])⟩
theorem mem_seg {n : Nat} {m : List Nat} (h : m ∈ perms n) : ∃ k, 3 * k < (perms n).length ∧ ord m ∈ seg n k := by
  obtain ⟨i, hi, rfl⟩ := List.mem_iff_getElem.1 h
  refine ⟨i / 3, by omega, List.mem_map.2 ⟨_, List.mem_iff_getElem.2 ⟨i % 3, ?_, ?_⟩, rfl⟩⟩
  · rw [List.length_take, List.length_drop]; omega
  · rw [List.getElem_take, List.getElem_drop]
    congr 1
    omega

theorem law {W0 : World} {Fs : Fss} {v : VV} {M : Mem} {ρ : Rho} {u : Value} (h : f_mk (body Fs) [.t q11] [q0] (callF FT 60) [v] M s8 fin = true) (hF : InO Fs ρ) (hM : MR W0 ρ M s8 []) (hu : Rl ρ v u) : Does W0 Tryz.prog 5 #[u] [] fun v _ => v = .bool true := by
  refine (law_ok (A := InO Fs) tabOk Tryz.func5 rfl Tryz.results5 (ent_ok (by kernel_rfl)) (by kernel_rfl) (by kernel_rfl) (trR_ok (by kernel_rfl)) (body_ok W0 Fs) h (ρ := ρ) (C := []) (us := [u]) hF ⟨_, _, rfl, hu, rfl⟩ hM).mono fun u C' hC' => ?_
  obtain ⟨v, M', nx', ρ', hE, hu⟩ := hC'
  exact end_true (M := M') (nx := nx') hE hu
end Go.Proofs.YtfmjehkohlbebaaGreatDoor.topDue
