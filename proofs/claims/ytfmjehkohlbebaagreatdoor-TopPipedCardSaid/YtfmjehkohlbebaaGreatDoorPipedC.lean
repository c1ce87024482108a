/-
  TopPiped's run does what the program does. No conditions.
-/
import Derived.Test.YtfmjehkohlbebaaGreatDoorPipedD
import Derived.Test.YtfmjehkohlbebaaGreatDoorFT
import Derived.Test.YtfmjehkohlbebaaGreatDoorD6
set_option linter.unusedVariables false
set_option maxRecDepth 100000
namespace Go.Proofs.YtfmjehkohlbebaaGreatDoor.topPiped
open Go Eng Den Ast

theorem stepOk {W0 : World} {n : Nat} {S : List (Den.P × Den.I)} (hS : Inj S) {c : Code} {s : Step} (h : s = stepC (trC T MT n S c).toC2) : StepOk W0 Tryz.prog n S (callF FT 60) c s := by
  subst h
  exact stepC_ok tabOk mixed (callF_ok tabOk mixed (table W0) 60) hS (trC_ok tabOk zerosOk mtOk c)
theorem base {W0 : World} {n : Nat} {S : List (Den.P × Den.I)} (hS : Inj S) {A : Rho → Prop} (hA : Stays A) {c : Code} {s : Step} (h : s = stepC (trC T MT n S c).toC2) : StepP W0 Tryz.prog n S (callF FT 60) A c s := .base hA (stepOk hS h)
theorem baseP {W0 : World} {n : Nat} {S : List (Den.P × Den.I)} (hS : Inj S) {A : Rho → Prop} {call : Den.Call} (hc : CallP W0 Tryz.prog A call) (hA : Stays A) {c : Code} {s : Step} (h : s = stepC (trC T MT n S c).toC2) (hni : noInvC (trC T MT n S c) = true) : StepP W0 Tryz.prog n S call A c s := by
  subst h
  exact .ofReg tabOk hc hA hS (trC_ok tabOk zerosOk mtOk c) hni
theorem withR_ok {W0 : World} {n : Nat} {S : List (Den.P × Den.I)} {A : Rho → Prop} {call : Den.Call} {i : Den.I} {C : Den.P → Den.Call} {c : Code} {s : Step} (h : ∀ b, StepP W0 Tryz.prog n S (C b) A c s) : StepP W0 Tryz.prog n S call A c (withR i C s) := fun ve M nx k hk => by
  unfold withR at hk
  rw [En.getK_eq] at hk
  obtain ⟨b, o, _, hk⟩ := VV.onP_true hk
  exact h b ve M nx k hk
theorem i77 : Inj S77 := inj_ok (by kernel_rfl)
theorem i33 : Inj S33 := inj_ok (by kernel_rfl)
theorem i17 : Inj S17 := inj_ok (by kernel_rfl)
theorem i6 : Inj S6 := inj_ok (by kernel_rfl)
theorem l6 : ∀ x ∈ S6, x.2 = q2 ∨ x.2 = q11 ∨ x.1.num ∈ [0, 1, 4, 5, 6, 7, 9, 10, 11, 12, 13, 31, 64, 80, 89] := by
  intro x hx
  simp only [S6, List.mem_cons, List.not_mem_nil, or_false] at hx
  rcases hx with rfl | rfl | rfl | rfl | rfl | rfl | rfl | rfl | rfl | rfl | rfl | rfl | rfl | rfl | rfl | rfl | rfl <;> first | exact .inl rfl | exact .inr (.inl rfl) | exact .inr (.inr (by decide))

/-- Each text has 64 bytes at most. -/
def InT (ρ : Rho) : Prop := ∀ i, i < 5 → Sz (qt i) (ql i) 0 64 ρ
theorem InT.stays : Stays InT := fun _ _ hx h i hi => (h i hi).ext hx

section
variable {W0 : World} {c : Code} {K : Kont} {ρc : Rho} {ts rt : Den.P}
theorem p4 : placeIn S77 s14 = some q4 := rfl
theorem sz_or {q ql : Den.P} {ρ : Rho} {a b : Nat} (h : Sz q ql a b ρ) (m : Nat) : Sz q ql a m ρ ∨ Sz q ql (m + 1) b ρ := by
  obtain ⟨r, s, s', h1, h2, h3, h4⟩ := h
  by_cases hm : (txt r).size ≤ m
  · exact .inl ⟨r, s, s', h1, h2, h3, hm⟩
  · exact .inr ⟨r, s, s', h1, h2, by omega, h4⟩

theorem cls_ok (hs : StepOk W0 Tryz.prog Tryz.f77.ntmps S77 (callF FT 60) c rndS) (i k : Nat) (hk : k ≤ 4) : Pth W0 Tryz.prog Tryz.f77.ntmps S77 K c ρc (Sz (qt i) (ql i) (16 * k - 15) (16 * k) ρc) 6 (cls (callF FT 60) i k) :=
  (Pth.comp .nar (.rnd hs (2 + k))).mono (by omega) fun h => ⟨h, trivial⟩
theorem stage_ok (hs : StepOk W0 Tryz.prog Tryz.f77.ntmps S77 (callF FT 60) c rndS) (hc0 : ∀ b x, ρc b = some x → b.num < ts.num) (i : Nat) : Pth W0 Tryz.prog Tryz.f77.ntmps S77 K c ρc (Sz (qt i) (ql i) 0 64 ρc) 19 (stage rt (callF FT 60) ts i) :=
  ((Pth.mrg hc0 ⟨_, p4⟩ ((Pth.comp .nar (Pth.comp (Pth.mrg hc0 ⟨_, p4⟩ (cls_ok hs i 1 (by omega)) (.cons (cls_ok hs i 2 (by omega)) (.cons (cls_ok hs i 3 (by omega)) (.cons (cls_ok hs i 4 (by omega)) .nil)))) (.rnd hs 13))).mono (R := 19) (Ψ := Sz (qt i) (ql i) 1 64 ρc) (by omega) fun h => ⟨h, by
    rcases sz_or h 16 with h | h
    · exact .inl h
    · rcases sz_or h 32 with h | h
      · exact .inr (.inl h)
      · rcases sz_or h 48 with h | h
        · exact .inr (.inr (.inl h))
        · exact .inr (.inr (.inr (.inl h))), trivial⟩) (.cons ((Pth.comp .nar (.rnd hs 8)).mono (R := 19) (Ψ := Sz (qt i) (ql i) 0 0 ρc) (by omega) fun h => ⟨h, trivial⟩) .nil)).mono (Nat.le_refl _) fun h => (sz_or h 0).elim (fun h => .inr (.inl h)) fun h => .inl h)
theorem stages_ok (hs : StepOk W0 Tryz.prog Tryz.f77.ntmps S77 (callF FT 60) c rndS) (hc0 : ∀ b x, ρc b = some x → b.num < ts.num) (hT : InT ρc) (n : Nat) (hn : n ≤ 5) : ∀ j, j ≤ n → Pth W0 Tryz.prog Tryz.f77.ntmps S77 K c ρc True (19 * j) (stages rt (callF FT 60) ts n j)
  | 0, _ => fun k e M nx h => ⟨e, M, nx, h, fun B _ hg => hg⟩
  | j + 1, hj => (Pth.comp (stage_ok hs hc0 (n - 1 - j)) (stages_ok hs hc0 hT n hn j (by omega))).mono (by omega) fun _ => ⟨hT _ (by omega), trivial⟩
theorem pre_ok (hs : StepOk W0 Tryz.prog Tryz.f77.ntmps S77 (callF FT 60) c rndS) : Pth W0 Tryz.prog Tryz.f77.ntmps S77 K c ρc True 14 (pre (callF FT 60) ts) :=
  (Pth.comp .sym (Pth.comp (.rnd hs 14) (Pth.comp (.rowE p4) (.rowN p4)))).mono (by omega) fun _ => ⟨trivial, trivial, trivial, trivial⟩
theorem cnt_le : ∀ n, n ≤ 6 → cnt n ≤ 5
  | 0, _ | 1, _ | 2, _ | 3, _ | 4, _ | 5, _ | 6, _ => by decide
  | _ + 7, h => absurd h (by omega)
theorem loop_ok (rt : Den.P) {n : Nat} (hn : n ≤ 6) {A : Rho → Prop} (hA : Stays A) (hF : ∀ ρ, A ρ → InT ρ) (hs : StepOk W0 Tryz.prog Tryz.f77.ntmps S77 (callF FT 60) c rndS) : StepP W0 Tryz.prog Tryz.f77.ntmps S77 (callF FT 60) A (.loop c) (loopM rt n) :=
  StepP.merged (b := fun _ k => k) (fin := fun _ _ _ _ _ => true) (T := 600) hA (fun {K ρc n0 k} hρ hc0 hK e M hk => by
    have hk : pre (callF FT 60) n0 (stages rt (callF FT 60) n0 (cnt n) (cnt n) (rndB rndS (callF FT 60) 9 (Den.endK rndS (callF FT 60) k q4 n0 rt n0 keep 400 6))) e M n0 = true := hk
    obtain ⟨e1, M1, n1, h1, g1⟩ := pre_ok (K := K) (ρc := ρc) hs _ e M n0 hk
    obtain ⟨e2, M2, n2, h2, g2⟩ := stages_ok (K := K) hs hc0 (hF _ hρ) (cnt n) (cnt_le n hn) (cnt n) (Nat.le_refl _) _ e1 M1 n1 h1
    obtain ⟨e3, M3, n3, h3, g3⟩ := Pth.rnd (K := K) (ρc := ρc) hs 9 _ e2 M2 n2 h2
    have g4 := end_ok hs hc0 p4 hK h3
    have := cnt_le n hn
    exact (g1 _ trivial (g2 _ trivial (g3 _ trivial g4))).mono (by omega)) (by decide)
end
section
variable (W0 : World) {n : Nat}
theorem playB_ok (hn : n ≤ 6) (rt : Den.P) (A : Rho → Prop) (hA : Stays A) (hF : ∀ ρ, A ρ → InT ρ) : StepP W0 Tryz.prog Tryz.f77.ntmps S77 (callF FT 60) A (Tryz.f77.body.getD .skip) (playB rt n) :=
  .seq (base i77 hA (by kernel_rfl)) (.seq (base i77 hA (by kernel_rfl)) (.seq (base i77 hA (by kernel_rfl)) (.seq (.seq (base i77 hA (by kernel_rfl)) (.blk (loop_ok rt hn hA hF (stepOk i77 (by kernel_rfl))))) (base i77 hA (by kernel_rfl)))))
theorem cP_ok (hn : n ≤ 6) (rt : Den.P) : ∀ A, (∀ ρ, A ρ → InT ρ) → CallP W0 Tryz.prog A (cP rt n) := aheadC_ok (f := s77) tabOk (by kernel_rfl) Tryz.func77 rfl Tryz.results77 (ent_ok (by kernel_rfl)) (by kernel_rfl) (by kernel_rfl) (trR_ok (by kernel_rfl)) InT.stays (playB_ok W0 hn rt) fun _ _ => .of (callF_ok tabOk mixed (table W0) 60)
theorem runB_ok (hn : n ≤ 6) (rt : Den.P) (A : Rho → Prop) (hA : Stays A) (hF : ∀ ρ, A ρ → InT ρ) : StepP W0 Tryz.prog Tryz.f33.ntmps S33 (callF FT 60) A (Tryz.f33.body.getD .skip) (runB rt n) :=
  .seq (base i33 hA (by kernel_rfl)) (.seq (base i33 hA (by kernel_rfl)) (.seq (base i33 hA (by kernel_rfl)) (.seq (.withC (baseP i33 (cP_ok W0 hn rt A hF) hA (by kernel_rfl) (by kernel_rfl))) (base i33 hA (by kernel_rfl)))))
theorem cR_ok (hn : n ≤ 6) (rt : Den.P) : ∀ A, (∀ ρ, A ρ → InT ρ) → CallP W0 Tryz.prog A (cR rt n) := aheadC_ok (f := s33) tabOk (by kernel_rfl) Tryz.func33 rfl Tryz.results33 (ent_ok (by kernel_rfl)) (by kernel_rfl) (by kernel_rfl) (trR_ok (by kernel_rfl)) InT.stays (runB_ok W0 hn rt) (cP_ok W0 hn rt)
theorem showB_ok (hn : n ≤ 6) (A : Rho → Prop) (hA : Stays A) (hF : ∀ ρ, A ρ → InT ρ) : StepP W0 Tryz.prog Tryz.f17.ntmps S17 (callF FT 60) A (Tryz.f17.body.getD .skip) (showB n) :=
  .seq (base i17 hA (by kernel_rfl)) (.seq (withR_ok fun b => baseP i17 (cR_ok W0 hn b A hF) hA (by kernel_rfl) (by kernel_rfl)) (base i17 hA (by kernel_rfl)))
theorem cS_ok (hn : n ≤ 6) : ∀ A, (∀ ρ, A ρ → InT ρ) → CallP W0 Tryz.prog A (cS n) := aheadC_ok (f := s17) tabOk (by kernel_rfl) Tryz.func17 rfl Tryz.results17 (ent_ok (by kernel_rfl)) (by kernel_rfl) (by kernel_rfl) (trR_ok (by kernel_rfl)) InT.stays (showB_ok W0 hn) fun _ _ => .of (callF_ok tabOk mixed (table W0) 60)
theorem body_ok (hn : n ≤ 6) : StepP W0 Tryz.prog Tryz.f6.ntmps S6 (callF FT 60) InT (Tryz.f6.body.getD .skip) (body n) :=
  have hA := InT.stays
  .seq (base i6 hA (by kernel_rfl)) (.seq (base i6 hA (by kernel_rfl)) (.seq (base i6 hA (by kernel_rfl)) (.seq (.seq (base i6 hA (by kernel_rfl)) (.blk (.loop (.seq (base i6 hA (by kernel_rfl)) (.seq (.blk (.seq (base i6 hA (by kernel_rfl)) (.seq (cutS_ok i6 (p8 := s8) (p40 := s40) rfl rfl rfl (fun h => by cases h) l6) (.seq (base i6 hA (by kernel_rfl)) (base i6 hA (by kernel_rfl)))))) (base i6 hA (by kernel_rfl))))))) (.seq (base i6 hA (by kernel_rfl)) (.seq (.withC (baseP i6 (cS_ok W0 hn _ fun _ h => h) hA (by kernel_rfl) (by kernel_rfl))) (.seq (base i6 hA (by kernel_rfl)) (.seq (gotS_ok i6 (pa := s10) (pw := s6) (pg := s11) rfl rfl rfl rfl rfl rfl) (base i6 hA (by kernel_rfl)))))))))
end
end Go.Proofs.YtfmjehkohlbebaaGreatDoor.topPiped
