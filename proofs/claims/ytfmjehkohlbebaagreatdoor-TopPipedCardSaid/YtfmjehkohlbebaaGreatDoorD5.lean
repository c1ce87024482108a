/-
  An interpreter: regions, code and calls are sound. No conditions but those that each theorem names.
-/
import Derived.Test.YtfmjehkohlbebaaGreatDoorD4
set_option linter.unusedVariables false
namespace Den
open Go Eng
theorem ERl.setNo {ρ : Rho} {ve : Tr VV} {e : Env} (h : ERl ρ ve e) {p : P} {g : Bool} {u : Value} : ERl ρ (Tr.set .no ve p .no) ((p.num, g, u) :: e) := by
  refine ⟨fun q hq => ?_, fun q hq => ?_⟩
  · by_cases hqp : q = p
    · subst hqp
      rw [Tr.get_set] at hq
      cases hq
    · rw [Tr.get_set_ne _ _ _ _ _ hqp] at hq ⊢
      obtain ⟨w, h1, h2⟩ := h.on q hq
      exact ⟨w, by simp only [Eng.get, beq_ne (fun e => hqp (P.num_inj e.symm)), cond_false]; exact h1, h2⟩
  · by_cases hqp : q = p
    · subst hqp
      rw [Tr.get_set] at hq
      cases hq
    · rw [Tr.get_set_ne _ _ _ _ _ hqp] at hq
      obtain ⟨w, h1⟩ := h.off q hq
      exact ⟨w, by simp only [Eng.get, beq_ne (fun e => hqp (P.num_inj e.symm)), cond_false]; exact h1⟩
theorem weak_of_mem : ∀ {l m : List Blk}, l.Nodup → (∀ p ∈ l, p ∈ m) → ∃ r, m.Perm (l ++ r)
  | [], m, _, _ => ⟨m, by simp⟩
  | p :: l, m, hn, hm => by
    obtain ⟨a, b, rfl⟩ := List.append_of_mem (hm p (by simp))
    obtain ⟨hp, hn⟩ := List.nodup_cons.1 hn
    obtain ⟨r, hr⟩ := weak_of_mem (l := l) (m := a ++ b) hn fun q hq => by
      have := hm q (by simp [hq])
      simp only [List.mem_append, List.mem_cons] at this ⊢
      rcases this with h | h | h
      · exact .inl h
      · subst h; exact absurd hq hp
      · exact .inr h
    exact ⟨r, List.perm_middle.trans (by simpa using hr.cons p)⟩
theorem weakD {C D : Heap} (hn : D.flatten.Nodup) (hm : ∀ p ∈ D.flatten, p ∈ C.flatten) : Weak C D := weak_of_mem hn hm
inductive ZR (T : Tab) (P : Program) (arr : Array Oper) (sb : List Nat) : Oper → Z → Prop
  | d {o p y} : o.guard = none → o.dst = some (Den.P.num p) → sb.any (Nat.beq p.num) = false → TrY T P o y → ZR T P arr sb o (.d p y)
  | u {o y} : o.guard = none → o.dst = none → TrY T P o y → ZR T P arr sb o (.u y)
  | gd {o j w q p y} : o.guard = some (j, w) → gslot arr j = some (Den.P.num q) → o.dst = some (Den.P.num p) → sb.any (Nat.beq p.num) = false → TrY T P o y → (y.off = .no ∨ isMF (klassOp cfg0 o.op) = false ∧ y.off = .off) → ZR T P arr sb o (.gd q w p y)
  | gu {o j w q y} : o.guard = some (j, w) → gslot arr j = some (Den.P.num q) → o.dst = none → TrY T P o y → ZR T P arr sb o (.gu q w y)
  | s {o p x x' t i} : o.guard = none → o.dst = some (Den.P.num p) → sb.any (Nat.beq p.num) = true → o.op = .load t x → T.find t = some i → i.d.known = true → XR x' x → ZR T P arr sb o (.s p x' i.size i.d.agg)
  | gs {o j w q p x x' t i} : o.guard = some (j, w) → gslot arr j = some (Den.P.num q) → o.dst = some (Den.P.num p) → sb.any (Nat.beq p.num) = true → o.op = .load t x → T.find t = some i → i.d.known = true → XR x' x → ZR T P arr sb o (.gs q w p x' i.size i.d.agg)
  | c {o p x x'} : o.guard = none → o.dst = some (Den.P.num p) → sb.any (Nat.beq p.num) = false → (o.op = .move x ∨ o.op = .assign x) → XR x' x → ZR T P arr sb o (.c p x')
inductive ZRs (T : Tab) (P : Program) (arr : Array Oper) (sb : List Nat) : List Oper → List Z → Prop
  | nil : ZRs T P arr sb [] []
  | cons {o z os zs} : ZR T P arr sb o z → ZRs T P arr sb os zs → ZRs T P arr sb (o :: os) (z :: zs)
section
variable {W0 : World} {P : Program} {T : Tab} {call : Call}
theorem Run.fact {arr : Array Oper} {k : Env → Heap → Prop} {D : Heap} {sb : List Nat} {o : Oper} {rest : List (Kind × Oper)} {ve : Tr VV} {M M' : Mem} {nx nx' : Den.P} {v : VV} {ρ : Rho} {e : Env} {C : Heap} {G : Bool}
    (hs : (match o.dst with | some d => sb.any (Nat.beq d) | none => false) = false) (hg : guardOk arr e o.guard G) (hf : G = true → Fact W0 P ve M nx o v M' nx') (he : ERl ρ ve e) (hM : MR W0 ρ M nx C)
    (hDn : D.flatten.Nodup) (hDC : ∀ q ∈ D.flatten, q ∈ C.flatten) (hDo : ∀ q ∈ D.flatten, ∃ b c, ρ b = some (q.1, c) ∧ (Mm.at M b).live ∧ (G = true → Mm.at M' b = Mm.at M b))
    (h1 : G = true → ∀ ρ' u C', Ext ρ ρ' → (Rl ρ' v u ∨ v = .no) → MR W0 ρ' M' nx' C' → Keep ρ M M' C C' → (∀ q ∈ D.flatten, q ∈ C'.flatten) → Run W0 P D arr k rest (ext o.dst true u e) C')
    (h0 : G = false → (isMF (klassOp cfg0 o.op) = false → ∀ u, Run W0 P D arr k rest (ext o.dst false u e) C) ∧ (isMF (klassOp cfg0 o.op) = true → Run W0 P D arr k rest (ext o.dst true undef e) C)) :
    Run W0 P D arr k ((klass ⟨[], sb, D⟩ o, o) :: rest) e C := by
  have hkl : klass ⟨[], sb, D⟩ o = klassOp cfg0 o.op := by
    have h : klass ⟨[], sb, D⟩ o = bif (match o.dst with | some d => sb.any (Nat.beq d) | none => false) then .stable else klassOp cfg0 o.op := rfl
    rw [h, hs]; rfl
  rw [hkl]
  cases G with
  | false =>
    obtain ⟨ha, hb⟩ := h0 rfl
    cases hk : klassOp cfg0 o.op with
    | pure => exact .pure false undef hg (fun h => by cases h) (ha (by rw [hk]; rfl) _)
    | stable => exact .stable false undef hg (fun h => by cases h) (ha (by rw [hk]; rfl) _)
    | quiet => exact .quiet false undef hg (fun h => by cases h) (ha (by rw [hk]; rfl) _)
    | fresh => exact .fresh false (fun _ => undef) (.cells #[] 0) hg (fun h => by cases h) (fun h => by cases h) (fun _ => hb (by rw [hk]; rfl))
    | m => exact .m false (fun _ _ => False) hg (fun h => by cases h) (fun h => by cases h) (fun h => by cases h) (fun _ => hb (by rw [hk]; rfl))
  | true =>
    cases hf rfl with
    | pure hk hv =>
      obtain ⟨u, hu, hp⟩ := hv ρ e he
      have hr := h1 rfl ρ u C (Ext.refl ρ) (.inl hu) hM (Keep.refl _ _ _) hDC
      cases hk2 : klassOp cfg0 o.op with
      | pure => exact .pure true u hg (fun _ => hp) hr
      | stable => exact .stable true u hg (fun _ ρ' ha w _ => hp ρ' ha w) hr
      | quiet => exact .quiet true u hg (fun _ => PureV.quiet hp) hr
      | fresh => rw [hk2] at hk; cases hk
      | m => exact .m true _ hg (fun _ => (PureV.quiet hp).m) (fun _ v' C' hr' => by obtain ⟨rfl, rfl⟩ := hr'; exact weakD hDn hDC) (fun _ v' C' hr' _ => by obtain ⟨rfl, rfl⟩ := hr'; exact hr) (fun h => by cases h)
    | read b hk hl hv =>
      rw [hk]
      obtain ⟨r, c, ro, hρ, hin, ho⟩ := hM.live b hl
      obtain ⟨u, hu, hst⟩ := hv ρ e C c r ro he hρ hin ho
      exact .quiet true u hg (fun _ => hst.quiet (Weak.refl C)) (h1 rfl ρ u C (Ext.refl ρ) (.inl hu) hM (Keep.refl _ _ _) hDC)
    | quiet hk hv =>
      rw [hk]
      obtain ⟨u, hu, hq⟩ := hv ρ e C he hM
      exact .quiet true u hg (fun _ => hq) (h1 rfl ρ u C (Ext.refl ρ) (.inl hu) hM (Keep.refl _ _ _) hDC)
    | fresh cap hk hv =>
      rw [isFresh_eq hk]
      obtain ⟨mk, ro, hfr, hrel⟩ := hv ρ e he
      refine .fresh true mk ro hg (fun _ => hfr) (fun _ b hw => ?_) (fun h => by cases h)
      obtain ⟨w, hw⟩ := hw
      have hnd := hw.nodup
      simp only [List.flatten_cons, List.cons_append, List.nil_append, List.map_cons, List.nodup_cons] at hnd
      have hx := hM.ext_put (b, cap ρ)
      obtain ⟨h3, h4⟩ := hrel b (ρ.put nx (b, cap ρ)) hx (Rho.put_self _ _ _)
      exact h1 rfl _ (mk b) _ hx (.inl h3) (hM.new h4 (fun p hp e => hnd.1 (List.mem_map.2 ⟨p, hp, e⟩)) (by simp) (fun p hp => by simp [hp])) (fun q r' c' ro' _ _ _ hin => by simp [hin]) (fun q hq => by simp [hDC q hq])
    | m hk hmono hv =>
      rw [isM_eq hk]
      have keepD : ∀ C', Keep ρ M M' C C' → ∀ q ∈ D.flatten, q ∈ C'.flatten := fun C' hkp q hq => by
        obtain ⟨b, c, hρ, hl, hsame⟩ := hDo q hq
        exact hkp b q.1 c q.2 hl (hsame rfl) hρ (hDC q hq)
      refine .m true _ hg (fun _ => hv ρ e C he hM) (fun _ u C' hr => ?_) (fun _ u C' hr _ => ?_) (fun h => by cases h)
      · obtain ⟨ρ', _, _, hkp, _⟩ := hr
        exact weakD hDn (keepD C' hkp)
      · obtain ⟨ρ', hx, hM', hkp, hu⟩ := hr
        exact h1 rfl ρ' u C' hx hu hM' hkp (keepD C' hkp)
theorem Keep.trans {ρ ρ' : Rho} {M M' M1 : Mem} {nx nx' nx1 : Den.P} {C C' C1 : Heap} (h : Keep ρ M M' C C') (k : Keep ρ' M' M1 C' C1) (hx : Ext ρ ρ') (hm : Mono M nx M' nx') (hm1 : Mono M' nx' M1 nx1) (ho : ∀ b x, ρ b = some x → b.num < nx.num) : Keep ρ M M1 C C1 := by
  intro b r c ro hl hs hρ hC
  have hb : Mm.at M' b = Mm.at M b := hm.between hm1 (ho b _ hρ) hl (by rw [hs]; exact hl) (by rw [hs])
  exact k b r c ro (by rw [hb]; exact hl) (by rw [hs, hb]) (hx b _ hρ) (h b r c ro hl hb hρ hC)
structure Cond (D : Heap) (acc : List Den.P) (M0 : Mem) (nx0 : Den.P) (M1 : Mem) (ρ : Rho) (C : Heap) : Prop where
  nd : D.flatten.Nodup
  sub : ∀ q ∈ D.flatten, q ∈ C.flatten
  src : ∀ q ∈ D.flatten, ∃ b ∈ acc, ∃ c, ρ b = some (q.1, c)
  has : ∀ b ∈ acc, ∃ r c ro, ρ b = some (r, c) ∧ (r, ro) ∈ D.flatten ∧ ObR ρ c (Mm.at M0 b) ro
  same : ∀ b ∈ acc, b.num < nx0.num ∧ (Mm.at M0 b).live ∧ (Mm.at M1 b).live ∧ (Mm.at M1 b).ver = (Mm.at M0 b).ver
theorem Cond.step {D : Heap} {acc : List Den.P} {M0 M1 : Mem} {nx0 : Den.P} {ρ ρ' : Rho} {C C' : Heap} (h : Cond D acc M0 nx0 M1 ρ C) (hx : Ext ρ ρ') (hs : ∀ q ∈ D.flatten, q ∈ C'.flatten) : Cond D acc M0 nx0 M1 ρ' C' where
  nd := h.nd
  sub := hs
  src q hq := by obtain ⟨b, h1, c, h2⟩ := h.src q hq; exact ⟨b, h1, c, hx b _ h2⟩
  has b hb := by obtain ⟨r, c, ro, h1, h2, h3⟩ := h.has b hb; exact ⟨r, c, ro, hx b _ h1, h2, ObR.ext hx h3⟩
  same := h.same
theorem Cond.at {D : Heap} {acc : List Den.P} {M0 M M1 : Mem} {nx0 nx nx1 : Den.P} {ρ : Rho} {C : Heap} (h : Cond D acc M0 nx0 M1 ρ C) (h0 : Mono M0 nx0 M nx) (h1 : Mono M nx M1 nx1) {b : Den.P} (hb : b ∈ acc) : Mm.at M b = Mm.at M0 b := by
  obtain ⟨h2, h3, h4, h5⟩ := h.same b hb
  exact h0.between h1 h2 h3 h4 h5
def RegOk (W0 : World) (P : Program) (arr : Array Oper) (sb : List Nat) (l : List Oper) (ve : Tr VV) (M : Mem) (nx : Den.P) (acc : List Den.P) (ve1 : Tr VV) (M1 : Mem) (nx1 : Den.P) (acc1 : List Den.P) : Prop :=
  Mono M nx M1 nx1 ∧ ((∀ b ∈ acc, b ∈ acc1) ∧ (sb = [] → acc1 = acc)) ∧ ∀ (kont : Env → Heap → Prop) D M0 nx0 ρ e C, Mono M0 nx0 M nx → Cond D acc1 M0 nx0 M1 ρ C → ERl ρ ve e → MR W0 ρ M nx C →
    (∀ ρ1 e1 C1, Ext ρ ρ1 → ERl ρ1 ve1 e1 → MR W0 ρ1 M1 nx1 C1 → Keep ρ M M1 C C1 → (∀ t, (∀ o ∈ l, o.dst ≠ some t) → Eng.get e1 t = Eng.get e t) → kont e1 C1) →
    Run W0 P D arr kont (l.map fun o => (klass ⟨[], sb, D⟩ o, o)) e C
theorem get_ext {o : Oper} {e : Env} {g : Bool} {u : Value} {t : Nat} (h : o.dst ≠ some t) : Eng.get (ext o.dst g u e) t = Eng.get e t := by
  unfold ext
  cases hd : o.dst with
  | none => rfl
  | some d =>
    have : d ≠ t := fun e => h (by rw [hd, e])
    simp only [Eng.get, beq_ne this, cond_false]
theorem RegOk.on {arr : Array Oper} {sb : List Nat} {o : Oper} {l : List Oper} {ve ve2 ve1 : Tr VV} {M M' M1 : Mem} {nx nx' nx1 : Den.P} {acc acc1 : List Den.P} {v : VV}
    (hs : (match o.dst with | some d => sb.any (Nat.beq d) | none => false) = false) (hf : Fact W0 P ve M nx o v M' nx') (hg : ∀ ρ e, ERl ρ ve e → guardOk arr e o.guard true)
    (hset : ∀ ρ u e, ERl ρ ve e → (Rl ρ v u ∨ v = .no) → ERl ρ ve2 (ext o.dst true u e)) (ih : RegOk W0 P arr sb l ve2 M' nx' acc ve1 M1 nx1 acc1) : RegOk W0 P arr sb (o :: l) ve M nx acc ve1 M1 nx1 acc1 := by
  obtain ⟨hm, ha, hr⟩ := ih
  refine ⟨hf.mono.trans hm, ha, fun kont D M0 nx0 ρ e C h0 hc he hM hk => ?_⟩
  refine Run.fact hs (hg ρ e he) (fun _ => hf) he hM hc.nd hc.sub (fun q hq => ?_) (fun _ ρ' u C' hx hu hM' hkp hD => ?_) (fun h => by cases h)
  · obtain ⟨b, hb, c, hρ⟩ := hc.src q hq
    have h1 := hc.at h0 (hf.mono.trans hm) hb
    have h2 := hc.at (h0.trans hf.mono) hm hb
    exact ⟨b, c, hρ, by rw [h1]; exact (hc.same b hb).2.1, fun _ => by rw [h1, h2]⟩
  · refine hr kont D M0 nx0 ρ' _ C' (h0.trans hf.mono) (hc.step hx hD) (hset ρ' u e (he.ext hx) hu) hM' fun ρ1 e1 C1 h1 h2 h3 h4 h5 => ?_
    exact hk ρ1 e1 C1 (hx.trans h1) h2 h3 (hkp.trans h4 hx hf.mono hm hM.old) fun t ht => by
      rw [h5 t fun o ho => ht o (List.mem_cons_of_mem _ ho), get_ext (ht o (List.mem_cons_self ..))]
theorem RegOk.off {arr : Array Oper} {sb : List Nat} {o : Oper} {l : List Oper} {ve ve2 ve1 : Tr VV} {M M1 : Mem} {nx nx1 : Den.P} {acc acc1 : List Den.P}
    (hs : (match o.dst with | some d => sb.any (Nat.beq d) | none => false) = false) (hg : ∀ ρ e, ERl ρ ve e → guardOk arr e o.guard false)
    (h0 : isMF (klassOp cfg0 o.op) = false → ∀ ρ u e, ERl ρ ve e → ERl ρ ve2 (ext o.dst false u e)) (h1 : isMF (klassOp cfg0 o.op) = true → ∀ ρ e, ERl ρ ve e → ERl ρ ve2 (ext o.dst true undef e))
    (ih : RegOk W0 P arr sb l ve2 M nx acc ve1 M1 nx1 acc1) : RegOk W0 P arr sb (o :: l) ve M nx acc ve1 M1 nx1 acc1 := by
  obtain ⟨hm, ha, hr⟩ := ih
  refine ⟨hm, ha, fun kont D M0 nx0 ρ e C hm0 hc he hM hk => ?_⟩
  have go : ∀ g u, ERl ρ ve2 (ext o.dst g u e) → Run W0 P D arr kont (l.map fun o => (klass ⟨[], sb, D⟩ o, o)) (ext o.dst g u e) C := fun g u h =>
    hr kont D M0 nx0 ρ _ C hm0 hc h hM fun ρ1 e1 C1 h1 h2 h3 h4 h5 => hk ρ1 e1 C1 h1 h2 h3 h4 fun t ht => by
      rw [h5 t fun o ho => ht o (List.mem_cons_of_mem _ ho), get_ext (ht o (List.mem_cons_self ..))]
  refine Run.fact (v := .no) (M' := M) (nx' := nx) hs (hg ρ e he) (fun h => by cases h) he hM hc.nd hc.sub (fun q hq => ?_) (fun h => by cases h) (fun _ => ⟨fun h u => go _ _ (h0 h ρ u e he), fun h => go _ _ (h1 h ρ e he)⟩)
  obtain ⟨b, hb, c, hρ⟩ := hc.src q hq
  have h1 := hc.at hm0 hm hb
  exact ⟨b, c, hρ, by rw [h1]; exact (hc.same b hb).2.1, fun h => by cases h⟩
theorem klass_stable {D : Heap} {sb : List Nat} {o : Oper} {n : Nat} (hd : o.dst = some n) (hs : sb.any (Nat.beq n) = true) : klass ⟨[], sb, D⟩ o = .stable := by
  have h : klass ⟨[], sb, D⟩ o = bif (match o.dst with | some d => sb.any (Nat.beq d) | none => false) then .stable else klassOp cfg0 o.op := rfl
  rw [h, hd]
  show (bif sb.any (Nat.beq n) then Kind.stable else klassOp cfg0 o.op) = _
  rw [hs]; rfl
theorem RegOk.stab {arr : Array Oper} {sb : List Nat} {o : Oper} {l : List Oper} {ve ve1 : Tr VV} {M M1 : Mem} {nx nx1 : Den.P} {acc acc1 : List Den.P} {p b : Den.P} {v : VV}
    (hd : o.dst = some (Den.P.num p)) (hs : sb.any (Nat.beq p.num) = true) (hg : ∀ ρ e, ERl ρ ve e → guardOk arr e o.guard true)
    (h3 : ∀ ρ e D c r ro, ERl ρ ve e → ρ b = some (r, c) → (r, ro) ∈ D.flatten → ObR ρ c (Mm.at M b) ro → ∃ u, Rl ρ v u ∧ StabV W0 P e D o u)
    (ih : RegOk W0 P arr sb l (Tr.set .no ve p v) M nx (b :: acc) ve1 M1 nx1 acc1) : RegOk W0 P arr sb (o :: l) ve M nx acc ve1 M1 nx1 acc1 := by
  obtain ⟨hm, ha, hr⟩ := ih
  refine ⟨hm, ⟨fun b' hb' => ha.1 b' (List.mem_cons_of_mem _ hb'), fun h => by rw [h] at hs; cases hs⟩, fun kont D M0 nx0 ρ e C h0 hc he hM hk => ?_⟩
  obtain ⟨r, c, ro, h4, h5, h6⟩ := hc.has b (ha.1 b (List.mem_cons_self ..))
  obtain ⟨u, h7, h8⟩ := h3 ρ e D c r ro he h4 h5 (by rw [hc.at h0 hm (ha.1 b (List.mem_cons_self ..))]; exact h6)
  have hkl := klass_stable (D := D) hd hs
  show Run W0 P D arr kont ((klass ⟨[], sb, D⟩ o, o) :: l.map fun o => (klass ⟨[], sb, D⟩ o, o)) e C
  rw [hkl]
  refine .stable true u (hg ρ e he) (fun _ => h8) (hr kont D M0 nx0 ρ _ C h0 hc (by rw [hd]; exact he.set h7) hM fun ρ1 e1 C1 h1 h2 h3 h4 h5 => hk ρ1 e1 C1 h1 h2 h3 h4 fun n hn => ?_)
  rw [h5 n fun o ho => hn o (List.mem_cons_of_mem _ ho)]
  exact get_ext (hn _ (List.mem_cons_self ..))
theorem guard_none {arr : Array Oper} {e : Env} {o : Oper} (h : o.guard = none) : guardOk arr e o.guard true := by rw [h]; rfl
theorem guard_on {arr : Array Oper} {ρ : Rho} {ve : Tr VV} {e : Env} {o : Oper} {j : Nat} {w b : Bool} {q : Den.P} (he : ERl ρ ve e) (h : o.guard = some (j, w)) (hj : gslot arr j = some q.num) (hq : Tr.get .no ve q = .bool b) : guardOk arr e o.guard (b == w) := by
  rw [h]
  obtain ⟨u, h1, h2⟩ := he.on q (by rw [hq]; rfl)
  rw [hq] at h2
  exact ⟨q.num, true, u, b, hj, h1, fun _ => h2, rfl⟩
theorem guard_off {arr : Array Oper} {ρ : Rho} {ve : Tr VV} {e : Env} {o : Oper} {j : Nat} {w : Bool} {q : Den.P} (he : ERl ρ ve e) (h : o.guard = some (j, w)) (hj : gslot arr j = some q.num) (hq : Tr.get .no ve q = .off) : guardOk arr e o.guard false := by
  rw [h]
  obtain ⟨u, h1⟩ := he.off q hq
  exact ⟨q.num, false, u, false, hj, h1, fun h => (by cases h), rfl⟩
theorem wantB (b w : Bool) : (Bool.rec (notB w) w b : Bool) = (b == w) := by cases b <;> cases w <;> rfl
theorem dst_some {o : Oper} {sb : List Nat} {n : Nat} (hd : o.dst = some n) (hs : sb.any (Nat.beq n) = false) : (match o.dst with | some d => sb.any (Nat.beq d) | none => false) = false := by rw [hd]; exact hs
theorem dst_none {o : Oper} {sb : List Nat} (hd : o.dst = none) : (match o.dst with | some d => sb.any (Nat.beq d) | none => false) = false := by rw [hd]
theorem set_on {ρ : Rho} {ve : Tr VV} {e : Env} {o : Oper} {p : Den.P} {v : VV} {u : Value} (hd : o.dst = some p.num) (he : ERl ρ ve e) (hu : Rl ρ v u ∨ v = .no) : ERl ρ (Tr.set .no ve p v) (ext o.dst true u e) := by
  rw [hd]
  rcases hu with hu | rfl
  · exact he.set hu
  · exact he.setNo
theorem set_u {ρ : Rho} {ve : Tr VV} {e : Env} {o : Oper} {g : Bool} {u : Value} (hd : o.dst = none) (he : ERl ρ ve e) : ERl ρ ve (ext o.dst g u e) := by
  rw [hd]; exact he
theorem regK_ok (hT : TabOk P T) (hc : CallOk W0 P call) {arr : Array Oper} {sb : List Nat} {k : Kr} : ∀ {l : List Oper} {zs : List Z}, ZRs T P arr sb l zs → ∀ {ve : Tr VV} {M : Mem} {nx : Den.P} {acc : List Den.P}, regK call zs ve M nx acc k = true →
    ∃ ve1 M1 nx1 acc1, k ve1 M1 nx1 acc1 = true ∧ RegOk W0 P arr sb l ve M nx acc ve1 M1 nx1 acc1
  | _, _, .nil, ve, M, nx, acc, h => ⟨ve, M, nx, acc, h, Mono.refl _ _, ⟨fun _ h => h, fun _ => rfl⟩, fun kont D M0 nx0 ρ e C _ _ he hM hk => .nil (hk ρ e C (Ext.refl ρ) he hM (Keep.refl _ _ _) fun _ _ => rfl)⟩
  | o :: l, z :: zs, .cons hz hzs, ve, M, nx, acc, h => by
    have ih := fun {ve M nx acc} => regK_ok (k := k) hT hc hzs (ve := ve) (M := M) (nx := nx) (acc := acc)
    have onD : ∀ {p : Den.P} {y : Y}, o.dst = some p.num → sb.any (Nat.beq p.num) = false → TrY T P o y → (∀ ρ e, ERl ρ ve e → guardOk arr e o.guard true) → doK call ve M nx y (fun v M nx => Tr.setK .no ve p v fun e => regK call zs e M nx acc k) = true →
        ∃ ve1 M1 nx1 acc1, k ve1 M1 nx1 acc1 = true ∧ RegOk W0 P arr sb (o :: l) ve M nx acc ve1 M1 nx1 acc1 := fun {p y} hd hs hy hg h => by
      obtain ⟨v, M', nx', h1, h2⟩ := doK_ok (W0 := W0) hT hc hy h
      rw [Tr.setK_eq] at h1
      obtain ⟨ve1, M1, nx1, acc1, h3, h4⟩ := ih h1
      exact ⟨ve1, M1, nx1, acc1, h3, .on (dst_some hd hs) h2 hg (fun ρ u e he hu => set_on hd he hu) h4⟩
    have onU : ∀ {y : Y}, o.dst = none → TrY T P o y → (∀ ρ e, ERl ρ ve e → guardOk arr e o.guard true) → doK call ve M nx y (fun _ M nx => regK call zs ve M nx acc k) = true →
        ∃ ve1 M1 nx1 acc1, k ve1 M1 nx1 acc1 = true ∧ RegOk W0 P arr sb (o :: l) ve M nx acc ve1 M1 nx1 acc1 := fun {y} hd hy hg h => by
      obtain ⟨v, M', nx', h1, h2⟩ := doK_ok (W0 := W0) hT hc hy h
      obtain ⟨ve1, M1, nx1, acc1, h3, h4⟩ := ih h1
      exact ⟨ve1, M1, nx1, acc1, h3, .on (dst_none hd) h2 hg (fun ρ u e he hu => set_u hd he) h4⟩
    have onS : ∀ {p : Den.P} {t x x'} {i : TyI}, o.dst = some p.num → sb.any (Nat.beq p.num) = true → o.op = .load t x → T.find t = some i → i.d.known = true → XR x' x → (∀ ρ e, ERl ρ ve e → guardOk arr e o.guard true) → ldK ve M x' i.size i.d.agg (fun b v => Tr.setK .no ve p v fun e => regK call zs e M nx (b :: acc) k) = true →
        ∃ ve1 M1 nx1 acc1, k ve1 M1 nx1 acc1 = true ∧ RegOk W0 P arr sb (o :: l) ve M nx acc ve1 M1 nx1 acc1 := fun {p t x x' i} hd hs ho ht hkn hx hg h => by
      obtain ⟨d, op, ty, q, af, g⟩ := o
      cases ho
      obtain ⟨b, v, h1, h2, h3⟩ := ld_ok (W0 := W0) (P := P) (d := d) (ty := ty) (q := q) (af := af) (g := g) hT ht hkn hx h
      rw [Tr.setK_eq] at h1
      obtain ⟨ve1, M1, nx1, acc1, h4, h5⟩ := ih h1
      exact ⟨ve1, M1, nx1, acc1, h4, .stab hd hs hg h3 h5⟩
    have offD : ∀ {p : Den.P} {w : VV}, o.dst = some p.num → sb.any (Nat.beq p.num) = false → (w = .no ∨ isMF (klassOp cfg0 o.op) = false ∧ w = .off) → (∀ ρ e, ERl ρ ve e → guardOk arr e o.guard false) → (Tr.setK .no ve p w fun e => regK call zs e M nx acc k) = true →
        ∃ ve1 M1 nx1 acc1, k ve1 M1 nx1 acc1 = true ∧ RegOk W0 P arr sb (o :: l) ve M nx acc ve1 M1 nx1 acc1 := fun {p w} hd hs hw hg h => by
      rw [Tr.setK_eq] at h
      obtain ⟨ve1, M1, nx1, acc1, h3, h4⟩ := ih h
      refine ⟨ve1, M1, nx1, acc1, h3, .off (dst_some hd hs) hg (fun _ ρ u e he => ?_) (fun hm ρ e he => ?_) h4⟩
      · rw [hd]
        rcases hw with rfl | ⟨_, rfl⟩
        · exact he.setNo
        · exact he.setOff
      · rw [hd]
        rcases hw with rfl | ⟨hn, _⟩
        · exact he.setNo
        · rw [hn] at hm; cases hm
    have offS : ∀ {p : Den.P}, o.dst = some p.num → sb.any (Nat.beq p.num) = true → (∀ ρ e, ERl ρ ve e → guardOk arr e o.guard false) → (Tr.setK .no ve p .off fun e => regK call zs e M nx acc k) = true →
        ∃ ve1 M1 nx1 acc1, k ve1 M1 nx1 acc1 = true ∧ RegOk W0 P arr sb (o :: l) ve M nx acc ve1 M1 nx1 acc1 := fun {p} hd hs hg h => by
      rw [Tr.setK_eq] at h
      obtain ⟨ve1, M1, nx1, acc1, h3, hm, ha, hr⟩ := ih h
      refine ⟨ve1, M1, nx1, acc1, h3, hm, ha, fun kont D M0 nx0 ρ e C h0 hc he hM hk => ?_⟩
      have hkl := klass_stable (D := D) hd hs
      show Run W0 P D arr kont ((klass ⟨[], sb, D⟩ o, o) :: l.map fun o => (klass ⟨[], sb, D⟩ o, o)) e C
      rw [hkl]
      refine .stable false undef (hg ρ e he) (fun h => by cases h) (hr kont D M0 nx0 ρ _ C h0 hc (by rw [hd]; exact he.setOff) hM fun ρ1 e1 C1 h1 h2 h3 h4 h5 => hk ρ1 e1 C1 h1 h2 h3 h4 fun n hn => ?_)
      rw [h5 n fun o ho => hn o (List.mem_cons_of_mem _ ho)]
      exact get_ext (hn _ (List.mem_cons_self ..))
    have offU : o.dst = none → (∀ ρ e, ERl ρ ve e → guardOk arr e o.guard false) → regK call zs ve M nx acc k = true →
        ∃ ve1 M1 nx1 acc1, k ve1 M1 nx1 acc1 = true ∧ RegOk W0 P arr sb (o :: l) ve M nx acc ve1 M1 nx1 acc1 := fun hd hg h => by
      obtain ⟨ve1, M1, nx1, acc1, h3, h4⟩ := ih h
      exact ⟨ve1, M1, nx1, acc1, h3, .off (dst_none hd) hg (fun _ ρ u e he => set_u hd he) (fun hm ρ e he => set_u hd he) h4⟩
    cases hz with
    | d hg hd hs hy => exact onD hd hs hy (fun ρ e _ => guard_none hg) h
    | u hg hd hy => exact onU hd hy (fun ρ e _ => guard_none hg) h
    | @gd j w q p y hg hj hd hs hy hoff =>
      have h : (Tr.getK .no ve q fun g => g.onG (Tr.setK .no ve p y.off fun e => regK call zs e M nx acc k) fun b => Bool.rec (Tr.setK .no ve p y.off fun e => regK call zs e M nx acc k) (doK call ve M nx y fun v M nx => Tr.setK .no ve p v fun e => regK call zs e M nx acc k) (Bool.rec (notB w) w b)) = true := h
      rw [Tr.getK_eq] at h
      rcases VV.onG_true h with ⟨hq, h⟩ | ⟨b, hq, h⟩
      · exact offD hd hs hoff (fun ρ e he => guard_off he hg hj hq) h
      · rw [wantB] at h
        have hgo := fun ρ e (he : ERl ρ ve e) => guard_on he hg hj hq
        cases hb : (b == w) with
        | true => rw [hb] at h hgo; exact onD hd hs hy hgo h
        | false => rw [hb] at h hgo; exact offD hd hs hoff hgo h
    | @gu j w q y hg hj hd hy =>
      have h : (Tr.getK .no ve q fun g => g.onG (regK call zs ve M nx acc k) fun b => Bool.rec (regK call zs ve M nx acc k) (doK call ve M nx y fun _ M nx => regK call zs ve M nx acc k) (Bool.rec (notB w) w b)) = true := h
      rw [Tr.getK_eq] at h
      rcases VV.onG_true h with ⟨hq, h⟩ | ⟨b, hq, h⟩
      · exact offU hd (fun ρ e he => guard_off he hg hj hq) h
      · rw [wantB] at h
        have hgo := fun ρ e (he : ERl ρ ve e) => guard_on he hg hj hq
        cases hb : (b == w) with
        | true => rw [hb] at h hgo; exact onU hd hy hgo h
        | false => rw [hb] at h hgo; exact offU hd hgo h
    | s hg hd hs ho ht hkn hx => exact onS hd hs ho ht hkn hx (fun ρ e _ => guard_none hg) h
    | @gs j w q p x x' t i hg hj hd hs ho ht hkn hx =>
      have h : (Tr.getK .no ve q fun g => g.onG (Tr.setK .no ve p .off fun e => regK call zs e M nx acc k) fun b => Bool.rec (Tr.setK .no ve p .off fun e => regK call zs e M nx acc k) (ldK ve M x' i.size i.d.agg (fun b v => Tr.setK .no ve p v fun e => regK call zs e M nx (b :: acc) k)) (Bool.rec (notB w) w b)) = true := h
      rw [Tr.getK_eq] at h
      rcases VV.onG_true h with ⟨hq, h⟩ | ⟨b, hq, h⟩
      · exact offS hd hs (fun ρ e he => guard_off he hg hj hq) h
      · rw [wantB] at h
        have hgo := fun ρ e (he : ERl ρ ve e) => guard_on he hg hj hq
        cases hb : (b == w) with
        | true => rw [hb] at h hgo; exact onS hd hs ho ht hkn hx hgo h
        | false => rw [hb] at h hgo; exact offS hd hs hgo h
    | @c p x x' hg hd hs ho hx =>
      have h : (x'.getK ve fun v => v.onAny (Tr.setK .no ve p v fun e => regK call zs e M nx acc k)) = true := h
      rw [X.getK_eq] at h
      obtain ⟨hok, h⟩ := VV.onAny_true h
      rw [Tr.setK_eq] at h
      obtain ⟨ve1, M1, nx1, acc1, h3, h4⟩ := ih h
      refine ⟨ve1, M1, nx1, acc1, h3, .on (M' := M) (nx' := nx) (dst_some hd hs) (.pure ?_ fun ρ e he => ?_) (fun ρ e _ => guard_none hg) (fun ρ u e he hu => set_on hd he hu) h4⟩
      · rcases ho with ho | ho <;> (rw [ho]; rfl)
      · obtain ⟨u, h5, h6⟩ := hx.look he rfl hok
        obtain ⟨d, op, ty, q, af, g⟩ := o
        rcases ho with ho | ho <;> cases ho
        · exact ⟨u, h6, pure_move h5⟩
        · exact ⟨u, h6, pure_assign h5⟩
end
end Den
set_option linter.unusedVariables false
namespace Den
open Go Eng
def SlR (ρ : Rho) (v : VV) (x : Option (Bool × Value)) : Prop := (v.ok = true → ∃ u, x = some (true, u) ∧ Rl ρ v u) ∧ (v = .off → ∃ u, x = some (false, u))
theorem SlR.ext {ρ ρ' : Rho} {v : VV} {x} (h : SlR ρ v x) (k : Ext ρ ρ') : SlR ρ' v x := ⟨fun hv => by obtain ⟨u, h1, h2⟩ := h.1 hv; exact ⟨u, h1, Rl.ext k _ _ h2⟩, h.2⟩
theorem ERl.sl {ρ : Rho} {ve : Tr VV} {e : Env} (h : ERl ρ ve e) (p : P) : SlR ρ (Tr.get .no ve p) (Eng.get e p.num) := ⟨h.on p, h.off p⟩
theorem ERl.of {ρ : Rho} {ve : Tr VV} {e : Env} (h : ∀ p, SlR ρ (Tr.get .no ve p) (Eng.get e p.num)) : ERl ρ ve e := ⟨fun p => (h p).1, fun p => (h p).2⟩
theorem ERl.put {ρ : Rho} {ve : Tr VV} {e : Env} (h : ERl ρ ve e) {p : P} {v : VV} (hv : SlR ρ v (Eng.get e p.num)) : ERl ρ (Tr.set .no ve p v) e := .of fun q => by
  by_cases hqp : q = p
  · subst hqp; rw [Tr.get_set]; exact hv
  · rw [Tr.get_set_ne _ _ _ _ _ hqp]; exact h.sl q
theorem ERl.lf {ρ : Rho} {e : Env} : ERl ρ .lf e := ⟨fun p hp => (by rw [Tr.get_lf] at hp; cases hp), fun p hp => (by rw [Tr.get_lf] at hp; cases hp)⟩
def ENR (S : List (P × I)) (ρ : Rho) (ve : En) (e : Env) : Prop := ∀ p i, placeIn S p = some i → SlR ρ (ve.get i) (Eng.get e p.num)
theorem ENR.ext {S : List (P × I)} {ρ ρ' : Rho} {ve : En} {e : Env} (h : ENR S ρ ve e) (k : Ext ρ ρ') : ENR S ρ' ve e := fun p i hp => (h p i hp).ext k
def InsOk (S : List (P × I)) (ins : List (I × P × Bool)) : Prop := ∀ q ∈ ins, placeIn S q.2.1 = some q.1
theorem insK_true {S : List (P × I)} {ve : En} {k : Tr VV → Bool} : ∀ {ins : List (I × P × Bool)} {e0 : Tr VV}, InsOk S ins → insK ins ve e0 k = true → ∃ e1, k e1 = true ∧ ∀ ρ e, ENR S ρ ve e → ERl ρ e0 e → ERl ρ e1 e
  | [], e0, _, h => ⟨e0, h, fun _ _ _ h => h⟩
  | (i, p, b) :: r, e0, hi, h => by
    have h : (ve.getK i fun v => Bool.rec (Tr.setK .no e0 p v fun e0 => insK r ve e0 k) (v.onAny (Tr.setK .no e0 p v fun e0 => insK r ve e0 k)) b) = true := h
    rw [En.getK_eq] at h
    have h1 : insK r ve (Tr.set .no e0 p (ve.get i)) k = true := by
      cases b with
      | false => rwa [← Tr.setK_eq _ _ _ _ (fun e0 => insK r ve e0 k)]
      | true => rw [← Tr.setK_eq _ _ _ _ (fun e0 => insK r ve e0 k)]; exact (VV.onAny_true h).2
    obtain ⟨e1, h2, h3⟩ := insK_true (fun q hq => hi q (List.mem_cons_of_mem _ hq)) h1
    exact ⟨e1, h2, fun ρ e he h0 => h3 ρ e he (h0.put (he p i (hi (i, p, b) (List.mem_cons_self ..))))⟩
def Inj (S : List (P × I)) : Prop := ∀ p q i, placeIn S p = some i → placeIn S q = some i → p = q
theorem outsK_true {k : En → Bool} {ve1 : Tr VV} : ∀ {outs : List (I × P)} {ve : En}, outsK outs ve1 ve k = true →
    ∃ ve', k ve' = true ∧ ∀ i, (∃ p, (i, p) ∈ outs ∧ ve'.get i = Tr.get .no ve1 p) ∨ ((∀ p, (i, p) ∉ outs) ∧ ve'.get i = ve.get i)
  | [], ve, h => ⟨ve, h, fun i => .inr ⟨by simp, rfl⟩⟩
  | (j, p) :: r, ve, h => by
    have h : (Tr.getK .no ve1 p fun v => ve.setK j v fun e => outsK r ve1 e k) = true := h
    rw [Tr.getK_eq, En.setK_eq] at h
    obtain ⟨ve', h1, h2⟩ := outsK_true h
    refine ⟨ve', h1, fun i => ?_⟩
    rcases h2 i with ⟨q, h3, h4⟩ | ⟨h3, h4⟩
    · exact .inl ⟨q, List.mem_cons_of_mem _ h3, h4⟩
    · by_cases hij : i = j
      · subst hij
        exact .inl ⟨p, List.mem_cons_self .., by rw [h4, En.get_set]⟩
      · refine .inr ⟨fun q hq => ?_, by rw [h4, En.get_set_ne _ _ _ _ hij]⟩
        rcases List.mem_cons.1 hq with h | h
        · cases h; exact hij rfl
        · exact h3 q h
def OutsOk (S : List (P × I)) (l : List Oper) (outs : List (I × P)) : Prop := (∀ q ∈ outs, placeIn S q.2 = some q.1) ∧ ∀ o ∈ l, ∀ p i, o.dst = some (P.num p) → placeIn S p = some i → (i, p) ∈ outs
theorem outs_ok {S : List (P × I)} (hS : Inj S) {l : List Oper} {outs : List (I × P)} (ho : OutsOk S l outs) {k : En → Bool} {ve1 : Tr VV} {ve : En} (h : outsK outs ve1 ve k = true) :
    ∃ ve', k ve' = true ∧ ∀ ρ ρ1 e e1, ENR S ρ ve e → Ext ρ ρ1 → ERl ρ1 ve1 e1 → (∀ t, (∀ o ∈ l, o.dst ≠ some t) → Eng.get e1 t = Eng.get e t) → ENR S ρ1 ve' e1 := by
  obtain ⟨ve', h1, h2⟩ := outsK_true h
  refine ⟨ve', h1, fun ρ ρ1 e e1 he hx he1 hk p i hp => ?_⟩
  rcases h2 i with ⟨q, h3, h4⟩ | ⟨h3, h4⟩
  · have := hS p q i hp (ho.1 _ h3)
    subst this
    rw [h4]
    exact he1.sl p
  · rw [h4, hk p.num fun o ho' hd => h3 p (ho.2 o ho' p i hd hp)]
    exact (he p i hp).ext hx
section
variable {W0 : World} {P : Program} {T : Tab} {call : Call} {n : Nat}
def StepR (W0 : World) (P : Program) (n : Nat) (S : List (Den.P × I)) (c : Code) (ve : En) (M : Mem) (nx : Den.P) (ex : Exit) (ve' : En) (M' : Mem) (nx' : Den.P) : Prop :=
  Mono M nx M' nx' ∧ ∀ (K : Kont) ρ e C, ENR S ρ ve e → MR W0 ρ M nx C → (∀ ρ' e' C', Ext ρ ρ' → ENR S ρ' ve' e' → MR W0 ρ' M' nx' C' → Keep ρ M M' C C' → K ex e' C') → V W0 P n K c e C
theorem regS_ok (hT : TabOk P T) (hc : CallOk W0 P call) {S : List (Den.P × I)} (hS : Inj S) {id : Nat} {l : List Oper} {zs : List Z} {ins outs} (hz : ZRs T P l.toArray [] l zs) (hd : dstOk n l = true) (hi : InsOk S ins) (ho : OutsOk S l outs)
    {ve : En} {M : Mem} {nx : Den.P} {k : En → Mem → Den.P → Bool} (h : regS zs ins outs call ve M nx k = true) :
    ∃ ve' M' nx', k ve' M' nx' = true ∧ StepR W0 P n S (.region id l.toArray false) ve M nx .normal ve' M' nx' := by
  obtain ⟨e0, h, hin⟩ := insK_true hi h
  obtain ⟨ve1, M1, nx1, acc1, h, hm, ⟨_, hacc⟩, hr⟩ := regK_ok (W0 := W0) hT hc hz h
  obtain ⟨ve', h, hout⟩ := outs_ok hS ho h
  refine ⟨ve', M1, nx1, h, hm, fun K ρ e C he hM hk => ?_⟩
  have hacc := hacc rfl
  subst hacc
  refine V.region hd ⟨fun _ => hr (fun e C => K .normal e C) [] M nx ρ e C (Mono.refl _ _) ⟨by simp, by simp, by simp, by simp, by simp⟩ (hin ρ e he ERl.lf) hM ?_⟩
  exact fun ρ1 e1 C1 hx h1 h2 h3 h4 => hk ρ1 e1 C1 hx (hout ρ ρ1 e e1 he hx h1 h4) h2 h3
theorem keptB_true {M M' : Mem} : ∀ {acc : List Den.P}, keptB M M' acc = true → ∀ b ∈ acc, (Mm.at M b).live ∧ (Mm.at M' b).live ∧ (Mm.at M' b).ver = (Mm.at M b).ver
  | [], _, _, hb => by cases hb
  | b :: acc, h, b', hb' => by
    have h : (Tr.getK .dead M b fun o => Tr.getK .dead M' b fun o' => o.onV fun v => o'.onV fun v' => Bool.rec false (keptB M M' acc) (Nat.beq v v')) = true := h
    rw [getM_eq, getM_eq] at h
    obtain ⟨v, h1, e1, h⟩ := OB.onV_true h
    obtain ⟨v', h2, e2, h⟩ := OB.onV_true h
    cases hv : Nat.beq v v' with
    | false => rw [hv] at h; cases h
    | true =>
      rw [hv] at h
      rcases List.mem_cons.1 hb' with rfl | hb'
      · exact ⟨h1, h2, by rw [e1, e2]; exact (Nat.eq_of_beq_eq_true hv).symm⟩
      · exact keptB_true (acc := acc) h b' hb'
theorem mkD {ρ : Rho} {M : Mem} {nx : Den.P} {C : Heap} (hM : MR W0 ρ M nx C) : ∀ (acc : List Den.P), (∀ b ∈ acc, (Mm.at M b).live) → ∃ Dl : List Blk, Dl.Nodup ∧ (∀ q ∈ Dl, q ∈ C.flatten) ∧ (∀ q ∈ Dl, ∃ b ∈ acc, ∃ c, ρ b = some (q.1, c)) ∧ ∀ b ∈ acc, ∃ r c ro, ρ b = some (r, c) ∧ (r, ro) ∈ Dl ∧ ObR ρ c (Mm.at M b) ro
  | [], _ => ⟨[], by simp, by simp, by simp, by simp⟩
  | b :: acc, hl => by
    obtain ⟨Dl, h1, h2, h3, h4⟩ := mkD hM acc fun b hb => hl b (List.mem_cons_of_mem _ hb)
    by_cases hb : b ∈ acc
    · refine ⟨Dl, h1, h2, fun q hq => ?_, fun b' hb' => ?_⟩
      · obtain ⟨b', h5, h6⟩ := h3 q hq; exact ⟨b', List.mem_cons_of_mem _ h5, h6⟩
      · rcases List.mem_cons.1 hb' with rfl | hb'
        · exact h4 _ hb
        · exact h4 _ hb'
    · obtain ⟨r, c, ro, h5, h6, h7⟩ := hM.live b (hl b (List.mem_cons_self ..))
      refine ⟨(r, ro) :: Dl, List.nodup_cons.2 ⟨fun hq => ?_, h1⟩, fun q hq => ?_, fun q hq => ?_, fun b' hb' => ?_⟩
      · obtain ⟨b', h8, c', h9⟩ := h3 _ hq
        exact hb (hM.inj b b' r c c' (hl b (List.mem_cons_self ..)) (hl b' (List.mem_cons_of_mem _ h8)) h5 h9 ▸ h8)
      · rcases List.mem_cons.1 hq with rfl | hq
        · exact h6
        · exact h2 q hq
      · rcases List.mem_cons.1 hq with rfl | hq
        · exact ⟨b, List.mem_cons_self .., c, h5⟩
        · obtain ⟨b', h8, h9⟩ := h3 q hq; exact ⟨b', List.mem_cons_of_mem _ h8, h9⟩
      · rcases List.mem_cons.1 hb' with rfl | hb'
        · exact ⟨r, c, ro, h5, List.mem_cons_self .., h7⟩
        · obtain ⟨r', c', ro', h8, h9, h10⟩ := h4 _ hb'; exact ⟨r', c', ro', h8, List.mem_cons_of_mem _ h9, h10⟩
theorem regD_ok (hT : TabOk P T) (hfo : P.follows .mixedOrders = true) (hc : CallOk W0 P call) {S : List (Den.P × I)} (hS : Inj S) {id : Nat} {l : List Oper} {sb : List Nat} {zs : List Z} {ins outs} (hz : ZRs T P l.toArray sb l zs) (hch : chk n (l.map (klass ⟨[], sb, []⟩)) l.toArray = true) (hi : InsOk S ins) (ho : OutsOk S l outs)
    {ve : En} {M : Mem} {nx : Den.P} {k : En → Mem → Den.P → Bool} (h : regD zs [] ins outs call ve M nx k = true) :
    ∃ ve' M' nx', k ve' M' nx' = true ∧ StepR W0 P n S (.region id l.toArray true) ve M nx .normal ve' M' nx' := by
  obtain ⟨e0, h, hin⟩ := insK_true hi h
  obtain ⟨ve1, M1, nx1, acc1, h, hm, _, hr⟩ := regK_ok (W0 := W0) hT hc hz h
  have h : (Bool.rec false (outsK outs ve1 ve fun e => k e M1 nx1) (keptB M M1 acc1) : Bool) = true := h
  cases hkp : keptB M M1 acc1 with
  | false => rw [hkp] at h; cases h
  | true =>
    rw [hkp] at h
    have hkp := keptB_true hkp
    obtain ⟨ve', h, hout⟩ := outs_ok hS ho h
    refine ⟨ve', M1, nx1, h, hm, fun K ρ e C he hM hk => ?_⟩
    obtain ⟨Dl, h1, h2, h3, h4⟩ := mkD hM acc1 fun b hb => (hkp b hb).1
    have hw : Weak C [Dl] := weakD (by simpa using h1) (by simpa using h2)
    refine V.draw ⟨[], sb, [Dl]⟩ hfo hch hw ⟨fun _ => hr (fun e C => K .normal e C) [Dl] M nx ρ e C (Mono.refl _ _) ⟨by simpa using h1, by simpa using h2, by simpa using h3, by simpa using h4, fun b hb => ?_⟩ (hin ρ e he ERl.lf) hM ?_⟩
    · obtain ⟨h5, h6, h7⟩ := hkp b hb
      obtain ⟨r, c, ro, h8, _, _⟩ := h4 b hb
      exact ⟨hM.old b _ h8, h5, h6, h7⟩
    · exact fun ρ1 e1 C1 hx h1 h2 h3 h4 => hk ρ1 e1 C1 hx (hout ρ ρ1 e e1 he hx h1 h4) h2 h3
theorem regDL_ok (hT : TabOk P T) (hfo : P.follows .mixedOrders = true) (hc : CallOk W0 P call) {S : List (Den.P × I)} (hS : Inj S) {id : Nat} {l : List Oper} {ol : Oper} {sb : List Nat} {zs ms : List Z} {ins outs} (hol : l.getLast? = some ol) (hbl : lastOk l.toArray = true) (hz : ZRs T P l.toArray sb l.dropLast zs) (hz2 : ZRs T P l.toArray [] [ol] ms)
    (hch : chk n (l.map (klass ⟨[], sb, []⟩)) l.toArray = true) (hi : InsOk S ins) (ho : OutsOk S l outs)
    {ve : En} {M : Mem} {nx : Den.P} {k : En → Mem → Den.P → Bool} (h : regD zs ms ins outs call ve M nx k = true) :
    ∃ ve' M' nx', k ve' M' nx' = true ∧ StepR W0 P n S (.region id l.toArray true) ve M nx .normal ve' M' nx' := by
  obtain ⟨e0, h, hin⟩ := insK_true hi h
  obtain ⟨ve1, M1, nx1, acc1, h, hm, _, hr⟩ := regK_ok (W0 := W0) hT hc hz h
  have h : (Bool.rec false (regK call ms ve1 M1 nx1 [] fun e1 M nx _ => outsK outs e1 ve fun e => k e M nx) (keptB M M1 acc1) : Bool) = true := h
  cases hkp : keptB M M1 acc1 with
  | false => rw [hkp] at h; cases h
  | true =>
    rw [hkp] at h
    have hkp := keptB_true hkp
    obtain ⟨ve2, M2, nx2, acc2, h, hm2, ⟨_, hacc⟩, hr2⟩ := regK_ok (W0 := W0) hT hc hz2 h
    obtain ⟨ve', h, hout⟩ := outs_ok hS ho h
    have hacc := hacc rfl
    subst hacc
    refine ⟨ve', M2, nx2, h, hm.trans hm2, fun K ρ e C he hM hk => ?_⟩
    obtain ⟨Dl, h1, h2, h3, h4⟩ := mkD hM acc1 fun b hb => (hkp b hb).1
    have hw : Weak C [Dl] := weakD (by simpa using h1) (by simpa using h2)
    refine V.drawL ⟨[], sb, [Dl]⟩ hol hfo hch hbl hw ⟨fun _ => hr _ [Dl] M nx ρ e C (Mono.refl _ _) ⟨by simpa using h1, by simpa using h2, by simpa using h3, by simpa using h4, fun b hb => ?_⟩ (hin ρ e he ERl.lf) hM ?_⟩
    · obtain ⟨h5, h6, h7⟩ := hkp b hb
      obtain ⟨r, c, ro, h8, _, _⟩ := h4 b hb
      exact ⟨hM.old b _ h8, h5, h6, h7⟩
    · refine fun ρ1 e1 C1 hx h1 h2 h3 h4 => ⟨fun _ => hr2 (fun e C => K .normal e C) [] M1 nx1 ρ1 e1 C1 (Mono.refl _ _) ⟨by simp, by simp, by simp, by simp, by simp⟩ h1 h2 ?_⟩
      exact fun ρ2 e2 C2 hx2 h5 h6 h7 h8 => hk ρ2 e2 C2 (hx.trans hx2) (hout ρ ρ2 e e2 he (hx.trans hx2) h5 fun t ht => by
        rw [h8 t fun o ho => by rw [List.mem_singleton.1 ho]; exact ht ol (List.mem_of_getLast? hol), h4 t fun o ho => ht o ((List.dropLast_sublist l).subset ho)]) h6 (h3.trans h7 hx hm hm2 hM.old)
end
end Den
set_option linter.unusedVariables false
namespace Den
open Go Eng
noncomputable def Ex.out (x : Ex) : Exit := Ex.rec .normal .ret (fun id => .exit id) x
inductive XIR (S : List (P × I)) : XI → Operand → Prop
  | t {p : P} {i : I} : placeIn S p = some i → XIR S (.t i) (.tmp p.num)
  | c {v : VV} {o : Operand} : XR (.c v) o → XIR S (.c v) o
inductive CR (T : Tab) (Q : Program) (n : Nat) (S : List (P × I)) : Code → C1 → Prop
  | skip : CR T Q n S .skip .skip
  | reg {id l zs ins outs} : ZRs T Q l.toArray [] l zs → dstOk n l = true → InsOk S ins → OutsOk S l outs → CR T Q n S (.region id l.toArray false) (.reg zs ins outs)
  | drw {id l sb zs ins outs} : ZRs T Q l.toArray sb l zs → chk n (l.map (klass ⟨[], sb, []⟩)) l.toArray = true → InsOk S ins → OutsOk S l outs → CR T Q n S (.region id l.toArray true) (.drw zs [] ins outs)
  | drwL {id l ol sb zs ms ins outs} : l.getLast? = some ol → lastOk l.toArray = true → ZRs T Q l.toArray sb l.dropLast zs → ZRs T Q l.toArray [] [ol] ms → chk n (l.map (klass ⟨[], sb, []⟩)) l.toArray = true → InsOk S ins → OutsOk S l outs → CR T Q n S (.region id l.toArray true) (.drw zs ms ins outs)
  | seq {a b a' b'} : CR T Q n S a a' → CR T Q n S b b' → CR T Q n S (.seq a b) (.seq a' b')
  | cond {x x' a b a' b'} : XIR S x' x → CR T Q n S a a' → CR T Q n S b b' → CR T Q n S (.cond x a b) (.cond x' a' b')
  | blk {id c c'} : CR T Q n S c c' → CR T Q n S (.block id c) (.blk id c')
  | loop {c c'} : CR T Q n S c c' → CR T Q n S (.loop c) (.loop c')
  | exit {id} : CR T Q n S (.exit id) (.exit id)
  | ret : CR T Q n S .ret .ret
  | bad {c} : CR T Q n S c .bad
section
variable {W0 : World} {Q : Program} {T : Tab} {call : Call} {n : Nat} {S : List (P × I)}
theorem XIR.look {x : XI} {o : Operand} {ρ : Rho} {ve : En} {e : Env} {v : VV} (h : XIR S x o) (he : ENR S ρ ve e) (hv : x.get ve = v) (hok : v.ok = true) : ∃ u, Eng.look e o = some (true, u) ∧ Rl ρ v u := by
  cases h with
  | @t p i hp => exact (he p i hp).1 (by show (ve.get i).ok = true; rw [show ve.get i = v from hv]; exact hok) |>.imp fun u h => ⟨h.1, by rw [← hv]; exact h.2⟩
  | c hx => exact hx.look (ve := .lf) ERl.lf (by exact hv) hok
def LoopG (W0 : World) (Q : Program) (n : Nat) (K : Kont) (c : Code) : Nat → Env → Heap → Prop
  | 0, _, _ => False
  | m + 1, e, C => V W0 Q n (fun ex e C => match ex with | .normal => LoopG W0 Q n K c m e C | ex => K ex e C) c e C
theorem V.loopG {K : Kont} {c : Code} {m : Nat} {e : Env} {C : Heap} (h : LoopG W0 Q n K c m e C) : V W0 Q n K (.loop c) e C :=
  ⟨fun X a w ha hw => by
    intro b k cs
    have key : ∀ m e C a w, LoopG W0 Q n K c m e C → Has n a e → Sat W0 w (X :: C) →
        ∃ ex a' w', lift W0 n X K ex a' w' ∧ Arrives Q (lone (b.at a (.code c :: .inLoop c :: k)) cs w) b k cs ex a' w' := by
      intro m
      induction m with
      | zero => intro e C a w h; cases h
      | succ m ih =>
        intro e C a w h ha hw
        have hr := (show V W0 Q n (fun ex e C => match ex with | .normal => LoopG W0 Q n K c m e C | ex => K ex e C) c e C from h).wp X a w ha hw
        obtain ⟨ex, a₁, w₁, hq, harr⟩ := hr b (.inLoop c :: k) cs
        obtain ⟨e₁, C₁, ha₁, hw₁, hk⟩ := hq
        cases ex with
        | normal =>
          obtain ⟨e₂, a₂, w₂, hq₂, harr₂⟩ := ih e₁ C₁ a₁ w₁ hk ha₁ hw₁
          exact ⟨e₂, a₂, w₂, hq₂, .of_steps (Steps.trans harr (.one step_inLoop)) harr₂⟩
        | exit id => exact ⟨_, a₁, w₁, ⟨e₁, C₁, ha₁, hw₁, hk⟩, .pass (x := .inLoop c) rfl (fun _ _ => .inl (by simp)) harr⟩
        | goto l => exact ⟨_, a₁, w₁, ⟨e₁, C₁, ha₁, hw₁, hk⟩, .pass (x := .inLoop c) rfl (fun _ _ => .inl (by simp)) harr⟩
        | ret => exact ⟨_, a₁, w₁, ⟨e₁, C₁, ha₁, hw₁, hk⟩, .pass (x := .inLoop c) rfl (fun _ _ => .inl (by simp)) harr⟩
        | panic ch => exact ⟨_, a₁, w₁, ⟨e₁, C₁, ha₁, hw₁, hk⟩, .pass (x := .inLoop c) rfl (fun _ _ => .inl (by simp)) harr⟩
        | outgrown => exact ⟨_, a₁, w₁, ⟨e₁, C₁, ha₁, hw₁, hk⟩, .pass (x := .inLoop c) rfl (fun _ _ => .inl (by simp)) harr⟩
    obtain ⟨ex, a', w', hq, harr⟩ := key m e C a w h ha hw
    exact ⟨ex, a', w', hq, .of_steps (.one step_loop) harr⟩⟩
abbrev KS := Ex → En → Mem → P → Bool
def StepOk (W0 : World) (Q : Program) (n : Nat) (S : List (P × I)) (call : Call) (c : Code) (s : Step) : Prop := ∀ (ve : En) (M : Mem) (nx : P) (k : KS), s call ve M nx k = true →
  ∃ ex ve' M' nx', k ex ve' M' nx' = true ∧ StepR W0 Q n S c ve M nx ex.out ve' M' nx'
theorem loopN_ok {c : Code} {s : Step} (hs : StepOk W0 Q n S call c s) (k : KS) : ∀ (m : Nat) (ve : En) (M : Mem) (nx : P), loopN m s call ve M nx k = true →
    ∃ ex ve' M' nx', k ex ve' M' nx' = true ∧ Mono M nx M' nx' ∧ ∀ (K : Kont) ρ e C, ENR S ρ ve e → MR W0 ρ M nx C → (∀ ρ' e' C', Den.Ext ρ ρ' → ENR S ρ' ve' e' → MR W0 ρ' M' nx' C' → Keep ρ M M' C C' → K ex.out e' C') → LoopG W0 Q n K c m e C
  | 0, ve, M, nx, h => by cases h
  | m + 1, ve, M, nx, h => by
    have h : s call ve M nx (fun ex e M nx => Ex.rec (loopN m s call e M nx k) (k .r e M nx) (fun id => k (.x id) e M nx) ex) = true := h
    obtain ⟨ex, ve1, M1, nx1, h, hm, hr⟩ := hs ve M nx _ h
    cases ex with
    | n =>
      obtain ⟨ex, ve2, M2, nx2, h, hm2, hr2⟩ := loopN_ok hs k m ve1 M1 nx1 h
      refine ⟨ex, ve2, M2, nx2, h, hm.trans hm2, fun K ρ e C he hM hk => ?_⟩
      refine hr _ ρ e C he hM fun ρ1 e1 C1 hx h1 h2 h3 => ?_
      exact hr2 K ρ1 e1 C1 h1 h2 fun ρ2 e2 C2 hx2 h4 h5 h6 => hk ρ2 e2 C2 (hx.trans hx2) h4 h5 (h3.trans h6 hx hm hm2 hM.old)
    | r => exact ⟨.r, ve1, M1, nx1, h, hm, fun K ρ e C he hM hk => hr _ ρ e C he hM fun ρ1 e1 C1 hx h1 h2 h3 => hk ρ1 e1 C1 hx h1 h2 h3⟩
    | x id => exact ⟨.x id, ve1, M1, nx1, h, hm, fun K ρ e C he hM hk => hr _ ρ e C he hM fun ρ1 e1 C1 hx h1 h2 h3 => hk ρ1 e1 C1 hx h1 h2 h3⟩
theorem stepC_ok (hT : TabOk Q T) (hfo : Q.follows .mixedOrders = true) (hc : CallOk W0 Q call) (hS : Inj S) {c : Code} {c1 : C1} (hcr : CR T Q n S c c1) : StepOk W0 Q n S call c (stepC c1.toC2) := by
  induction hcr with
  | skip => exact fun ve M nx k h => ⟨.n, ve, M, nx, h, Mono.refl _ _, fun K ρ e C he hM hk => V.skip (hk ρ e C (Den.Ext.refl ρ) he hM (Keep.refl _ _ _))⟩
  | exit => exact fun ve M nx k h => ⟨.x _, ve, M, nx, h, Mono.refl _ _, fun K ρ e C he hM hk => V.exit (hk ρ e C (Den.Ext.refl ρ) he hM (Keep.refl _ _ _))⟩
  | ret => exact fun ve M nx k h => ⟨.r, ve, M, nx, h, Mono.refl _ _, fun K ρ e C he hM hk => V.ret (hk ρ e C (Den.Ext.refl ρ) he hM (Keep.refl _ _ _))⟩
  | bad => exact fun ve M nx k h => by cases h
  | reg hz hd hi ho =>
      intro ve M nx k h
      obtain ⟨ve', M', nx', h, hr⟩ := regS_ok (W0 := W0) hT hc hS hz hd hi ho (k := fun e M nx => k .n e M nx) h
      exact ⟨.n, ve', M', nx', h, hr⟩
  | drw hz hd hi ho =>
      intro ve M nx k h
      obtain ⟨ve', M', nx', h, hr⟩ := regD_ok (W0 := W0) hT hfo hc hS hz hd hi ho (k := fun e M nx => k .n e M nx) h
      exact ⟨.n, ve', M', nx', h, hr⟩
  | drwL hol hbl hz hz2 hd hi ho =>
      intro ve M nx k h
      obtain ⟨ve', M', nx', h, hr⟩ := regDL_ok (W0 := W0) hT hfo hc hS hol hbl hz hz2 hd hi ho (k := fun e M nx => k .n e M nx) h
      exact ⟨.n, ve', M', nx', h, hr⟩
  | @seq a b a' b' _ _ iha ihb =>
      intro ve M nx k h
      have h : stepC a'.toC2 call ve M nx (fun ex e M nx => Ex.rec (stepC b'.toC2 call e M nx k) (k .r e M nx) (fun id => k (.x id) e M nx) ex) = true := h
      obtain ⟨ex, ve1, M1, nx1, h, hm, hr⟩ := iha ve M nx _ h
      cases ex with
      | n =>
        obtain ⟨ex, ve2, M2, nx2, h, hm2, hr2⟩ := ihb ve1 M1 nx1 k h
        refine ⟨ex, ve2, M2, nx2, h, hm.trans hm2, fun K ρ e C he hM hk => V.seq ?_⟩
        refine hr _ ρ e C he hM fun ρ1 e1 C1 hx h1 h2 h3 => ?_
        exact hr2 K ρ1 e1 C1 h1 h2 fun ρ2 e2 C2 hx2 h4 h5 h6 => hk ρ2 e2 C2 (hx.trans hx2) h4 h5 (h3.trans h6 hx hm hm2 hM.old)
      | r => exact ⟨.r, ve1, M1, nx1, h, hm, fun K ρ e C he hM hk => V.seq (hr _ ρ e C he hM fun ρ1 e1 C1 hx h1 h2 h3 => hk ρ1 e1 C1 hx h1 h2 h3)⟩
      | x id => exact ⟨.x id, ve1, M1, nx1, h, hm, fun K ρ e C he hM hk => V.seq (hr _ ρ e C he hM fun ρ1 e1 C1 hx h1 h2 h3 => hk ρ1 e1 C1 hx h1 h2 h3)⟩
  | @cond x x' a b a' b' hx _ _ iha ihb =>
      intro ve M nx k h
      have h : (x'.getK ve fun v => v.onB fun c => Bool.rec (stepC b'.toC2 call ve M nx k) (stepC a'.toC2 call ve M nx k) c) = true := h
      rw [XI.getK_eq] at h
      obtain ⟨c, hv, h⟩ := VV.onB_true h
      cases c with
      | true =>
        obtain ⟨ex, ve1, M1, nx1, h, hm, hr⟩ := iha ve M nx k h
        refine ⟨ex, ve1, M1, nx1, h, hm, fun K ρ e C he hM hk => ?_⟩
        obtain ⟨u, h1, rfl⟩ := hx.look he hv rfl
        exact V.cond h1 (fun _ => hr K ρ e C he hM hk) (fun h => by cases h)
      | false =>
        obtain ⟨ex, ve1, M1, nx1, h, hm, hr⟩ := ihb ve M nx k h
        refine ⟨ex, ve1, M1, nx1, h, hm, fun K ρ e C he hM hk => ?_⟩
        obtain ⟨u, h1, rfl⟩ := hx.look he hv rfl
        exact V.cond h1 (fun h => by cases h) (fun _ => hr K ρ e C he hM hk)
  | @blk id c c' _ ih =>
      intro ve M nx k h
      have h : stepC c'.toC2 call ve M nx (fun ex e M nx => Ex.rec (k .n e M nx) (k .r e M nx) (fun id' => Bool.rec (k (.x id') e M nx) (k .n e M nx) (Nat.beq id' id)) ex) = true := h
      obtain ⟨ex, ve1, M1, nx1, h, hm, hr⟩ := ih ve M nx _ h
      cases ex with
      | n => exact ⟨.n, ve1, M1, nx1, h, hm, fun K ρ e C he hM hk => V.block (hr _ ρ e C he hM fun ρ1 e1 C1 hx h1 h2 h3 => hk ρ1 e1 C1 hx h1 h2 h3)⟩
      | r => exact ⟨.r, ve1, M1, nx1, h, hm, fun K ρ e C he hM hk => V.block (hr _ ρ e C he hM fun ρ1 e1 C1 hx h1 h2 h3 => hk ρ1 e1 C1 hx h1 h2 h3)⟩
      | x id' =>
        cases hb : Nat.beq id' id with
        | true =>
          have h : (Bool.rec (k (.x id') ve1 M1 nx1) (k .n ve1 M1 nx1) (Nat.beq id' id) : Bool) = true := h
          rw [hb] at h
          exact ⟨.n, ve1, M1, nx1, h, hm, fun K ρ e C he hM hk => V.block (hr _ ρ e C he hM fun ρ1 e1 C1 hx h1 h2 h3 => by
            show (bif Nat.beq id' id then K .normal e1 C1 else K (.exit id') e1 C1)
            rw [hb]; exact hk ρ1 e1 C1 hx h1 h2 h3)⟩
        | false =>
          have h : (Bool.rec (k (.x id') ve1 M1 nx1) (k .n ve1 M1 nx1) (Nat.beq id' id) : Bool) = true := h
          rw [hb] at h
          exact ⟨.x id', ve1, M1, nx1, h, hm, fun K ρ e C he hM hk => V.block (hr _ ρ e C he hM fun ρ1 e1 C1 hx h1 h2 h3 => by
            show (bif Nat.beq id' id then K .normal e1 C1 else K (.exit id') e1 C1)
            rw [hb]; exact hk ρ1 e1 C1 hx h1 h2 h3)⟩
  | @loop c c' _ ih =>
      intro ve M nx k h
      obtain ⟨ex, ve1, M1, nx1, h, hm, hr⟩ := loopN_ok ih k 100000 ve M nx h
      exact ⟨ex, ve1, M1, nx1, h, hm, fun K ρ e C he hM hk => V.loopG (hr K ρ e C he hM hk)⟩
end
end Den
set_option linter.unusedVariables false
namespace Den
open Go Eng
theorem enter_true {k : En → Bool} : ∀ {vs : List VV} {ps : List I} {e : En}, (List.rec (motive := fun _ => List I → En → (En → Bool) → Bool) (fun _ e k => k e) (fun v _ ih ps e k => List.rec (motive := fun _ => (List I → En → (En → Bool) → Bool) → VV → En → (En → Bool) → Bool) (fun _ _ _ _ => false) (fun i r _ ih v e k => e.setK i v fun e => ih r e k) ps ih v e k) vs ps e k : Bool) = true →
    ps.Nodup → vs.length ≤ ps.length ∧ ∃ e', k e' = true ∧ (∀ i, i ∉ ps → e'.get i = e.get i) ∧ ∀ (j : Nat) (i : I), ps[j]? = some i → e'.get i = (vs[j]?).getD (e.get i)
  | [], ps, e, h, _ => ⟨Nat.zero_le _, e, h, fun _ _ => rfl, fun _ _ _ => by simp⟩
  | v :: vs, [], e, h, _ => by cases h
  | v :: vs, i :: ps, e, h, hn => by
    obtain ⟨hi, hn⟩ := List.nodup_cons.1 hn
    have h := (En.setK_eq v i e _).symm.trans h
    obtain ⟨h1, e', h2, h3, h4⟩ := enter_true h hn
    refine ⟨by simpa using h1, e', h2, fun j hj => ?_, fun j i' hj => ?_⟩
    · rw [h3 j fun hq => hj (List.mem_cons_of_mem _ hq), En.get_set_ne _ _ _ _ fun e => hj (by rw [e]; exact List.mem_cons_self ..)]
    · cases j with
      | zero =>
        simp only [List.getElem?_cons_zero, Option.some.injEq] at hj
        subst hj
        rw [h3 i hi, En.get_set]
        simp
      | succ j =>
        simp only [List.getElem?_cons_succ] at hj ⊢
        rw [h4 j i' hj, En.get_set_ne _ _ _ _ fun e => hi (by rw [← e]; exact List.mem_of_getElem? hj)]
def EntOk (S : List (P × I)) (ps : List I) : Prop := ps.Nodup ∧ ps.length ≤ 24 ∧ ∀ p i, placeIn S p = some i → ps[p.num]? = some i ∨ i ∉ ps
theorem get_zipR : ∀ (k a : Nat) (l : List Value) (t : Nat) (v : Value), l[t]? = some v → t < k → Eng.get (zipE (List.range' a k) l) (a + t) = some (true, v)
  | 0, _, _, _, _, _, h => by cases h
  | k + 1, a, [], t, v, h, _ => by simp at h
  | k + 1, a, u :: l, t, v, h, ht => by
    rw [List.range'_succ]
    cases t with
    | zero =>
      simp only [List.getElem?_cons_zero, Option.some.injEq] at h
      subst h
      simp [zipE, Eng.get]
    | succ t =>
      have := get_zipR k (a + 1) l t v (by simpa using h) (by omega)
      have hne : Nat.beq a (a + (t + 1)) = false := beq_ne (by omega)
      simp only [zipE, Eng.get, hne, cond_false]
      rw [← this]
      congr 1
      omega
theorem get_enter {l : List Value} {t : Nat} {v : Value} (h : l[t]? = some v) (ht : t < 24) : Eng.get (enterEnv l) t = some (true, v) := by
  have := get_zipR 24 0 l t v h ht
  rw [Nat.zero_add] at this
  exact this
theorem enterK_true {S : List (P × I)} {ps : List I} (hp : EntOk S ps) {vs : List VV} {k : En → Bool} (h : enterK vs ps k = true) : vs.length ≤ ps.length ∧ ∃ ve, k ve = true ∧ ∀ ρ us, Rls ρ vs us → ENR S ρ ve (enterEnv us) := by
  obtain ⟨h1, ve, h2, h3, h4⟩ := enter_true h hp.1
  refine ⟨h1, ve, h2, fun ρ us hu p i hpi => ?_⟩
  have no : ∀ x, SlR ρ .no x := fun x => ⟨fun h => (by cases h), fun h => (by cases h)⟩
  rcases hp.2.2 p i hpi with hj | hj
  · rw [h4 _ _ hj, En.get_nl]
    cases hv : vs[p.num]? with
    | none => exact no _
    | some v =>
      obtain ⟨u, hu1, hu2⟩ := hu.get hv
      have hlt : p.num < 24 := Nat.lt_of_lt_of_le (List.getElem?_eq_some_iff.1 hj).1 hp.2.1
      refine ⟨fun _ => ⟨u, get_enter hu1 hlt, hu2⟩, fun ho => ?_⟩
      simp only [Option.getD_some] at ho
      subst ho
      exact hu2.elim
  · rw [h3 i hj, En.get_nl]
    exact no _
inductive RVR (T : Tab) (S : List (P × I)) : List ResultVar → List RV → Prop
  | nil : RVR T S [] []
  | t {p : P} {i rs vs} : placeIn S p = some i → RVR T S rs vs → RVR T S (.tmp p.num :: rs) (.t i :: vs)
  | c {p : P} {i t ti rs vs} : T.find t = some ti → ti.d.known = true → placeIn S p = some i → RVR T S rs vs → RVR T S (.cell p.num t :: rs) (.c i ti.size ti.d.agg :: vs)
section
variable {W0 : World} {Q : Program} {T : Tab} {call : Call} {n : Nat} {S : List (P × I)}
theorem resK_true (hT : TabOk Q T) {ve : En} {M : Mem} {nx : P} : ∀ {rs : List ResultVar} {rv : List RV} {k : List VV → Bool}, RVR T S rs rv → resK ve M rv k = true → ∃ vs, k vs = true ∧ ∀ ρ e C, ENR S ρ ve e → MR W0 ρ M nx C → ∃ us, Rls ρ vs us ∧ Res T W0 e C rs us
  | _, _, k, .nil, h => ⟨[], h, fun _ _ _ _ _ => ⟨[], rfl, .nil⟩⟩
  | _, _, k, @RVR.t _ _ p i rs rv hp hr, h => by
    have h : (ve.getK i fun v => v.onAny (resK ve M rv fun l => k (v :: l))) = true := h
    rw [En.getK_eq] at h
    obtain ⟨hok, h⟩ := VV.onAny_true h
    obtain ⟨vs, h1, h2⟩ := resK_true hT hr h
    refine ⟨_, h1, fun ρ e C he hM => ?_⟩
    obtain ⟨us, h3, h4⟩ := h2 ρ e C he hM
    obtain ⟨u, h5, h6⟩ := (he p i hp).1 hok
    exact ⟨u :: us, ⟨u, us, rfl, h6, h3⟩, .tmp h5 h4⟩
  | _, _, k, @RVR.c _ _ p i t ti rs rv ht hkn hp hr, h => by
    have h : (ve.getK i fun v => v.onP fun b o => Tr.getK .dead M b fun ob => ob.onC fun _ _ l _ => cutK o ti.size ti.d.agg l fun v => resK ve M rv fun l => k (v :: l)) = true := h
    rw [En.getK_eq] at h
    obtain ⟨b, o, hv, h⟩ := VV.onP_true h
    rw [getM_eq] at h
    obtain ⟨bt, s, l, ver, hb, h⟩ := OB.onC_true h
    have live : (Mm.at M b).live := by rw [hb]; trivial
    have ptr : ∀ {ρ e C}, ENR S ρ ve e → MR W0 ρ M nx C → ∃ r c ro, ρ b = some (r, c) ∧ (r, ro) ∈ C.flatten ∧ ObR ρ c (.cells bt s l ver) ro ∧ Eng.get e p.num = some (true, .pointer (some ⟨r, o, none⟩)) := fun {ρ e C} he hM => by
      obtain ⟨r, c, ro, h1, h2, h3⟩ := hM.live b live
      rw [hb] at h3
      obtain ⟨w, hw, hr⟩ := (he p i hp).1 (by rw [hv]; rfl)
      rw [hv] at hr
      obtain ⟨r', c', hρ', rfl⟩ := hr
      rw [h1] at hρ'
      cases hρ'
      exact ⟨r, c, ro, h1, h2, h3, hw⟩
    rcases cutK_true h with ⟨hag, v, hlv, h⟩ | ⟨hag, hle, h⟩ | ⟨hag, hz, h⟩
    · obtain ⟨vs, h1, h2⟩ := resK_true hT hr h
      refine ⟨_, h1, fun ρ e C he hM => ?_⟩
      obtain ⟨us, h3, h4⟩ := h2 ρ e C he hM
      obtain ⟨r, c, ro, hρ, hm, ho, hw⟩ := ptr he hM
      obtain ⟨us', rest, rfl, hl, hone, _⟩ := ho
      obtain ⟨u, hu, hvu⟩ := hl.get hlv
      have hlt := (List.getElem?_eq_some_iff.1 hu).1
      exact ⟨u :: us, ⟨u, us, rfl, hvu, h3⟩, .cell hw ht (by rw [hkn, hag]; rfl) (Rd.of_at (mem_at hm) (by simp [List.getElem?_append_left hlt, hu])) h4⟩
    · obtain ⟨vs, h1, h2⟩ := resK_true hT hr h
      refine ⟨_, h1, fun ρ e C he hM => ?_⟩
      obtain ⟨us, h3, h4⟩ := h2 ρ e C he hM
      obtain ⟨r, c, ro, hρ, hm, ho, hw⟩ := ptr he hM
      obtain ⟨us', rest, rfl, hl, hone, _⟩ := ho
      have hus := hl.length
      refine ⟨_ :: us, ⟨_, us, rfl, ⟨_, rfl, (hl.drop o).take ti.size, ?_⟩, h3⟩, .cells hw ht hag (cells_rdL hm fun j u hj => ?_) (by rw [List.length_take, List.length_drop]; omega) h4⟩
      · rw [List.all_eq_true] at hone ⊢
        exact fun z hz => hone z (List.mem_of_mem_drop (List.mem_of_mem_take hz))
      · rw [List.getElem?_take] at hj
        split at hj
        · rwa [List.getElem?_drop] at hj
        · cases hj
    · obtain ⟨vs, h1, h2⟩ := resK_true hT hr h
      refine ⟨_, h1, fun ρ e C he hM => ?_⟩
      obtain ⟨us, h3, h4⟩ := h2 ρ e C he hM
      obtain ⟨r, c, ro, hρ, hm, ho, hw⟩ := ptr he hM
      exact ⟨_ :: us, ⟨_, us, rfl, ⟨[], rfl, rfl, rfl⟩, h3⟩, .cells hw ht hag (fun j u hj => by simp at hj) (by simp [hz]) h4⟩
theorem tupK_true {l : List VV} {k : VV → Bool} (h : tupK l k = true) : ∃ v, k v = true ∧ ∀ ρ us, Rls ρ l us → Rl ρ v (tup us) := by
  match l, h with
  | [], h => exact ⟨.tup [], h, fun ρ us hu => by cases hu; exact ⟨[], rfl, rfl⟩⟩
  | [v], h => exact ⟨v, h, fun ρ us hu => by obtain ⟨u, r, rfl, h1, h2⟩ := hu; cases h2; exact h1⟩
  | v :: w :: s, h => exact ⟨.tup (v :: w :: s), h, fun ρ us hu => by
      have hu0 := hu
      obtain ⟨u, r, rfl, h1, h2⟩ := hu
      obtain ⟨u2, r2, rfl, h3, h4⟩ := h2
      exact ⟨_, rfl, hu0⟩⟩
inductive FR (T : Tab) (Q : Program) (f : Nat) : F2 → Prop
  | no : FR T Q f .no
  | mk {fn : Func} {c : Code} {c1 : C1} {S : List (P × I)} {rs : List ResultVar} {rv : List RV} {ps : List I} {body : Step} : Q.funcs[f]? = some fn → fn.body = some c → fn.results = rs.toArray → callable Q f = true → CR T Q fn.ntmps S c c1 → Inj S → EntOk S ps → Nat.ble ps.length fn.ntmps = true → Nat.ble rs.length 4 = true →
      RVR T S rs rv → body = stepC c1.toC2 → FR T Q f (.mk body rv ps)
theorem f_mk_ok (hT : TabOk Q T) (hfo : Q.follows .mixedOrders = true) (hc : CallOk W0 Q call) {f : P} {body : Step} {rv : List RV} {ps : List I} (hF : FR T Q f.num (.mk body rv ps)) {vs : List VV} {M : Mem} {nx : P} {k : Kv} (h : f_mk body rv ps call vs M nx k = true) :
    ∃ v M' nx', k v M' nx' = true ∧ Mono M nx M' nx' ∧
      ∀ ρ C us, Rls ρ vs us → MR W0 ρ M nx C → DoesC W0 Q f.num us.toArray C fun u C' => ∃ ρ', Den.Ext ρ ρ' ∧ MR W0 ρ' M' nx' C' ∧ Keep ρ M M' C C' ∧ Rl ρ' v u := by
  cases hF with
  | @mk fn c c1 S rs _ _ _ hf hb hr hcb hcr hS hE hpl hrl hrv hbody =>
    subst hbody
    obtain ⟨h1, ve, h2, h3⟩ := enterK_true hE h
    obtain ⟨ex, ve', M', nx', h4, hm, hrun⟩ := stepC_ok (W0 := W0) (call := call) hT hfo hc hS hcr ve M nx _ h2
    have fin : ∀ ex : Ex, (ex = .n ∨ ex = .r) → (∀ (K : Kont) ρ e C, ENR S ρ ve e → MR W0 ρ M nx C → (∀ ρ' e' C', Den.Ext ρ ρ' → ENR S ρ' ve' e' → MR W0 ρ' M' nx' C' → Keep ρ M M' C C' → K ex.out e' C') → V W0 Q fn.ntmps K c e C) → (resK ve' M' rv fun l => tupK l fun v => k v M' nx') = true →
        ∃ v M' nx', k v M' nx' = true ∧ Mono M nx M' nx' ∧ ∀ ρ C us, Rls ρ vs us → MR W0 ρ M nx C → DoesC W0 Q f.num us.toArray C fun u C' => ∃ ρ', Den.Ext ρ ρ' ∧ MR W0 ρ' M' nx' C' ∧ Keep ρ M M' C C' ∧ Rl ρ' v u := fun ex hex hrun h4 => by
      obtain ⟨ws, h5, h6⟩ := resK_true (W0 := W0) (nx := nx') hT hrv h4
      obtain ⟨v, h7, h8⟩ := tupK_true h5
      refine ⟨v, M', nx', h7, hm, fun ρ C us hu hM => .inl ⟨hcb, ?_⟩⟩
      have hul : us.length ≤ fn.ntmps := by rw [hu.length]; exact Nat.le_trans h1 (Nat.le_of_ble_eq_true hpl)
      refine Does.enter hf hb hr rfl (Nat.ble_eq_true_of_le hul) hrl (hrun _ ρ _ C (h3 ρ us hu) hM fun ρ' e' C' hx he' hM' hkp => ?_)
      obtain ⟨us', h9, h10⟩ := h6 ρ' e' C' he' hM'
      rcases hex with rfl | rfl
      · exact retR_end hT h10 (Weak.refl C') ⟨ρ', hx, hM', hkp, h8 ρ' us' h9⟩
      · exact retR_ret hT h10 (Weak.refl C') ⟨ρ', hx, hM', hkp, h8 ρ' us' h9⟩
    cases ex with
    | n => exact fin .n (.inl rfl) hrun h4
    | r => exact fin .r (.inr rfl) hrun h4
    | x id => cases h4
def SpecOk (W0 : World) (Q : Program) (f : Nat) (g : List VV → Mem → P → SpR) : Prop := ∀ vs M nx v M' nx', g vs M nx = .some v M' nx' → Mono M nx M' nx' ∧ callable Q f = true ∧
  ∀ ρ C us, Rls ρ vs us → MR W0 ρ M nx C → Does W0 Q f us.toArray C fun u C' => ∃ ρ', Den.Ext ρ ρ' ∧ MR W0 ρ' M' nx' C' ∧ Keep ρ M M' C C' ∧ Rl ρ' v u
def SpecX (Q : Program) (f : Nat) (g : List VV → Mem → P → SpR) : Prop := ∀ vs M nx v M' nx', g vs M nx = .some v M' nx' → M' = M ∧ nx' = nx ∧ ∀ ρ us, Rls ρ vs us → ∃ u, Rl ρ v u ∧ ∀ w, (callFunc f us.toArray).run Q w = .ok (.value u) w
def FTOk (W0 : World) (Q : Program) (T : Tab) (FT : Tr F2) : Prop := ∀ f : P, FR T Q f.num (Tr.get .no FT f) ∨ ∃ g, Tr.get .no FT f = .spec g ∧ (SpecOk W0 Q f.num g ∨ SpecX Q f.num g)
theorem callF_ok (hT : TabOk Q T) (hfo : Q.follows .mixedOrders = true) {FT : Tr F2} (hFT : FTOk W0 Q T FT) : ∀ fuel, CallOk W0 Q (callF FT fuel)
  | 0 => fun f vs M nx k h => by cases h
  | fuel + 1 => fun f vs M nx k h => by
    have ih := callF_ok hT hfo hFT fuel
    have h : (Tr.getK .no FT f fun F => F2.rec (motive := fun _ => Call → List VV → Mem → P → Kv → Bool) (fun _ _ _ _ _ => false) f_mk f_spec F (callF FT fuel) vs M nx k) = true := h
    rw [Tr.getK_eq] at h
    rcases hFT f with hF | ⟨g, hg, hs⟩
    · cases hG : Tr.get .no FT f with
      | no => rw [hG] at h; cases h
      | mk body rv ps => rw [hG] at h hF; exact f_mk_ok hT hfo ih hF h
      | spec g => rw [hG] at hF; cases hF
    · rw [hg] at h
      have h : (SpR.rec (motive := fun _ => Kv → Bool) (fun _ => false) (fun v M nx k => k v M nx) (g vs M nx) k : Bool) = true := h
      cases hgv : g vs M nx with
      | no => rw [hgv] at h; cases h
      | some v M' nx' =>
        rw [hgv] at h
        have hk : k v M' nx' = true := h
        rcases hs with hs | hs
        · obtain ⟨h1, h2, h3⟩ := hs vs M nx v M' nx' hgv
          exact ⟨v, M', nx', hk, h1, fun ρ C us hu hM => .inl ⟨h2, h3 ρ C us hu hM⟩⟩
        · obtain ⟨rfl, rfl, h3⟩ := hs vs M nx v M' nx' hgv
          refine ⟨v, _, _, hk, Mono.refl _ _, fun ρ C us hu hM => ?_⟩
          obtain ⟨u, h4, h5⟩ := h3 ρ us hu
          exact .inr ⟨u, h5, ρ, Den.Ext.refl ρ, hM, Keep.refl _ _ _, h4⟩
end
end Den
