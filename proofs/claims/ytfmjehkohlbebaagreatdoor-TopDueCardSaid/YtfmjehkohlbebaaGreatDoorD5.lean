/-
  An interpreter: regions, code and calls are sound. No conditions but those that each theorem names.
-/
import Derived.Test.YtfmjehkohlbebaaGreatDoorD4
/-
  Regions.
-/
set_option linter.unusedVariables false
namespace Den
open Go Eng

theorem ERl.setNo {ρ : Rho} {ve : Tr VV} {e : Env} (h : ERl ρ ve e) {p : P} {g : Bool} {u : Value} : ERl ρ (Tr.set .no ve p .no) ((p.num, g, u) :: e) := by
  refine ⟨fun q hq => ?_, fun q hq => ?_⟩
  · by_cases hqp : q = p
    · subst hqp
      rw [Tr.get_set] at hq
      cases hq
    · rw [Tr.get_set_ne _ _ _ _ _ hqp] at hq ⊢
      obtain ⟨w, h1, h2⟩ := h.on q hq
      exact ⟨w, by simp only [Eng.get, beq_ne (fun e => hqp (P.num_inj e.symm)), cond_false]; exact h1, h2⟩
  · by_cases hqp : q = p
    · subst hqp
      rw [Tr.get_set] at hq
      cases hq
    · rw [Tr.get_set_ne _ _ _ _ _ hqp] at hq
      obtain ⟨w, h1⟩ := h.off q hq
      exact ⟨w, by simp only [Eng.get, beq_ne (fun e => hqp (P.num_inj e.symm)), cond_false]; exact h1⟩

/-- A list of blocks that lie in memory, none twice, is part of it. -/
theorem weak_of_mem : ∀ {l m : List Blk}, l.Nodup → (∀ p ∈ l, p ∈ m) → ∃ r, m.Perm (l ++ r)
  | [], m, _, _ => ⟨m, by simp⟩
  | p :: l, m, hn, hm => by
    obtain ⟨a, b, rfl⟩ := List.append_of_mem (hm p (by simp))
    obtain ⟨hp, hn⟩ := List.nodup_cons.1 hn
    obtain ⟨r, hr⟩ := weak_of_mem (l := l) (m := a ++ b) hn fun q hq => by
      have := hm q (by simp [hq])
      simp only [List.mem_append, List.mem_cons] at this ⊢
      rcases this with h | h | h
      · exact .inl h
      · subst h; exact absurd hq hp
      · exact .inr h
    exact ⟨r, List.perm_middle.trans (by simpa using hr.cons p)⟩

theorem weakD {C D : Heap} (hn : D.flatten.Nodup) (hm : ∀ p ∈ D.flatten, p ∈ C.flatten) : Weak C D := weak_of_mem hn hm

inductive ZR (T : Tab) (P : Program) (arr : Array Oper) (sb : List Nat) : Oper → Z → Prop
  | d {o p y} : o.guard = none → o.dst = some (Den.P.num p) → sb.any (Nat.beq p.num) = false → TrY T P o y → ZR T P arr sb o (.d p y)
  | u {o y} : o.guard = none → o.dst = none → TrY T P o y → ZR T P arr sb o (.u y)
  | gd {o j w q p y} : o.guard = some (j, w) → gslot arr j = some (Den.P.num q) → o.dst = some (Den.P.num p) → sb.any (Nat.beq p.num) = false → TrY T P o y → (y.off = .no ∨ isMF (klassOp cfg0 o.op) = false ∧ y.off = .off) → ZR T P arr sb o (.gd q w p y)
  | gu {o j w q y} : o.guard = some (j, w) → gslot arr j = some (Den.P.num q) → o.dst = none → TrY T P o y → ZR T P arr sb o (.gu q w y)
  | s {o p x x' t i} : o.guard = none → o.dst = some (Den.P.num p) → sb.any (Nat.beq p.num) = true → o.op = .load t x → T.find t = some i → i.d.known = true → XR x' x → ZR T P arr sb o (.s p x' i.size i.d.agg)
  | gs {o j w q p x x' t i} : o.guard = some (j, w) → gslot arr j = some (Den.P.num q) → o.dst = some (Den.P.num p) → sb.any (Nat.beq p.num) = true → o.op = .load t x → T.find t = some i → i.d.known = true → XR x' x → ZR T P arr sb o (.gs q w p x' i.size i.d.agg)
  | c {o p x x'} : o.guard = none → o.dst = some (Den.P.num p) → sb.any (Nat.beq p.num) = false → (o.op = .move x ∨ o.op = .assign x) → XR x' x → ZR T P arr sb o (.c p x')

inductive ZRs (T : Tab) (P : Program) (arr : Array Oper) (sb : List Nat) : List Oper → List Z → Prop
  | nil : ZRs T P arr sb [] []
  | cons {o z os zs} : ZR T P arr sb o z → ZRs T P arr sb os zs → ZRs T P arr sb (o :: os) (z :: zs)

section
variable {W0 : World} {P : Program} {T : Tab} {call : Call}

/-- One operation, wanted or not. -/
theorem Run.fact {arr : Array Oper} {k : Env → Heap → Prop} {D : Heap} {sb : List Nat} {o : Oper} {rest : List (Kind × Oper)} {ve : Tr VV} {M M' : Mem} {nx nx' : Den.P} {v : VV} {ρ : Rho} {e : Env} {C : Heap} {G : Bool}
    (hs : (match o.dst with | some d => sb.any (Nat.beq d) | none => false) = false) (hg : guardOk arr e o.guard G) (hf : G = true → Fact W0 P ve M nx o v M' nx') (he : ERl ρ ve e) (hM : MR W0 ρ M nx C)
    (hDn : D.flatten.Nodup) (hDC : ∀ q ∈ D.flatten, q ∈ C.flatten) (hDo : ∀ q ∈ D.flatten, ∃ b c, ρ b = some (q.1, c) ∧ (Mm.at M b).live ∧ (G = true → Mm.at M' b = Mm.at M b))
    (h1 : G = true → ∀ ρ' u C', Ext ρ ρ' → (Rl ρ' v u ∨ v = .no) → MR W0 ρ' M' nx' C' → Keep ρ M M' C C' → (∀ q ∈ D.flatten, q ∈ C'.flatten) → Run W0 P D arr k rest (ext o.dst true u e) C')
    (h0 : G = false → (isMF (klassOp cfg0 o.op) = false → ∀ u, Run W0 P D arr k rest (ext o.dst false u e) C) ∧ (isMF (klassOp cfg0 o.op) = true → Run W0 P D arr k rest (ext o.dst true undef e) C)) :
    Run W0 P D arr k ((klass ⟨[], sb, D⟩ o, o) :: rest) e C := by
  have hkl : klass ⟨[], sb, D⟩ o = klassOp cfg0 o.op := by
    have h : klass ⟨[], sb, D⟩ o = bif (match o.dst with | some d => sb.any (Nat.beq d) | none => false) then .stable else klassOp cfg0 o.op := rfl
    rw [h, hs]; rfl
  rw [hkl]
  cases G with
  | false =>
    obtain ⟨ha, hb⟩ := h0 rfl
    cases hk : klassOp cfg0 o.op with
    | pure => exact .pure false undef hg (fun h => by cases h) (ha (by rw [hk]; rfl) _)
    | stable => exact .stable false undef hg (fun h => by cases h) (ha (by rw [hk]; rfl) _)
    | quiet => exact .quiet false undef hg (fun h => by cases h) (ha (by rw [hk]; rfl) _)
    | fresh => exact .fresh false (fun _ => undef) (.cells #[] 0) hg (fun h => by cases h) (fun h => by cases h) (fun _ => hb (by rw [hk]; rfl))
    | m => exact .m false (fun _ _ => False) hg (fun h => by cases h) (fun h => by cases h) (fun h => by cases h) (fun _ => hb (by rw [hk]; rfl))
  | true =>
    cases hf rfl with
    | pure hk hv =>
      obtain ⟨u, hu, hp⟩ := hv ρ e he
      have hr := h1 rfl ρ u C (Ext.refl ρ) (.inl hu) hM (Keep.refl _ _ _) hDC
      cases hk2 : klassOp cfg0 o.op with
      | pure => exact .pure true u hg (fun _ => hp) hr
      | stable => exact .stable true u hg (fun _ ρ' ha w _ => hp ρ' ha w) hr
      | quiet => exact .quiet true u hg (fun _ => PureV.quiet hp) hr
      | fresh => rw [hk2] at hk; cases hk
      | m => exact .m true _ hg (fun _ => (PureV.quiet hp).m) (fun _ v' C' hr' => by obtain ⟨rfl, rfl⟩ := hr'; exact weakD hDn hDC) (fun _ v' C' hr' _ => by obtain ⟨rfl, rfl⟩ := hr'; exact hr) (fun h => by cases h)
    | read b hk hl hv =>
      rw [hk]
      obtain ⟨r, c, ro, hρ, hin, ho⟩ := hM.live b hl
      obtain ⟨u, hu, hst⟩ := hv ρ e C c r ro he hρ hin ho
      exact .quiet true u hg (fun _ => hst.quiet (Weak.refl C)) (h1 rfl ρ u C (Ext.refl ρ) (.inl hu) hM (Keep.refl _ _ _) hDC)
    | quiet hk hv =>
      rw [hk]
      obtain ⟨u, hu, hq⟩ := hv ρ e C he hM
      exact .quiet true u hg (fun _ => hq) (h1 rfl ρ u C (Ext.refl ρ) (.inl hu) hM (Keep.refl _ _ _) hDC)
    | fresh cap hk hv =>
      rw [isFresh_eq hk]
      obtain ⟨mk, ro, hfr, hrel⟩ := hv ρ e he
      refine .fresh true mk ro hg (fun _ => hfr) (fun _ b hw => ?_) (fun h => by cases h)
      obtain ⟨w, hw⟩ := hw
      have hnd := hw.nodup
      simp only [List.flatten_cons, List.cons_append, List.nil_append, List.map_cons, List.nodup_cons] at hnd
      have hx := hM.ext_put (b, cap)
      obtain ⟨h3, h4⟩ := hrel b (ρ.put nx (b, cap)) hx (Rho.put_self _ _ _)
      exact h1 rfl _ (mk b) _ hx (.inl h3) (hM.new h4 (fun p hp e => hnd.1 (List.mem_map.2 ⟨p, hp, e⟩)) (by simp) (fun p hp => by simp [hp])) (fun q r' c' ro' _ _ _ hin => by simp [hin]) (fun q hq => by simp [hDC q hq])
    | m hk hmono hv =>
      rw [isM_eq hk]
      have keepD : ∀ C', Keep ρ M M' C C' → ∀ q ∈ D.flatten, q ∈ C'.flatten := fun C' hkp q hq => by
        obtain ⟨b, c, hρ, hl, hsame⟩ := hDo q hq
        exact hkp b q.1 c q.2 hl (hsame rfl) hρ (hDC q hq)
      refine .m true _ hg (fun _ => hv ρ e C he hM) (fun _ u C' hr => ?_) (fun _ u C' hr _ => ?_) (fun h => by cases h)
      · obtain ⟨ρ', _, _, hkp, _⟩ := hr
        exact weakD hDn (keepD C' hkp)
      · obtain ⟨ρ', hx, hM', hkp, hu⟩ := hr
        exact h1 rfl ρ' u C' hx hu hM' hkp (keepD C' hkp)


theorem Keep.trans {ρ ρ' : Rho} {M M' M1 : Mem} {nx nx' nx1 : Den.P} {C C' C1 : Heap} (h : Keep ρ M M' C C') (k : Keep ρ' M' M1 C' C1) (hx : Ext ρ ρ') (hm : Mono M nx M' nx') (hm1 : Mono M' nx' M1 nx1) (ho : ∀ b x, ρ b = some x → b.num < nx.num) : Keep ρ M M1 C C1 := by
  intro b r c ro hl hs hρ hC
  have hb : Mm.at M' b = Mm.at M b := hm.between hm1 (ho b _ hρ) hl (by rw [hs]; exact hl) (by rw [hs])
  exact k b r c ro (by rw [hb]; exact hl) (by rw [hs, hb]) (hx b _ hρ) (h b r c ro hl hb hρ hC)

/-- The blocks that stable loads read. -/
structure Cond (D : Heap) (acc : List Den.P) (M0 : Mem) (nx0 : Den.P) (M1 : Mem) (ρ : Rho) (C : Heap) : Prop where
  nd : D.flatten.Nodup
  sub : ∀ q ∈ D.flatten, q ∈ C.flatten
  src : ∀ q ∈ D.flatten, ∃ b ∈ acc, ∃ c, ρ b = some (q.1, c)
  has : ∀ b ∈ acc, ∃ r c ro, ρ b = some (r, c) ∧ (r, ro) ∈ D.flatten ∧ ObR ρ c (Mm.at M0 b) ro
  same : ∀ b ∈ acc, b.num < nx0.num ∧ (Mm.at M0 b).live ∧ (Mm.at M1 b).live ∧ (Mm.at M1 b).ver = (Mm.at M0 b).ver

theorem Cond.step {D : Heap} {acc : List Den.P} {M0 M1 : Mem} {nx0 : Den.P} {ρ ρ' : Rho} {C C' : Heap} (h : Cond D acc M0 nx0 M1 ρ C) (hx : Ext ρ ρ') (hs : ∀ q ∈ D.flatten, q ∈ C'.flatten) : Cond D acc M0 nx0 M1 ρ' C' where
  nd := h.nd
  sub := hs
  src q hq := by obtain ⟨b, h1, c, h2⟩ := h.src q hq; exact ⟨b, h1, c, hx b _ h2⟩
  has b hb := by obtain ⟨r, c, ro, h1, h2, h3⟩ := h.has b hb; exact ⟨r, c, ro, hx b _ h1, h2, ObR.ext hx h3⟩
  same := h.same

theorem Cond.at {D : Heap} {acc : List Den.P} {M0 M M1 : Mem} {nx0 nx nx1 : Den.P} {ρ : Rho} {C : Heap} (h : Cond D acc M0 nx0 M1 ρ C) (h0 : Mono M0 nx0 M nx) (h1 : Mono M nx M1 nx1) {b : Den.P} (hb : b ∈ acc) : Mm.at M b = Mm.at M0 b := by
  obtain ⟨h2, h3, h4, h5⟩ := h.same b hb
  exact h0.between h1 h2 h3 h4 h5

/-- What a region's operations do. -/
def RegOk (W0 : World) (P : Program) (arr : Array Oper) (sb : List Nat) (l : List Oper) (ve : Tr VV) (M : Mem) (nx : Den.P) (acc : List Den.P) (ve1 : Tr VV) (M1 : Mem) (nx1 : Den.P) (acc1 : List Den.P) : Prop :=
  Mono M nx M1 nx1 ∧ ((∀ b ∈ acc, b ∈ acc1) ∧ (sb = [] → acc1 = acc)) ∧ ∀ (kont : Env → Heap → Prop) D M0 nx0 ρ e C, Mono M0 nx0 M nx → Cond D acc1 M0 nx0 M1 ρ C → ERl ρ ve e → MR W0 ρ M nx C →
    (∀ ρ1 e1 C1, Ext ρ ρ1 → ERl ρ1 ve1 e1 → MR W0 ρ1 M1 nx1 C1 → Keep ρ M M1 C C1 → (∀ t, (∀ o ∈ l, o.dst ≠ some t) → Eng.get e1 t = Eng.get e t) → kont e1 C1) →
    Run W0 P D arr kont (l.map fun o => (klass ⟨[], sb, D⟩ o, o)) e C

theorem get_ext {o : Oper} {e : Env} {g : Bool} {u : Value} {t : Nat} (h : o.dst ≠ some t) : Eng.get (ext o.dst g u e) t = Eng.get e t := by
  unfold ext
  cases hd : o.dst with
  | none => rfl
  | some d =>
    have : d ≠ t := fun e => h (by rw [hd, e])
    simp only [Eng.get, beq_ne this, cond_false]

/-- One operation ahead of the others. -/
theorem RegOk.on {arr : Array Oper} {sb : List Nat} {o : Oper} {l : List Oper} {ve ve2 ve1 : Tr VV} {M M' M1 : Mem} {nx nx' nx1 : Den.P} {acc acc1 : List Den.P} {v : VV}
    (hs : (match o.dst with | some d => sb.any (Nat.beq d) | none => false) = false) (hf : Fact W0 P ve M nx o v M' nx') (hg : ∀ ρ e, ERl ρ ve e → guardOk arr e o.guard true)
    (hset : ∀ ρ u e, ERl ρ ve e → (Rl ρ v u ∨ v = .no) → ERl ρ ve2 (ext o.dst true u e)) (ih : RegOk W0 P arr sb l ve2 M' nx' acc ve1 M1 nx1 acc1) : RegOk W0 P arr sb (o :: l) ve M nx acc ve1 M1 nx1 acc1 := by
  obtain ⟨hm, ha, hr⟩ := ih
  refine ⟨hf.mono.trans hm, ha, fun kont D M0 nx0 ρ e C h0 hc he hM hk => ?_⟩
  refine Run.fact hs (hg ρ e he) (fun _ => hf) he hM hc.nd hc.sub (fun q hq => ?_) (fun _ ρ' u C' hx hu hM' hkp hD => ?_) (fun h => by cases h)
  · obtain ⟨b, hb, c, hρ⟩ := hc.src q hq
    have h1 := hc.at h0 (hf.mono.trans hm) hb
    have h2 := hc.at (h0.trans hf.mono) hm hb
    exact ⟨b, c, hρ, by rw [h1]; exact (hc.same b hb).2.1, fun _ => by rw [h1, h2]⟩
  · refine hr kont D M0 nx0 ρ' _ C' (h0.trans hf.mono) (hc.step hx hD) (hset ρ' u e (he.ext hx) hu) hM' fun ρ1 e1 C1 h1 h2 h3 h4 h5 => ?_
    exact hk ρ1 e1 C1 (hx.trans h1) h2 h3 (hkp.trans h4 hx hf.mono hm hM.old) fun t ht => by
      rw [h5 t fun o ho => ht o (List.mem_cons_of_mem _ ho), get_ext (ht o (List.mem_cons_self ..))]

/-- One operation that is not wanted. -/
theorem RegOk.off {arr : Array Oper} {sb : List Nat} {o : Oper} {l : List Oper} {ve ve2 ve1 : Tr VV} {M M1 : Mem} {nx nx1 : Den.P} {acc acc1 : List Den.P}
    (hs : (match o.dst with | some d => sb.any (Nat.beq d) | none => false) = false) (hg : ∀ ρ e, ERl ρ ve e → guardOk arr e o.guard false)
    (h0 : isMF (klassOp cfg0 o.op) = false → ∀ ρ u e, ERl ρ ve e → ERl ρ ve2 (ext o.dst false u e)) (h1 : isMF (klassOp cfg0 o.op) = true → ∀ ρ e, ERl ρ ve e → ERl ρ ve2 (ext o.dst true undef e))
    (ih : RegOk W0 P arr sb l ve2 M nx acc ve1 M1 nx1 acc1) : RegOk W0 P arr sb (o :: l) ve M nx acc ve1 M1 nx1 acc1 := by
  obtain ⟨hm, ha, hr⟩ := ih
  refine ⟨hm, ha, fun kont D M0 nx0 ρ e C hm0 hc he hM hk => ?_⟩
  have go : ∀ g u, ERl ρ ve2 (ext o.dst g u e) → Run W0 P D arr kont (l.map fun o => (klass ⟨[], sb, D⟩ o, o)) (ext o.dst g u e) C := fun g u h =>
    hr kont D M0 nx0 ρ _ C hm0 hc h hM fun ρ1 e1 C1 h1 h2 h3 h4 h5 => hk ρ1 e1 C1 h1 h2 h3 h4 fun t ht => by
      rw [h5 t fun o ho => ht o (List.mem_cons_of_mem _ ho), get_ext (ht o (List.mem_cons_self ..))]
  refine Run.fact (v := .no) (M' := M) (nx' := nx) hs (hg ρ e he) (fun h => by cases h) he hM hc.nd hc.sub (fun q hq => ?_) (fun h => by cases h) (fun _ => ⟨fun h u => go _ _ (h0 h ρ u e he), fun h => go _ _ (h1 h ρ e he)⟩)
  obtain ⟨b, hb, c, hρ⟩ := hc.src q hq
  have h1 := hc.at hm0 hm hb
  exact ⟨b, c, hρ, by rw [h1]; exact (hc.same b hb).2.1, fun h => by cases h⟩

theorem klass_stable {D : Heap} {sb : List Nat} {o : Oper} {n : Nat} (hd : o.dst = some n) (hs : sb.any (Nat.beq n) = true) : klass ⟨[], sb, D⟩ o = .stable := by
  have h : klass ⟨[], sb, D⟩ o = bif (match o.dst with | some d => sb.any (Nat.beq d) | none => false) then .stable else klassOp cfg0 o.op := rfl
  rw [h, hd]
  show (bif sb.any (Nat.beq n) then Kind.stable else klassOp cfg0 o.op) = _
  rw [hs]; rfl

/-- A load from a block that stays as it was. -/
theorem RegOk.stab {arr : Array Oper} {sb : List Nat} {o : Oper} {l : List Oper} {ve ve1 : Tr VV} {M M1 : Mem} {nx nx1 : Den.P} {acc acc1 : List Den.P} {p b : Den.P} {v : VV}
    (hd : o.dst = some (Den.P.num p)) (hs : sb.any (Nat.beq p.num) = true) (hg : ∀ ρ e, ERl ρ ve e → guardOk arr e o.guard true)
    (h3 : ∀ ρ e D c r ro, ERl ρ ve e → ρ b = some (r, c) → (r, ro) ∈ D.flatten → ObR ρ c (Mm.at M b) ro → ∃ u, Rl ρ v u ∧ StabV W0 P e D o u)
    (ih : RegOk W0 P arr sb l (Tr.set .no ve p v) M nx (b :: acc) ve1 M1 nx1 acc1) : RegOk W0 P arr sb (o :: l) ve M nx acc ve1 M1 nx1 acc1 := by
  obtain ⟨hm, ha, hr⟩ := ih
  refine ⟨hm, ⟨fun b' hb' => ha.1 b' (List.mem_cons_of_mem _ hb'), fun h => by rw [h] at hs; cases hs⟩, fun kont D M0 nx0 ρ e C h0 hc he hM hk => ?_⟩
  obtain ⟨r, c, ro, h4, h5, h6⟩ := hc.has b (ha.1 b (List.mem_cons_self ..))
  obtain ⟨u, h7, h8⟩ := h3 ρ e D c r ro he h4 h5 (by rw [hc.at h0 hm (ha.1 b (List.mem_cons_self ..))]; exact h6)
  have hkl := klass_stable (D := D) hd hs
  show Run W0 P D arr kont ((klass ⟨[], sb, D⟩ o, o) :: l.map fun o => (klass ⟨[], sb, D⟩ o, o)) e C
  rw [hkl]
  refine .stable true u (hg ρ e he) (fun _ => h8) (hr kont D M0 nx0 ρ _ C h0 hc (by rw [hd]; exact he.set h7) hM fun ρ1 e1 C1 h1 h2 h3 h4 h5 => hk ρ1 e1 C1 h1 h2 h3 h4 fun n hn => ?_)
  rw [h5 n fun o ho => hn o (List.mem_cons_of_mem _ ho)]
  exact get_ext (hn _ (List.mem_cons_self ..))

theorem guard_none {arr : Array Oper} {e : Env} {o : Oper} (h : o.guard = none) : guardOk arr e o.guard true := by rw [h]; rfl
theorem guard_on {arr : Array Oper} {ρ : Rho} {ve : Tr VV} {e : Env} {o : Oper} {j : Nat} {w b : Bool} {q : Den.P} (he : ERl ρ ve e) (h : o.guard = some (j, w)) (hj : gslot arr j = some q.num) (hq : Tr.get .no ve q = .bool b) : guardOk arr e o.guard (b == w) := by
  rw [h]
  obtain ⟨u, h1, h2⟩ := he.on q (by rw [hq]; rfl)
  rw [hq] at h2
  exact ⟨q.num, true, u, b, hj, h1, fun _ => h2, rfl⟩
theorem guard_off {arr : Array Oper} {ρ : Rho} {ve : Tr VV} {e : Env} {o : Oper} {j : Nat} {w : Bool} {q : Den.P} (he : ERl ρ ve e) (h : o.guard = some (j, w)) (hj : gslot arr j = some q.num) (hq : Tr.get .no ve q = .off) : guardOk arr e o.guard false := by
  rw [h]
  obtain ⟨u, h1⟩ := he.off q hq
  exact ⟨q.num, false, u, false, hj, h1, fun h => (by cases h), rfl⟩
theorem wantB (b w : Bool) : (Bool.rec (notB w) w b : Bool) = (b == w) := by cases b <;> cases w <;> rfl

theorem dst_some {o : Oper} {sb : List Nat} {n : Nat} (hd : o.dst = some n) (hs : sb.any (Nat.beq n) = false) : (match o.dst with | some d => sb.any (Nat.beq d) | none => false) = false := by rw [hd]; exact hs
theorem dst_none {o : Oper} {sb : List Nat} (hd : o.dst = none) : (match o.dst with | some d => sb.any (Nat.beq d) | none => false) = false := by rw [hd]

theorem set_on {ρ : Rho} {ve : Tr VV} {e : Env} {o : Oper} {p : Den.P} {v : VV} {u : Value} (hd : o.dst = some p.num) (he : ERl ρ ve e) (hu : Rl ρ v u ∨ v = .no) : ERl ρ (Tr.set .no ve p v) (ext o.dst true u e) := by
  rw [hd]
  rcases hu with hu | rfl
  · exact he.set hu
  · exact he.setNo
theorem set_u {ρ : Rho} {ve : Tr VV} {e : Env} {o : Oper} {g : Bool} {u : Value} (hd : o.dst = none) (he : ERl ρ ve e) : ERl ρ ve (ext o.dst g u e) := by
  rw [hd]; exact he

/-- A region runs as its print does. -/
theorem regK_ok (hT : TabOk P T) (hc : CallOk W0 P call) {arr : Array Oper} {sb : List Nat} {k : Kr} : ∀ {l : List Oper} {zs : List Z}, ZRs T P arr sb l zs → ∀ {ve : Tr VV} {M : Mem} {nx : Den.P} {acc : List Den.P}, regK call zs ve M nx acc k = true →
    ∃ ve1 M1 nx1 acc1, k ve1 M1 nx1 acc1 = true ∧ RegOk W0 P arr sb l ve M nx acc ve1 M1 nx1 acc1
  | _, _, .nil, ve, M, nx, acc, h => ⟨ve, M, nx, acc, h, Mono.refl _ _, ⟨fun _ h => h, fun _ => rfl⟩, fun kont D M0 nx0 ρ e C _ _ he hM hk => .nil (hk ρ e C (Ext.refl ρ) he hM (Keep.refl _ _ _) fun _ _ => rfl)⟩
  | o :: l, z :: zs, .cons hz hzs, ve, M, nx, acc, h => by
    have ih := fun {ve M nx acc} => regK_ok (k := k) hT hc hzs (ve := ve) (M := M) (nx := nx) (acc := acc)
    have onD : ∀ {p : Den.P} {y : Y}, o.dst = some p.num → sb.any (Nat.beq p.num) = false → TrY T P o y → (∀ ρ e, ERl ρ ve e → guardOk arr e o.guard true) → doK call ve M nx y (fun v M nx => Tr.setK .no ve p v fun e => regK call zs e M nx acc k) = true →
        ∃ ve1 M1 nx1 acc1, k ve1 M1 nx1 acc1 = true ∧ RegOk W0 P arr sb (o :: l) ve M nx acc ve1 M1 nx1 acc1 := fun {p y} hd hs hy hg h => by
      obtain ⟨v, M', nx', h1, h2⟩ := doK_ok (W0 := W0) hT hc hy h
      rw [Tr.setK_eq] at h1
      obtain ⟨ve1, M1, nx1, acc1, h3, h4⟩ := ih h1
      exact ⟨ve1, M1, nx1, acc1, h3, .on (dst_some hd hs) h2 hg (fun ρ u e he hu => set_on hd he hu) h4⟩
    have onU : ∀ {y : Y}, o.dst = none → TrY T P o y → (∀ ρ e, ERl ρ ve e → guardOk arr e o.guard true) → doK call ve M nx y (fun _ M nx => regK call zs ve M nx acc k) = true →
        ∃ ve1 M1 nx1 acc1, k ve1 M1 nx1 acc1 = true ∧ RegOk W0 P arr sb (o :: l) ve M nx acc ve1 M1 nx1 acc1 := fun {y} hd hy hg h => by
      obtain ⟨v, M', nx', h1, h2⟩ := doK_ok (W0 := W0) hT hc hy h
      obtain ⟨ve1, M1, nx1, acc1, h3, h4⟩ := ih h1
      exact ⟨ve1, M1, nx1, acc1, h3, .on (dst_none hd) h2 hg (fun ρ u e he hu => set_u hd he) h4⟩
    have onS : ∀ {p : Den.P} {t x x'} {i : TyI}, o.dst = some p.num → sb.any (Nat.beq p.num) = true → o.op = .load t x → T.find t = some i → i.d.known = true → XR x' x → (∀ ρ e, ERl ρ ve e → guardOk arr e o.guard true) → ldK ve M x' i.size i.d.agg (fun b v => Tr.setK .no ve p v fun e => regK call zs e M nx (b :: acc) k) = true →
        ∃ ve1 M1 nx1 acc1, k ve1 M1 nx1 acc1 = true ∧ RegOk W0 P arr sb (o :: l) ve M nx acc ve1 M1 nx1 acc1 := fun {p t x x' i} hd hs ho ht hkn hx hg h => by
      obtain ⟨d, op, ty, q, af, g⟩ := o
      cases ho
      obtain ⟨b, v, h1, h2, h3⟩ := ld_ok (W0 := W0) (P := P) (d := d) (ty := ty) (q := q) (af := af) (g := g) hT ht hkn hx h
      rw [Tr.setK_eq] at h1
      obtain ⟨ve1, M1, nx1, acc1, h4, h5⟩ := ih h1
      exact ⟨ve1, M1, nx1, acc1, h4, .stab hd hs hg h3 h5⟩
    have offD : ∀ {p : Den.P} {w : VV}, o.dst = some p.num → sb.any (Nat.beq p.num) = false → (w = .no ∨ isMF (klassOp cfg0 o.op) = false ∧ w = .off) → (∀ ρ e, ERl ρ ve e → guardOk arr e o.guard false) → (Tr.setK .no ve p w fun e => regK call zs e M nx acc k) = true →
        ∃ ve1 M1 nx1 acc1, k ve1 M1 nx1 acc1 = true ∧ RegOk W0 P arr sb (o :: l) ve M nx acc ve1 M1 nx1 acc1 := fun {p w} hd hs hw hg h => by
      rw [Tr.setK_eq] at h
      obtain ⟨ve1, M1, nx1, acc1, h3, h4⟩ := ih h
      refine ⟨ve1, M1, nx1, acc1, h3, .off (dst_some hd hs) hg (fun _ ρ u e he => ?_) (fun hm ρ e he => ?_) h4⟩
      · rw [hd]
        rcases hw with rfl | ⟨_, rfl⟩
        · exact he.setNo
        · exact he.setOff
      · rw [hd]
        rcases hw with rfl | ⟨hn, _⟩
        · exact he.setNo
        · rw [hn] at hm; cases hm
    have offS : ∀ {p : Den.P}, o.dst = some p.num → sb.any (Nat.beq p.num) = true → (∀ ρ e, ERl ρ ve e → guardOk arr e o.guard false) → (Tr.setK .no ve p .off fun e => regK call zs e M nx acc k) = true →
        ∃ ve1 M1 nx1 acc1, k ve1 M1 nx1 acc1 = true ∧ RegOk W0 P arr sb (o :: l) ve M nx acc ve1 M1 nx1 acc1 := fun {p} hd hs hg h => by
      rw [Tr.setK_eq] at h
      obtain ⟨ve1, M1, nx1, acc1, h3, hm, ha, hr⟩ := ih h
      refine ⟨ve1, M1, nx1, acc1, h3, hm, ha, fun kont D M0 nx0 ρ e C h0 hc he hM hk => ?_⟩
      have hkl := klass_stable (D := D) hd hs
      show Run W0 P D arr kont ((klass ⟨[], sb, D⟩ o, o) :: l.map fun o => (klass ⟨[], sb, D⟩ o, o)) e C
      rw [hkl]
      refine .stable false undef (hg ρ e he) (fun h => by cases h) (hr kont D M0 nx0 ρ _ C h0 hc (by rw [hd]; exact he.setOff) hM fun ρ1 e1 C1 h1 h2 h3 h4 h5 => hk ρ1 e1 C1 h1 h2 h3 h4 fun n hn => ?_)
      rw [h5 n fun o ho => hn o (List.mem_cons_of_mem _ ho)]
      exact get_ext (hn _ (List.mem_cons_self ..))
    have offU : o.dst = none → (∀ ρ e, ERl ρ ve e → guardOk arr e o.guard false) → regK call zs ve M nx acc k = true →
        ∃ ve1 M1 nx1 acc1, k ve1 M1 nx1 acc1 = true ∧ RegOk W0 P arr sb (o :: l) ve M nx acc ve1 M1 nx1 acc1 := fun hd hg h => by
      obtain ⟨ve1, M1, nx1, acc1, h3, h4⟩ := ih h
      exact ⟨ve1, M1, nx1, acc1, h3, .off (dst_none hd) hg (fun _ ρ u e he => set_u hd he) (fun hm ρ e he => set_u hd he) h4⟩
    cases hz with
    | d hg hd hs hy => exact onD hd hs hy (fun ρ e _ => guard_none hg) h
    | u hg hd hy => exact onU hd hy (fun ρ e _ => guard_none hg) h
    | @gd j w q p y hg hj hd hs hy hoff =>
      have h : (Tr.getK .no ve q fun g => g.onG (Tr.setK .no ve p y.off fun e => regK call zs e M nx acc k) fun b => Bool.rec (Tr.setK .no ve p y.off fun e => regK call zs e M nx acc k) (doK call ve M nx y fun v M nx => Tr.setK .no ve p v fun e => regK call zs e M nx acc k) (Bool.rec (notB w) w b)) = true := h
      rw [Tr.getK_eq] at h
      rcases VV.onG_true h with ⟨hq, h⟩ | ⟨b, hq, h⟩
      · exact offD hd hs hoff (fun ρ e he => guard_off he hg hj hq) h
      · rw [wantB] at h
        have hgo := fun ρ e (he : ERl ρ ve e) => guard_on he hg hj hq
        cases hb : (b == w) with
        | true => rw [hb] at h hgo; exact onD hd hs hy hgo h
        | false => rw [hb] at h hgo; exact offD hd hs hoff hgo h
    | @gu j w q y hg hj hd hy =>
      have h : (Tr.getK .no ve q fun g => g.onG (regK call zs ve M nx acc k) fun b => Bool.rec (regK call zs ve M nx acc k) (doK call ve M nx y fun _ M nx => regK call zs ve M nx acc k) (Bool.rec (notB w) w b)) = true := h
      rw [Tr.getK_eq] at h
      rcases VV.onG_true h with ⟨hq, h⟩ | ⟨b, hq, h⟩
      · exact offU hd (fun ρ e he => guard_off he hg hj hq) h
      · rw [wantB] at h
        have hgo := fun ρ e (he : ERl ρ ve e) => guard_on he hg hj hq
        cases hb : (b == w) with
        | true => rw [hb] at h hgo; exact onU hd hy hgo h
        | false => rw [hb] at h hgo; exact offU hd hgo h
    | s hg hd hs ho ht hkn hx => exact onS hd hs ho ht hkn hx (fun ρ e _ => guard_none hg) h
    | @gs j w q p x x' t i hg hj hd hs ho ht hkn hx =>
      have h : (Tr.getK .no ve q fun g => g.onG (Tr.setK .no ve p .off fun e => regK call zs e M nx acc k) fun b => Bool.rec (Tr.setK .no ve p .off fun e => regK call zs e M nx acc k) (ldK ve M x' i.size i.d.agg (fun b v => Tr.setK .no ve p v fun e => regK call zs e M nx (b :: acc) k)) (Bool.rec (notB w) w b)) = true := h
      rw [Tr.getK_eq] at h
      rcases VV.onG_true h with ⟨hq, h⟩ | ⟨b, hq, h⟩
      · exact offS hd hs (fun ρ e he => guard_off he hg hj hq) h
      · rw [wantB] at h
        have hgo := fun ρ e (he : ERl ρ ve e) => guard_on he hg hj hq
        cases hb : (b == w) with
        | true => rw [hb] at h hgo; exact onS hd hs ho ht hkn hx hgo h
        | false => rw [hb] at h hgo; exact offS hd hs hgo h
    | @c p x x' hg hd hs ho hx =>
      have h : (x'.getK ve fun v => v.onAny (Tr.setK .no ve p v fun e => regK call zs e M nx acc k)) = true := h
      rw [X.getK_eq] at h
      obtain ⟨hok, h⟩ := VV.onAny_true h
      rw [Tr.setK_eq] at h
      obtain ⟨ve1, M1, nx1, acc1, h3, h4⟩ := ih h
      refine ⟨ve1, M1, nx1, acc1, h3, .on (M' := M) (nx' := nx) (dst_some hd hs) (.pure ?_ fun ρ e he => ?_) (fun ρ e _ => guard_none hg) (fun ρ u e he hu => set_on hd he hu) h4⟩
      · rcases ho with ho | ho <;> (rw [ho]; rfl)
      · obtain ⟨u, h5, h6⟩ := hx.look he rfl hok
        obtain ⟨d, op, ty, q, af, g⟩ := o
        rcases ho with ho | ho <;> cases ho
        · exact ⟨u, h6, pure_move h5⟩
        · exact ⟨u, h6, pure_assign h5⟩

end
end Den

/-
  Regions as code.
-/
set_option linter.unusedVariables false
namespace Den
open Go Eng

/-- One slot. -/
def SlR (ρ : Rho) (v : VV) (x : Option (Bool × Value)) : Prop := (v.ok = true → ∃ u, x = some (true, u) ∧ Rl ρ v u) ∧ (v = .off → ∃ u, x = some (false, u))

theorem SlR.ext {ρ ρ' : Rho} {v : VV} {x} (h : SlR ρ v x) (k : Ext ρ ρ') : SlR ρ' v x := ⟨fun hv => by obtain ⟨u, h1, h2⟩ := h.1 hv; exact ⟨u, h1, Rl.ext k _ _ h2⟩, h.2⟩

theorem ERl.sl {ρ : Rho} {ve : Tr VV} {e : Env} (h : ERl ρ ve e) (p : P) : SlR ρ (Tr.get .no ve p) (Eng.get e p.num) := ⟨h.on p, h.off p⟩
theorem ERl.of {ρ : Rho} {ve : Tr VV} {e : Env} (h : ∀ p, SlR ρ (Tr.get .no ve p) (Eng.get e p.num)) : ERl ρ ve e := ⟨fun p => (h p).1, fun p => (h p).2⟩
theorem ERl.put {ρ : Rho} {ve : Tr VV} {e : Env} (h : ERl ρ ve e) {p : P} {v : VV} (hv : SlR ρ v (Eng.get e p.num)) : ERl ρ (Tr.set .no ve p v) e := .of fun q => by
  by_cases hqp : q = p
  · subst hqp; rw [Tr.get_set]; exact hv
  · rw [Tr.get_set_ne _ _ _ _ _ hqp]; exact h.sl q

theorem ERl.lf {ρ : Rho} {e : Env} : ERl ρ .lf e := ⟨fun p hp => (by rw [Tr.get_lf] at hp; cases hp), fun p hp => (by rw [Tr.get_lf] at hp; cases hp)⟩

/-- The slots of a function. -/
def ENR (S : List (P × I)) (ρ : Rho) (ve : En) (e : Env) : Prop := ∀ p i, placeIn S p = some i → SlR ρ (ve.get i) (Eng.get e p.num)

theorem ENR.ext {S : List (P × I)} {ρ ρ' : Rho} {ve : En} {e : Env} (h : ENR S ρ ve e) (k : Ext ρ ρ') : ENR S ρ' ve e := fun p i hp => (h p i hp).ext k

def InsOk (S : List (P × I)) (ins : List (I × P × Bool)) : Prop := ∀ q ∈ ins, placeIn S q.2.1 = some q.1

theorem insK_true {S : List (P × I)} {ve : En} {k : Tr VV → Bool} : ∀ {ins : List (I × P × Bool)} {e0 : Tr VV}, InsOk S ins → insK ins ve e0 k = true → ∃ e1, k e1 = true ∧ ∀ ρ e, ENR S ρ ve e → ERl ρ e0 e → ERl ρ e1 e
  | [], e0, _, h => ⟨e0, h, fun _ _ _ h => h⟩
  | (i, p, b) :: r, e0, hi, h => by
    have h : (ve.getK i fun v => Bool.rec (Tr.setK .no e0 p v fun e0 => insK r ve e0 k) (v.onAny (Tr.setK .no e0 p v fun e0 => insK r ve e0 k)) b) = true := h
    rw [En.getK_eq] at h
    have h1 : insK r ve (Tr.set .no e0 p (ve.get i)) k = true := by
      cases b with
      | false => rwa [← Tr.setK_eq _ _ _ _ (fun e0 => insK r ve e0 k)]
      | true => rw [← Tr.setK_eq _ _ _ _ (fun e0 => insK r ve e0 k)]; exact (VV.onAny_true h).2
    obtain ⟨e1, h2, h3⟩ := insK_true (fun q hq => hi q (List.mem_cons_of_mem _ hq)) h1
    exact ⟨e1, h2, fun ρ e he h0 => h3 ρ e he (h0.put (he p i (hi (i, p, b) (List.mem_cons_self ..))))⟩

/-- Places are told once. -/
def Inj (S : List (P × I)) : Prop := ∀ p q i, placeIn S p = some i → placeIn S q = some i → p = q

theorem outsK_true {k : En → Bool} {ve1 : Tr VV} : ∀ {outs : List (I × P)} {ve : En}, outsK outs ve1 ve k = true →
    ∃ ve', k ve' = true ∧ ∀ i, (∃ p, (i, p) ∈ outs ∧ ve'.get i = Tr.get .no ve1 p) ∨ ((∀ p, (i, p) ∉ outs) ∧ ve'.get i = ve.get i)
  | [], ve, h => ⟨ve, h, fun i => .inr ⟨by simp, rfl⟩⟩
  | (j, p) :: r, ve, h => by
    have h : (Tr.getK .no ve1 p fun v => ve.setK j v fun e => outsK r ve1 e k) = true := h
    rw [Tr.getK_eq, En.setK_eq] at h
    obtain ⟨ve', h1, h2⟩ := outsK_true h
    refine ⟨ve', h1, fun i => ?_⟩
    rcases h2 i with ⟨q, h3, h4⟩ | ⟨h3, h4⟩
    · exact .inl ⟨q, List.mem_cons_of_mem _ h3, h4⟩
    · by_cases hij : i = j
      · subst hij
        exact .inl ⟨p, List.mem_cons_self .., by rw [h4, En.get_set]⟩
      · refine .inr ⟨fun q hq => ?_, by rw [h4, En.get_set_ne _ _ _ _ hij]⟩
        rcases List.mem_cons.1 hq with h | h
        · cases h; exact hij rfl
        · exact h3 q h

/-- What is written and has a place is handed back. -/
def OutsOk (S : List (P × I)) (l : List Oper) (outs : List (I × P)) : Prop := (∀ q ∈ outs, placeIn S q.2 = some q.1) ∧ ∀ o ∈ l, ∀ p i, o.dst = some (P.num p) → placeIn S p = some i → (i, p) ∈ outs

theorem outs_ok {S : List (P × I)} (hS : Inj S) {l : List Oper} {outs : List (I × P)} (ho : OutsOk S l outs) {k : En → Bool} {ve1 : Tr VV} {ve : En} (h : outsK outs ve1 ve k = true) :
    ∃ ve', k ve' = true ∧ ∀ ρ ρ1 e e1, ENR S ρ ve e → Ext ρ ρ1 → ERl ρ1 ve1 e1 → (∀ t, (∀ o ∈ l, o.dst ≠ some t) → Eng.get e1 t = Eng.get e t) → ENR S ρ1 ve' e1 := by
  obtain ⟨ve', h1, h2⟩ := outsK_true h
  refine ⟨ve', h1, fun ρ ρ1 e e1 he hx he1 hk p i hp => ?_⟩
  rcases h2 i with ⟨q, h3, h4⟩ | ⟨h3, h4⟩
  · have := hS p q i hp (ho.1 _ h3)
    subst this
    rw [h4]
    exact he1.sl p
  · rw [h4, hk p.num fun o ho' hd => h3 p (ho.2 o ho' p i hd hp)]
    exact (he p i hp).ext hx

section
variable {W0 : World} {P : Program} {T : Tab} {call : Call} {n : Nat}

/-- What a piece of code does. -/
def StepR (W0 : World) (P : Program) (n : Nat) (S : List (Den.P × I)) (c : Code) (ve : En) (M : Mem) (nx : Den.P) (ex : Exit) (ve' : En) (M' : Mem) (nx' : Den.P) : Prop :=
  Mono M nx M' nx' ∧ ∀ (K : Kont) ρ e C, ENR S ρ ve e → MR W0 ρ M nx C → (∀ ρ' e' C', Ext ρ ρ' → ENR S ρ' ve' e' → MR W0 ρ' M' nx' C' → Keep ρ M M' C C' → K ex e' C') → V W0 P n K c e C

theorem regS_ok (hT : TabOk P T) (hc : CallOk W0 P call) {S : List (Den.P × I)} (hS : Inj S) {id : Nat} {l : List Oper} {zs : List Z} {ins outs} (hz : ZRs T P l.toArray [] l zs) (hd : dstOk n l = true) (hi : InsOk S ins) (ho : OutsOk S l outs)
    {ve : En} {M : Mem} {nx : Den.P} {k : En → Mem → Den.P → Bool} (h : regS zs ins outs call ve M nx k = true) :
    ∃ ve' M' nx', k ve' M' nx' = true ∧ StepR W0 P n S (.region id l.toArray false) ve M nx .normal ve' M' nx' := by
  obtain ⟨e0, h, hin⟩ := insK_true hi h
  obtain ⟨ve1, M1, nx1, acc1, h, hm, ⟨_, hacc⟩, hr⟩ := regK_ok (W0 := W0) hT hc hz h
  obtain ⟨ve', h, hout⟩ := outs_ok hS ho h
  refine ⟨ve', M1, nx1, h, hm, fun K ρ e C he hM hk => ?_⟩
  have hacc := hacc rfl
  subst hacc
  refine V.region hd ⟨fun _ => hr (fun e C => K .normal e C) [] M nx ρ e C (Mono.refl _ _) ⟨by simp, by simp, by simp, by simp, by simp⟩ (hin ρ e he ERl.lf) hM ?_⟩
  exact fun ρ1 e1 C1 hx h1 h2 h3 h4 => hk ρ1 e1 C1 hx (hout ρ ρ1 e e1 he hx h1 h4) h2 h3

theorem keptB_true {M M' : Mem} : ∀ {acc : List Den.P}, keptB M M' acc = true → ∀ b ∈ acc, (Mm.at M b).live ∧ (Mm.at M' b).live ∧ (Mm.at M' b).ver = (Mm.at M b).ver
  | [], _, _, hb => by cases hb
  | b :: acc, h, b', hb' => by
    have h : (Tr.getK .dead M b fun o => Tr.getK .dead M' b fun o' => o.onV fun v => o'.onV fun v' => Bool.rec false (keptB M M' acc) (Nat.beq v v')) = true := h
    rw [getM_eq, getM_eq] at h
    obtain ⟨v, h1, e1, h⟩ := OB.onV_true h
    obtain ⟨v', h2, e2, h⟩ := OB.onV_true h
    cases hv : Nat.beq v v' with
    | false => rw [hv] at h; cases h
    | true =>
      rw [hv] at h
      rcases List.mem_cons.1 hb' with rfl | hb'
      · exact ⟨h1, h2, by rw [e1, e2]; exact (Nat.eq_of_beq_eq_true hv).symm⟩
      · exact keptB_true (acc := acc) h b' hb'

theorem mkD {ρ : Rho} {M : Mem} {nx : Den.P} {C : Heap} (hM : MR W0 ρ M nx C) : ∀ (acc : List Den.P), (∀ b ∈ acc, (Mm.at M b).live) → ∃ Dl : List Blk, Dl.Nodup ∧ (∀ q ∈ Dl, q ∈ C.flatten) ∧ (∀ q ∈ Dl, ∃ b ∈ acc, ∃ c, ρ b = some (q.1, c)) ∧ ∀ b ∈ acc, ∃ r c ro, ρ b = some (r, c) ∧ (r, ro) ∈ Dl ∧ ObR ρ c (Mm.at M b) ro
  | [], _ => ⟨[], by simp, by simp, by simp, by simp⟩
  | b :: acc, hl => by
    obtain ⟨Dl, h1, h2, h3, h4⟩ := mkD hM acc fun b hb => hl b (List.mem_cons_of_mem _ hb)
    by_cases hb : b ∈ acc
    · refine ⟨Dl, h1, h2, fun q hq => ?_, fun b' hb' => ?_⟩
      · obtain ⟨b', h5, h6⟩ := h3 q hq; exact ⟨b', List.mem_cons_of_mem _ h5, h6⟩
      · rcases List.mem_cons.1 hb' with rfl | hb'
        · exact h4 _ hb
        · exact h4 _ hb'
    · obtain ⟨r, c, ro, h5, h6, h7⟩ := hM.live b (hl b (List.mem_cons_self ..))
      refine ⟨(r, ro) :: Dl, List.nodup_cons.2 ⟨fun hq => ?_, h1⟩, fun q hq => ?_, fun q hq => ?_, fun b' hb' => ?_⟩
      · obtain ⟨b', h8, c', h9⟩ := h3 _ hq
        exact hb (hM.inj b b' r c c' (hl b (List.mem_cons_self ..)) (hl b' (List.mem_cons_of_mem _ h8)) h5 h9 ▸ h8)
      · rcases List.mem_cons.1 hq with rfl | hq
        · exact h6
        · exact h2 q hq
      · rcases List.mem_cons.1 hq with rfl | hq
        · exact ⟨b, List.mem_cons_self .., c, h5⟩
        · obtain ⟨b', h8, h9⟩ := h3 q hq; exact ⟨b', List.mem_cons_of_mem _ h8, h9⟩
      · rcases List.mem_cons.1 hb' with rfl | hb'
        · exact ⟨r, c, ro, h5, List.mem_cons_self .., h7⟩
        · obtain ⟨r', c', ro', h8, h9, h10⟩ := h4 _ hb'; exact ⟨r', c', ro', h8, List.mem_cons_of_mem _ h9, h10⟩

theorem klassD (sb : List Nat) (D : Heap) : klass ⟨[], sb, D⟩ = klass ⟨[], sb, []⟩ := rfl

/-- A region that draws. -/
theorem regD_ok (hT : TabOk P T) (hfo : P.follows .mixedOrders = true) (hc : CallOk W0 P call) {S : List (Den.P × I)} (hS : Inj S) {id : Nat} {l : List Oper} {sb : List Nat} {zs : List Z} {ins outs} (hz : ZRs T P l.toArray sb l zs) (hch : chk n (l.map (klass ⟨[], sb, []⟩)) l.toArray = true) (hi : InsOk S ins) (ho : OutsOk S l outs)
    {ve : En} {M : Mem} {nx : Den.P} {k : En → Mem → Den.P → Bool} (h : regD zs [] ins outs call ve M nx k = true) :
    ∃ ve' M' nx', k ve' M' nx' = true ∧ StepR W0 P n S (.region id l.toArray true) ve M nx .normal ve' M' nx' := by
  obtain ⟨e0, h, hin⟩ := insK_true hi h
  obtain ⟨ve1, M1, nx1, acc1, h, hm, _, hr⟩ := regK_ok (W0 := W0) hT hc hz h
  have h : (Bool.rec false (outsK outs ve1 ve fun e => k e M1 nx1) (keptB M M1 acc1) : Bool) = true := h
  cases hkp : keptB M M1 acc1 with
  | false => rw [hkp] at h; cases h
  | true =>
    rw [hkp] at h
    have hkp := keptB_true hkp
    obtain ⟨ve', h, hout⟩ := outs_ok hS ho h
    refine ⟨ve', M1, nx1, h, hm, fun K ρ e C he hM hk => ?_⟩
    obtain ⟨Dl, h1, h2, h3, h4⟩ := mkD hM acc1 fun b hb => (hkp b hb).1
    have hw : Weak C [Dl] := weakD (by simpa using h1) (by simpa using h2)
    refine V.draw ⟨[], sb, [Dl]⟩ hfo hch hw ⟨fun _ => hr (fun e C => K .normal e C) [Dl] M nx ρ e C (Mono.refl _ _) ⟨by simpa using h1, by simpa using h2, by simpa using h3, by simpa using h4, fun b hb => ?_⟩ (hin ρ e he ERl.lf) hM ?_⟩
    · obtain ⟨h5, h6, h7⟩ := hkp b hb
      obtain ⟨r, c, ro, h8, _, _⟩ := h4 b hb
      exact ⟨hM.old b _ h8, h5, h6, h7⟩
    · exact fun ρ1 e1 C1 hx h1 h2 h3 h4 => hk ρ1 e1 C1 hx (hout ρ ρ1 e e1 he hx h1 h4) h2 h3

/-- .. its last operation apart. -/
theorem regDL_ok (hT : TabOk P T) (hfo : P.follows .mixedOrders = true) (hc : CallOk W0 P call) {S : List (Den.P × I)} (hS : Inj S) {id : Nat} {l : List Oper} {ol : Oper} {sb : List Nat} {zs ms : List Z} {ins outs} (hol : l.getLast? = some ol) (hbl : lastOk l.toArray = true) (hz : ZRs T P l.toArray sb l.dropLast zs) (hz2 : ZRs T P l.toArray [] [ol] ms)
    (hch : chk n (l.map (klass ⟨[], sb, []⟩)) l.toArray = true) (hi : InsOk S ins) (ho : OutsOk S l outs)
    {ve : En} {M : Mem} {nx : Den.P} {k : En → Mem → Den.P → Bool} (h : regD zs ms ins outs call ve M nx k = true) :
    ∃ ve' M' nx', k ve' M' nx' = true ∧ StepR W0 P n S (.region id l.toArray true) ve M nx .normal ve' M' nx' := by
  obtain ⟨e0, h, hin⟩ := insK_true hi h
  obtain ⟨ve1, M1, nx1, acc1, h, hm, _, hr⟩ := regK_ok (W0 := W0) hT hc hz h
  have h : (Bool.rec false (regK call ms ve1 M1 nx1 [] fun e1 M nx _ => outsK outs e1 ve fun e => k e M nx) (keptB M M1 acc1) : Bool) = true := h
  cases hkp : keptB M M1 acc1 with
  | false => rw [hkp] at h; cases h
  | true =>
    rw [hkp] at h
    have hkp := keptB_true hkp
    obtain ⟨ve2, M2, nx2, acc2, h, hm2, ⟨_, hacc⟩, hr2⟩ := regK_ok (W0 := W0) hT hc hz2 h
    obtain ⟨ve', h, hout⟩ := outs_ok hS ho h
    have hacc := hacc rfl
    subst hacc
    refine ⟨ve', M2, nx2, h, hm.trans hm2, fun K ρ e C he hM hk => ?_⟩
    obtain ⟨Dl, h1, h2, h3, h4⟩ := mkD hM acc1 fun b hb => (hkp b hb).1
    have hw : Weak C [Dl] := weakD (by simpa using h1) (by simpa using h2)
    refine V.drawL ⟨[], sb, [Dl]⟩ hol hfo hch hbl hw ⟨fun _ => hr _ [Dl] M nx ρ e C (Mono.refl _ _) ⟨by simpa using h1, by simpa using h2, by simpa using h3, by simpa using h4, fun b hb => ?_⟩ (hin ρ e he ERl.lf) hM ?_⟩
    · obtain ⟨h5, h6, h7⟩ := hkp b hb
      obtain ⟨r, c, ro, h8, _, _⟩ := h4 b hb
      exact ⟨hM.old b _ h8, h5, h6, h7⟩
    · refine fun ρ1 e1 C1 hx h1 h2 h3 h4 => ⟨fun _ => hr2 (fun e C => K .normal e C) [] M1 nx1 ρ1 e1 C1 (Mono.refl _ _) ⟨by simp, by simp, by simp, by simp, by simp⟩ h1 h2 ?_⟩
      exact fun ρ2 e2 C2 hx2 h5 h6 h7 h8 => hk ρ2 e2 C2 (hx.trans hx2) (hout ρ ρ2 e e2 he (hx.trans hx2) h5 fun t ht => by
        rw [h8 t fun o ho => by rw [List.mem_singleton.1 ho]; exact ht ol (List.mem_of_getLast? hol), h4 t fun o ho => ht o ((List.dropLast_sublist l).subset ho)]) h6 (h3.trans h7 hx hm hm2 hM.old)

end
end Den

/-
  Code.
-/
set_option linter.unusedVariables false
namespace Den
open Go Eng

noncomputable def Ex.out (x : Ex) : Exit := Ex.rec .normal .ret (fun id => .exit id) x

inductive XIR (S : List (P × I)) : XI → Operand → Prop
  | t {p : P} {i : I} : placeIn S p = some i → XIR S (.t i) (.tmp p.num)
  | c {v : VV} {o : Operand} : XR (.c v) o → XIR S (.c v) o

inductive CR (T : Tab) (Q : Program) (n : Nat) (S : List (P × I)) : Code → C1 → Prop
  | skip : CR T Q n S .skip .skip
  | reg {id l zs ins outs} : ZRs T Q l.toArray [] l zs → dstOk n l = true → InsOk S ins → OutsOk S l outs → CR T Q n S (.region id l.toArray false) (.reg zs ins outs)
  | drw {id l sb zs ins outs} : ZRs T Q l.toArray sb l zs → chk n (l.map (klass ⟨[], sb, []⟩)) l.toArray = true → InsOk S ins → OutsOk S l outs → CR T Q n S (.region id l.toArray true) (.drw zs [] ins outs)
  | drwL {id l ol sb zs ms ins outs} : l.getLast? = some ol → lastOk l.toArray = true → ZRs T Q l.toArray sb l.dropLast zs → ZRs T Q l.toArray [] [ol] ms → chk n (l.map (klass ⟨[], sb, []⟩)) l.toArray = true → InsOk S ins → OutsOk S l outs → CR T Q n S (.region id l.toArray true) (.drw zs ms ins outs)
  | seq {a b a' b'} : CR T Q n S a a' → CR T Q n S b b' → CR T Q n S (.seq a b) (.seq a' b')
  | cond {x x' a b a' b'} : XIR S x' x → CR T Q n S a a' → CR T Q n S b b' → CR T Q n S (.cond x a b) (.cond x' a' b')
  | blk {id c c'} : CR T Q n S c c' → CR T Q n S (.block id c) (.blk id c')
  | loop {c c'} : CR T Q n S c c' → CR T Q n S (.loop c) (.loop c')
  | exit {id} : CR T Q n S (.exit id) (.exit id)
  | ret : CR T Q n S .ret .ret
  | bad {c} : CR T Q n S c .bad

section
variable {W0 : World} {Q : Program} {T : Tab} {call : Call} {n : Nat} {S : List (P × I)}

theorem XIR.look {x : XI} {o : Operand} {ρ : Rho} {ve : En} {e : Env} {v : VV} (h : XIR S x o) (he : ENR S ρ ve e) (hv : x.get ve = v) (hok : v.ok = true) : ∃ u, Eng.look e o = some (true, u) ∧ Rl ρ v u := by
  cases h with
  | @t p i hp => exact (he p i hp).1 (by show (ve.get i).ok = true; rw [show ve.get i = v from hv]; exact hok) |>.imp fun u h => ⟨h.1, by rw [← hv]; exact h.2⟩
  | c hx => exact hx.look (ve := .lf) ERl.lf (by exact hv) hok

theorem V.kmono {K K' : Kont} {c : Code} {e : Env} {C : Heap} (h : V W0 Q n K c e C) (k : ∀ ex e C, K ex e C → K' ex e C) : V W0 Q n K' c e C := ⟨fun X a w ha hw => wp_mono (h.wp X a w ha hw) fun ex a w hq => by
  obtain ⟨e, C, ha, hw, hk⟩ := hq
  exact ⟨e, C, ha, hw, k ex e C hk⟩⟩

/-- A loop that comes to an end within m rounds. -/
def LoopG (W0 : World) (Q : Program) (n : Nat) (K : Kont) (c : Code) : Nat → Env → Heap → Prop
  | 0, _, _ => False
  | m + 1, e, C => V W0 Q n (fun ex e C => match ex with | .normal => LoopG W0 Q n K c m e C | ex => K ex e C) c e C

theorem V.loopG {K : Kont} {c : Code} {m : Nat} {e : Env} {C : Heap} (h : LoopG W0 Q n K c m e C) : V W0 Q n K (.loop c) e C :=
  ⟨fun X a w ha hw => by
    intro b k cs
    have key : ∀ m e C a w, LoopG W0 Q n K c m e C → Has n a e → Sat W0 w (X :: C) →
        ∃ ex a' w', lift W0 n X K ex a' w' ∧ Arrives Q (lone (b.at a (.code c :: .inLoop c :: k)) cs w) b k cs ex a' w' := by
      intro m
      induction m with
      | zero => intro e C a w h; cases h
      | succ m ih =>
        intro e C a w h ha hw
        have hr := (show V W0 Q n (fun ex e C => match ex with | .normal => LoopG W0 Q n K c m e C | ex => K ex e C) c e C from h).wp X a w ha hw
        obtain ⟨ex, a₁, w₁, hq, harr⟩ := hr b (.inLoop c :: k) cs
        obtain ⟨e₁, C₁, ha₁, hw₁, hk⟩ := hq
        cases ex with
        | normal =>
          obtain ⟨e₂, a₂, w₂, hq₂, harr₂⟩ := ih e₁ C₁ a₁ w₁ hk ha₁ hw₁
          exact ⟨e₂, a₂, w₂, hq₂, .of_steps (Steps.trans harr (.one step_inLoop)) harr₂⟩
        | exit id => exact ⟨_, a₁, w₁, ⟨e₁, C₁, ha₁, hw₁, hk⟩, .pass (x := .inLoop c) rfl (fun _ _ => .inl (by simp)) harr⟩
        | goto l => exact ⟨_, a₁, w₁, ⟨e₁, C₁, ha₁, hw₁, hk⟩, .pass (x := .inLoop c) rfl (fun _ _ => .inl (by simp)) harr⟩
        | ret => exact ⟨_, a₁, w₁, ⟨e₁, C₁, ha₁, hw₁, hk⟩, .pass (x := .inLoop c) rfl (fun _ _ => .inl (by simp)) harr⟩
        | panic ch => exact ⟨_, a₁, w₁, ⟨e₁, C₁, ha₁, hw₁, hk⟩, .pass (x := .inLoop c) rfl (fun _ _ => .inl (by simp)) harr⟩
        | outgrown => exact ⟨_, a₁, w₁, ⟨e₁, C₁, ha₁, hw₁, hk⟩, .pass (x := .inLoop c) rfl (fun _ _ => .inl (by simp)) harr⟩
    obtain ⟨ex, a', w', hq, harr⟩ := key m e C a w h ha hw
    exact ⟨ex, a', w', hq, .of_steps (.one step_loop) harr⟩⟩

abbrev KS := Ex → En → Mem → P → Bool

/-- A step does what its code does. -/
def StepOk (W0 : World) (Q : Program) (n : Nat) (S : List (P × I)) (call : Call) (c : Code) (s : Step) : Prop := ∀ (ve : En) (M : Mem) (nx : P) (k : KS), s call ve M nx k = true →
  ∃ ex ve' M' nx', k ex ve' M' nx' = true ∧ StepR W0 Q n S c ve M nx ex.out ve' M' nx'

theorem loopN_ok {c : Code} {s : Step} (hs : StepOk W0 Q n S call c s) (k : KS) : ∀ (m : Nat) (ve : En) (M : Mem) (nx : P), loopN m s call ve M nx k = true →
    ∃ ex ve' M' nx', k ex ve' M' nx' = true ∧ Mono M nx M' nx' ∧ ∀ (K : Kont) ρ e C, ENR S ρ ve e → MR W0 ρ M nx C → (∀ ρ' e' C', Den.Ext ρ ρ' → ENR S ρ' ve' e' → MR W0 ρ' M' nx' C' → Keep ρ M M' C C' → K ex.out e' C') → LoopG W0 Q n K c m e C
  | 0, ve, M, nx, h => by cases h
  | m + 1, ve, M, nx, h => by
    have h : s call ve M nx (fun ex e M nx => Ex.rec (loopN m s call e M nx k) (k .r e M nx) (fun id => k (.x id) e M nx) ex) = true := h
    obtain ⟨ex, ve1, M1, nx1, h, hm, hr⟩ := hs ve M nx _ h
    cases ex with
    | n =>
      obtain ⟨ex, ve2, M2, nx2, h, hm2, hr2⟩ := loopN_ok hs k m ve1 M1 nx1 h
      refine ⟨ex, ve2, M2, nx2, h, hm.trans hm2, fun K ρ e C he hM hk => ?_⟩
      refine hr _ ρ e C he hM fun ρ1 e1 C1 hx h1 h2 h3 => ?_
      exact hr2 K ρ1 e1 C1 h1 h2 fun ρ2 e2 C2 hx2 h4 h5 h6 => hk ρ2 e2 C2 (hx.trans hx2) h4 h5 (h3.trans h6 hx hm hm2 hM.old)
    | r => exact ⟨.r, ve1, M1, nx1, h, hm, fun K ρ e C he hM hk => hr _ ρ e C he hM fun ρ1 e1 C1 hx h1 h2 h3 => hk ρ1 e1 C1 hx h1 h2 h3⟩
    | x id => exact ⟨.x id, ve1, M1, nx1, h, hm, fun K ρ e C he hM hk => hr _ ρ e C he hM fun ρ1 e1 C1 hx h1 h2 h3 => hk ρ1 e1 C1 hx h1 h2 h3⟩

theorem stepC_ok (hT : TabOk Q T) (hfo : Q.follows .mixedOrders = true) (hc : CallOk W0 Q call) (hS : Inj S) {c : Code} {c1 : C1} (hcr : CR T Q n S c c1) : StepOk W0 Q n S call c (stepC c1.toC2) := by
  induction hcr with
  | skip => exact fun ve M nx k h => ⟨.n, ve, M, nx, h, Mono.refl _ _, fun K ρ e C he hM hk => V.skip (hk ρ e C (Den.Ext.refl ρ) he hM (Keep.refl _ _ _))⟩
  | exit => exact fun ve M nx k h => ⟨.x _, ve, M, nx, h, Mono.refl _ _, fun K ρ e C he hM hk => V.exit (hk ρ e C (Den.Ext.refl ρ) he hM (Keep.refl _ _ _))⟩
  | ret => exact fun ve M nx k h => ⟨.r, ve, M, nx, h, Mono.refl _ _, fun K ρ e C he hM hk => V.ret (hk ρ e C (Den.Ext.refl ρ) he hM (Keep.refl _ _ _))⟩
  | bad => exact fun ve M nx k h => by cases h
  | reg hz hd hi ho =>
      intro ve M nx k h
      obtain ⟨ve', M', nx', h, hr⟩ := regS_ok (W0 := W0) hT hc hS hz hd hi ho (k := fun e M nx => k .n e M nx) h
      exact ⟨.n, ve', M', nx', h, hr⟩
  | drw hz hd hi ho =>
      intro ve M nx k h
      obtain ⟨ve', M', nx', h, hr⟩ := regD_ok (W0 := W0) hT hfo hc hS hz hd hi ho (k := fun e M nx => k .n e M nx) h
      exact ⟨.n, ve', M', nx', h, hr⟩
  | drwL hol hbl hz hz2 hd hi ho =>
      intro ve M nx k h
      obtain ⟨ve', M', nx', h, hr⟩ := regDL_ok (W0 := W0) hT hfo hc hS hol hbl hz hz2 hd hi ho (k := fun e M nx => k .n e M nx) h
      exact ⟨.n, ve', M', nx', h, hr⟩
  | @seq a b a' b' _ _ iha ihb =>
      intro ve M nx k h
      have h : stepC a'.toC2 call ve M nx (fun ex e M nx => Ex.rec (stepC b'.toC2 call e M nx k) (k .r e M nx) (fun id => k (.x id) e M nx) ex) = true := h
      obtain ⟨ex, ve1, M1, nx1, h, hm, hr⟩ := iha ve M nx _ h
      cases ex with
      | n =>
        obtain ⟨ex, ve2, M2, nx2, h, hm2, hr2⟩ := ihb ve1 M1 nx1 k h
        refine ⟨ex, ve2, M2, nx2, h, hm.trans hm2, fun K ρ e C he hM hk => V.seq ?_⟩
        refine hr _ ρ e C he hM fun ρ1 e1 C1 hx h1 h2 h3 => ?_
        exact hr2 K ρ1 e1 C1 h1 h2 fun ρ2 e2 C2 hx2 h4 h5 h6 => hk ρ2 e2 C2 (hx.trans hx2) h4 h5 (h3.trans h6 hx hm hm2 hM.old)
      | r => exact ⟨.r, ve1, M1, nx1, h, hm, fun K ρ e C he hM hk => V.seq (hr _ ρ e C he hM fun ρ1 e1 C1 hx h1 h2 h3 => hk ρ1 e1 C1 hx h1 h2 h3)⟩
      | x id => exact ⟨.x id, ve1, M1, nx1, h, hm, fun K ρ e C he hM hk => V.seq (hr _ ρ e C he hM fun ρ1 e1 C1 hx h1 h2 h3 => hk ρ1 e1 C1 hx h1 h2 h3)⟩
  | @cond x x' a b a' b' hx _ _ iha ihb =>
      intro ve M nx k h
      have h : (x'.getK ve fun v => v.onB fun c => Bool.rec (stepC b'.toC2 call ve M nx k) (stepC a'.toC2 call ve M nx k) c) = true := h
      rw [XI.getK_eq] at h
      obtain ⟨c, hv, h⟩ := VV.onB_true h
      cases c with
      | true =>
        obtain ⟨ex, ve1, M1, nx1, h, hm, hr⟩ := iha ve M nx k h
        refine ⟨ex, ve1, M1, nx1, h, hm, fun K ρ e C he hM hk => ?_⟩
        obtain ⟨u, h1, rfl⟩ := hx.look he hv rfl
        exact V.cond h1 (fun _ => hr K ρ e C he hM hk) (fun h => by cases h)
      | false =>
        obtain ⟨ex, ve1, M1, nx1, h, hm, hr⟩ := ihb ve M nx k h
        refine ⟨ex, ve1, M1, nx1, h, hm, fun K ρ e C he hM hk => ?_⟩
        obtain ⟨u, h1, rfl⟩ := hx.look he hv rfl
        exact V.cond h1 (fun h => by cases h) (fun _ => hr K ρ e C he hM hk)
  | @blk id c c' _ ih =>
      intro ve M nx k h
      have h : stepC c'.toC2 call ve M nx (fun ex e M nx => Ex.rec (k .n e M nx) (k .r e M nx) (fun id' => Bool.rec (k (.x id') e M nx) (k .n e M nx) (Nat.beq id' id)) ex) = true := h
      obtain ⟨ex, ve1, M1, nx1, h, hm, hr⟩ := ih ve M nx _ h
      cases ex with
      | n => exact ⟨.n, ve1, M1, nx1, h, hm, fun K ρ e C he hM hk => V.block (hr _ ρ e C he hM fun ρ1 e1 C1 hx h1 h2 h3 => hk ρ1 e1 C1 hx h1 h2 h3)⟩
      | r => exact ⟨.r, ve1, M1, nx1, h, hm, fun K ρ e C he hM hk => V.block (hr _ ρ e C he hM fun ρ1 e1 C1 hx h1 h2 h3 => hk ρ1 e1 C1 hx h1 h2 h3)⟩
      | x id' =>
        cases hb : Nat.beq id' id with
        | true =>
          have h : (Bool.rec (k (.x id') ve1 M1 nx1) (k .n ve1 M1 nx1) (Nat.beq id' id) : Bool) = true := h
          rw [hb] at h
          exact ⟨.n, ve1, M1, nx1, h, hm, fun K ρ e C he hM hk => V.block (hr _ ρ e C he hM fun ρ1 e1 C1 hx h1 h2 h3 => by
            show (bif Nat.beq id' id then K .normal e1 C1 else K (.exit id') e1 C1)
            rw [hb]; exact hk ρ1 e1 C1 hx h1 h2 h3)⟩
        | false =>
          have h : (Bool.rec (k (.x id') ve1 M1 nx1) (k .n ve1 M1 nx1) (Nat.beq id' id) : Bool) = true := h
          rw [hb] at h
          exact ⟨.x id', ve1, M1, nx1, h, hm, fun K ρ e C he hM hk => V.block (hr _ ρ e C he hM fun ρ1 e1 C1 hx h1 h2 h3 => by
            show (bif Nat.beq id' id then K .normal e1 C1 else K (.exit id') e1 C1)
            rw [hb]; exact hk ρ1 e1 C1 hx h1 h2 h3)⟩
  | @loop c c' _ ih =>
      intro ve M nx k h
      obtain ⟨ex, ve1, M1, nx1, h, hm, hr⟩ := loopN_ok ih k 100000 ve M nx h
      exact ⟨ex, ve1, M1, nx1, h, hm, fun K ρ e C he hM hk => V.loopG (hr K ρ e C he hM hk)⟩

end
end Den

/-
  Functions.
-/
set_option linter.unusedVariables false
namespace Den
open Go Eng

theorem enter_true {k : En → Bool} : ∀ {vs : List VV} {ps : List I} {e : En}, (List.rec (motive := fun _ => List I → En → (En → Bool) → Bool) (fun _ e k => k e) (fun v _ ih ps e k => List.rec (motive := fun _ => (List I → En → (En → Bool) → Bool) → VV → En → (En → Bool) → Bool) (fun _ _ _ _ => false) (fun i r _ ih v e k => e.setK i v fun e => ih r e k) ps ih v e k) vs ps e k : Bool) = true →
    ps.Nodup → vs.length ≤ ps.length ∧ ∃ e', k e' = true ∧ (∀ i, i ∉ ps → e'.get i = e.get i) ∧ ∀ (j : Nat) (i : I), ps[j]? = some i → e'.get i = (vs[j]?).getD (e.get i)
  | [], ps, e, h, _ => ⟨Nat.zero_le _, e, h, fun _ _ => rfl, fun _ _ _ => by simp⟩
  | v :: vs, [], e, h, _ => by cases h
  | v :: vs, i :: ps, e, h, hn => by
    obtain ⟨hi, hn⟩ := List.nodup_cons.1 hn
    have h := (En.setK_eq v i e _).symm.trans h
    obtain ⟨h1, e', h2, h3, h4⟩ := enter_true h hn
    refine ⟨by simpa using h1, e', h2, fun j hj => ?_, fun j i' hj => ?_⟩
    · rw [h3 j fun hq => hj (List.mem_cons_of_mem _ hq), En.get_set_ne _ _ _ _ fun e => hj (by rw [e]; exact List.mem_cons_self ..)]
    · cases j with
      | zero =>
        simp only [List.getElem?_cons_zero, Option.some.injEq] at hj
        subst hj
        rw [h3 i hi, En.get_set]
        simp
      | succ j =>
        simp only [List.getElem?_cons_succ] at hj ⊢
        rw [h4 j i' hj, En.get_set_ne _ _ _ _ fun e => hi (by rw [← e]; exact List.mem_of_getElem? hj)]

/-- Where the arguments lie. -/
def EntOk (S : List (P × I)) (ps : List I) : Prop := ps.Nodup ∧ ps.length ≤ 24 ∧ ∀ p i, placeIn S p = some i → ps[p.num]? = some i ∨ i ∉ ps

theorem get_zipR : ∀ (k a : Nat) (l : List Value) (t : Nat) (v : Value), l[t]? = some v → t < k → Eng.get (zipE (List.range' a k) l) (a + t) = some (true, v)
  | 0, _, _, _, _, _, h => by cases h
  | k + 1, a, [], t, v, h, _ => by simp at h
  | k + 1, a, u :: l, t, v, h, ht => by
    rw [List.range'_succ]
    cases t with
    | zero =>
      simp only [List.getElem?_cons_zero, Option.some.injEq] at h
      subst h
      simp [zipE, Eng.get]
    | succ t =>
      have := get_zipR k (a + 1) l t v (by simpa using h) (by omega)
      have hne : Nat.beq a (a + (t + 1)) = false := beq_ne (by omega)
      simp only [zipE, Eng.get, hne, cond_false]
      rw [← this]
      congr 1
      omega

theorem get_enter {l : List Value} {t : Nat} {v : Value} (h : l[t]? = some v) (ht : t < 24) : Eng.get (enterEnv l) t = some (true, v) := by
  have := get_zipR 24 0 l t v h ht
  rw [Nat.zero_add] at this
  exact this

theorem enterK_true {S : List (P × I)} {ps : List I} (hp : EntOk S ps) {vs : List VV} {k : En → Bool} (h : enterK vs ps k = true) : vs.length ≤ ps.length ∧ ∃ ve, k ve = true ∧ ∀ ρ us, Rls ρ vs us → ENR S ρ ve (enterEnv us) := by
  obtain ⟨h1, ve, h2, h3, h4⟩ := enter_true h hp.1
  refine ⟨h1, ve, h2, fun ρ us hu p i hpi => ?_⟩
  have no : ∀ x, SlR ρ .no x := fun x => ⟨fun h => (by cases h), fun h => (by cases h)⟩
  rcases hp.2.2 p i hpi with hj | hj
  · rw [h4 _ _ hj, En.get_nl]
    cases hv : vs[p.num]? with
    | none => exact no _
    | some v =>
      obtain ⟨u, hu1, hu2⟩ := hu.get hv
      have hlt : p.num < 24 := Nat.lt_of_lt_of_le (List.getElem?_eq_some_iff.1 hj).1 hp.2.1
      refine ⟨fun _ => ⟨u, get_enter hu1 hlt, hu2⟩, fun ho => ?_⟩
      simp only [Option.getD_some] at ho
      subst ho
      exact hu2.elim
  · rw [h3 i hj, En.get_nl]
    exact no _

inductive RVR (T : Tab) (S : List (P × I)) : List ResultVar → List RV → Prop
  | nil : RVR T S [] []
  | t {p : P} {i rs vs} : placeIn S p = some i → RVR T S rs vs → RVR T S (.tmp p.num :: rs) (.t i :: vs)
  | c {p : P} {i t ti rs vs} : T.find t = some ti → ti.d.known = true → placeIn S p = some i → RVR T S rs vs → RVR T S (.cell p.num t :: rs) (.c i ti.size ti.d.agg :: vs)

section
variable {W0 : World} {Q : Program} {T : Tab} {call : Call} {n : Nat} {S : List (P × I)}

theorem resK_true (hT : TabOk Q T) {ve : En} {M : Mem} {nx : P} : ∀ {rs : List ResultVar} {rv : List RV} {k : List VV → Bool}, RVR T S rs rv → resK ve M rv k = true → ∃ vs, k vs = true ∧ ∀ ρ e C, ENR S ρ ve e → MR W0 ρ M nx C → ∃ us, Rls ρ vs us ∧ Res T W0 e C rs us
  | _, _, k, .nil, h => ⟨[], h, fun _ _ _ _ _ => ⟨[], rfl, .nil⟩⟩
  | _, _, k, @RVR.t _ _ p i rs rv hp hr, h => by
    have h : (ve.getK i fun v => v.onAny (resK ve M rv fun l => k (v :: l))) = true := h
    rw [En.getK_eq] at h
    obtain ⟨hok, h⟩ := VV.onAny_true h
    obtain ⟨vs, h1, h2⟩ := resK_true hT hr h
    refine ⟨_, h1, fun ρ e C he hM => ?_⟩
    obtain ⟨us, h3, h4⟩ := h2 ρ e C he hM
    obtain ⟨u, h5, h6⟩ := (he p i hp).1 hok
    exact ⟨u :: us, ⟨u, us, rfl, h6, h3⟩, .tmp h5 h4⟩
  | _, _, k, @RVR.c _ _ p i t ti rs rv ht hkn hp hr, h => by
    have h : (ve.getK i fun v => v.onP fun b o => Tr.getK .dead M b fun ob => ob.onC fun _ _ l _ => cutK o ti.size ti.d.agg l fun v => resK ve M rv fun l => k (v :: l)) = true := h
    rw [En.getK_eq] at h
    obtain ⟨b, o, hv, h⟩ := VV.onP_true h
    rw [getM_eq] at h
    obtain ⟨bt, s, l, ver, hb, h⟩ := OB.onC_true h
    have live : (Mm.at M b).live := by rw [hb]; trivial
    have ptr : ∀ {ρ e C}, ENR S ρ ve e → MR W0 ρ M nx C → ∃ r c ro, ρ b = some (r, c) ∧ (r, ro) ∈ C.flatten ∧ ObR ρ c (.cells bt s l ver) ro ∧ Eng.get e p.num = some (true, .pointer (some ⟨r, o, none⟩)) := fun {ρ e C} he hM => by
      obtain ⟨r, c, ro, h1, h2, h3⟩ := hM.live b live
      rw [hb] at h3
      obtain ⟨w, hw, hr⟩ := (he p i hp).1 (by rw [hv]; rfl)
      rw [hv] at hr
      obtain ⟨r', c', hρ', rfl⟩ := hr
      rw [h1] at hρ'
      cases hρ'
      exact ⟨r, c, ro, h1, h2, h3, hw⟩
    rcases cutK_true h with ⟨hag, v, hlv, h⟩ | ⟨hag, hle, h⟩ | ⟨hag, hz, h⟩
    · obtain ⟨vs, h1, h2⟩ := resK_true hT hr h
      refine ⟨_, h1, fun ρ e C he hM => ?_⟩
      obtain ⟨us, h3, h4⟩ := h2 ρ e C he hM
      obtain ⟨r, c, ro, hρ, hm, ho, hw⟩ := ptr he hM
      obtain ⟨us', rest, rfl, hl, hone, _⟩ := ho
      obtain ⟨u, hu, hvu⟩ := hl.get hlv
      have hlt := (List.getElem?_eq_some_iff.1 hu).1
      exact ⟨u :: us, ⟨u, us, rfl, hvu, h3⟩, .cell hw ht (by rw [hkn, hag]; rfl) (Rd.of_at (mem_at hm) (by simp [List.getElem?_append_left hlt, hu])) h4⟩
    · obtain ⟨vs, h1, h2⟩ := resK_true hT hr h
      refine ⟨_, h1, fun ρ e C he hM => ?_⟩
      obtain ⟨us, h3, h4⟩ := h2 ρ e C he hM
      obtain ⟨r, c, ro, hρ, hm, ho, hw⟩ := ptr he hM
      obtain ⟨us', rest, rfl, hl, hone, _⟩ := ho
      have hus := hl.length
      refine ⟨_ :: us, ⟨_, us, rfl, ⟨_, rfl, (hl.drop o).take ti.size, ?_⟩, h3⟩, .cells hw ht hag (cells_rdL hm fun j u hj => ?_) (by rw [List.length_take, List.length_drop]; omega) h4⟩
      · rw [List.all_eq_true] at hone ⊢
        exact fun z hz => hone z (List.mem_of_mem_drop (List.mem_of_mem_take hz))
      · rw [List.getElem?_take] at hj
        split at hj
        · rwa [List.getElem?_drop] at hj
        · cases hj
    · obtain ⟨vs, h1, h2⟩ := resK_true hT hr h
      refine ⟨_, h1, fun ρ e C he hM => ?_⟩
      obtain ⟨us, h3, h4⟩ := h2 ρ e C he hM
      obtain ⟨r, c, ro, hρ, hm, ho, hw⟩ := ptr he hM
      exact ⟨_ :: us, ⟨_, us, rfl, ⟨[], rfl, rfl, rfl⟩, h3⟩, .cells hw ht hag (fun j u hj => by simp at hj) (by simp [hz]) h4⟩

theorem tupK_true {l : List VV} {k : VV → Bool} (h : tupK l k = true) : ∃ v, k v = true ∧ ∀ ρ us, Rls ρ l us → Rl ρ v (tup us) := by
  match l, h with
  | [], h => exact ⟨.tup [], h, fun ρ us hu => by cases hu; exact ⟨[], rfl, rfl⟩⟩
  | [v], h => exact ⟨v, h, fun ρ us hu => by obtain ⟨u, r, rfl, h1, h2⟩ := hu; cases h2; exact h1⟩
  | v :: w :: s, h => exact ⟨.tup (v :: w :: s), h, fun ρ us hu => by
      have hu0 := hu
      obtain ⟨u, r, rfl, h1, h2⟩ := hu
      obtain ⟨u2, r2, rfl, h3, h4⟩ := h2
      exact ⟨_, rfl, hu0⟩⟩

/-- One function of the table. -/
inductive FR (T : Tab) (Q : Program) (f : Nat) : F2 → Prop
  | no : FR T Q f .no
  | mk {fn : Func} {c : Code} {c1 : C1} {S : List (P × I)} {rs : List ResultVar} {rv : List RV} {ps : List I} {body : Step} : Q.funcs[f]? = some fn → fn.body = some c → fn.results = rs.toArray → callable Q f = true → CR T Q fn.ntmps S c c1 → Inj S → EntOk S ps → Nat.ble ps.length fn.ntmps = true → Nat.ble rs.length 4 = true →
      RVR T S rs rv → body = stepC c1.toC2 → FR T Q f (.mk body rv ps)

theorem f_mk_ok (hT : TabOk Q T) (hfo : Q.follows .mixedOrders = true) (hc : CallOk W0 Q call) {f : P} {body : Step} {rv : List RV} {ps : List I} (hF : FR T Q f.num (.mk body rv ps)) {vs : List VV} {M : Mem} {nx : P} {k : Kv} (h : f_mk body rv ps call vs M nx k = true) :
    ∃ v M' nx', k v M' nx' = true ∧ Mono M nx M' nx' ∧
      ∀ ρ C us, Rls ρ vs us → MR W0 ρ M nx C → DoesC W0 Q f.num us.toArray C fun u C' => ∃ ρ', Den.Ext ρ ρ' ∧ MR W0 ρ' M' nx' C' ∧ Keep ρ M M' C C' ∧ Rl ρ' v u := by
  cases hF with
  | @mk fn c c1 S rs _ _ _ hf hb hr hcb hcr hS hE hpl hrl hrv hbody =>
    subst hbody
    obtain ⟨h1, ve, h2, h3⟩ := enterK_true hE h
    obtain ⟨ex, ve', M', nx', h4, hm, hrun⟩ := stepC_ok (W0 := W0) (call := call) hT hfo hc hS hcr ve M nx _ h2
    have fin : ∀ ex : Ex, (ex = .n ∨ ex = .r) → (∀ (K : Kont) ρ e C, ENR S ρ ve e → MR W0 ρ M nx C → (∀ ρ' e' C', Den.Ext ρ ρ' → ENR S ρ' ve' e' → MR W0 ρ' M' nx' C' → Keep ρ M M' C C' → K ex.out e' C') → V W0 Q fn.ntmps K c e C) → (resK ve' M' rv fun l => tupK l fun v => k v M' nx') = true →
        ∃ v M' nx', k v M' nx' = true ∧ Mono M nx M' nx' ∧ ∀ ρ C us, Rls ρ vs us → MR W0 ρ M nx C → DoesC W0 Q f.num us.toArray C fun u C' => ∃ ρ', Den.Ext ρ ρ' ∧ MR W0 ρ' M' nx' C' ∧ Keep ρ M M' C C' ∧ Rl ρ' v u := fun ex hex hrun h4 => by
      obtain ⟨ws, h5, h6⟩ := resK_true (W0 := W0) (nx := nx') hT hrv h4
      obtain ⟨v, h7, h8⟩ := tupK_true h5
      refine ⟨v, M', nx', h7, hm, fun ρ C us hu hM => .inl ⟨hcb, ?_⟩⟩
      have hul : us.length ≤ fn.ntmps := by rw [hu.length]; exact Nat.le_trans h1 (Nat.le_of_ble_eq_true hpl)
      refine Does.enter hf hb hr rfl (Nat.ble_eq_true_of_le hul) hrl (hrun _ ρ _ C (h3 ρ us hu) hM fun ρ' e' C' hx he' hM' hkp => ?_)
      obtain ⟨us', h9, h10⟩ := h6 ρ' e' C' he' hM'
      rcases hex with rfl | rfl
      · exact retR_end hT h10 (Weak.refl C') ⟨ρ', hx, hM', hkp, h8 ρ' us' h9⟩
      · exact retR_ret hT h10 (Weak.refl C') ⟨ρ', hx, hM', hkp, h8 ρ' us' h9⟩
    cases ex with
    | n => exact fin .n (.inl rfl) hrun h4
    | r => exact fin .r (.inr rfl) hrun h4
    | x id => cases h4

/-- What is told by hand. -/
def SpecOk (W0 : World) (Q : Program) (f : Nat) (g : List VV → Mem → P → SpR) : Prop := ∀ vs M nx v M' nx', g vs M nx = .some v M' nx' → Mono M nx M' nx' ∧ callable Q f = true ∧
  ∀ ρ C us, Rls ρ vs us → MR W0 ρ M nx C → Does W0 Q f us.toArray C fun u C' => ∃ ρ', Den.Ext ρ ρ' ∧ MR W0 ρ' M' nx' C' ∧ Keep ρ M M' C C' ∧ Rl ρ' v u

/-- What the model answers by itself, with nothing changed. -/
def SpecX (Q : Program) (f : Nat) (g : List VV → Mem → P → SpR) : Prop := ∀ vs M nx v M' nx', g vs M nx = .some v M' nx' → M' = M ∧ nx' = nx ∧ ∀ ρ us, Rls ρ vs us → ∃ u, Rl ρ v u ∧ ∀ w, (callFunc f us.toArray).run Q w = .ok (.value u) w

/-- A table of functions, each as it is in the program. -/
def FTOk (W0 : World) (Q : Program) (T : Tab) (FT : Tr F2) : Prop := ∀ f : P, FR T Q f.num (Tr.get .no FT f) ∨ ∃ g, Tr.get .no FT f = .spec g ∧ (SpecOk W0 Q f.num g ∨ SpecX Q f.num g)

theorem callF_ok (hT : TabOk Q T) (hfo : Q.follows .mixedOrders = true) {FT : Tr F2} (hFT : FTOk W0 Q T FT) : ∀ fuel, CallOk W0 Q (callF FT fuel)
  | 0 => fun f vs M nx k h => by cases h
  | fuel + 1 => fun f vs M nx k h => by
    have ih := callF_ok hT hfo hFT fuel
    have h : (Tr.getK .no FT f fun F => F2.rec (motive := fun _ => Call → List VV → Mem → P → Kv → Bool) (fun _ _ _ _ _ => false) f_mk f_spec F (callF FT fuel) vs M nx k) = true := h
    rw [Tr.getK_eq] at h
    rcases hFT f with hF | ⟨g, hg, hs⟩
    · cases hG : Tr.get .no FT f with
      | no => rw [hG] at h; cases h
      | mk body rv ps => rw [hG] at h hF; exact f_mk_ok hT hfo ih hF h
      | spec g => rw [hG] at hF; cases hF
    · rw [hg] at h
      have h : (SpR.rec (motive := fun _ => Kv → Bool) (fun _ => false) (fun v M nx k => k v M nx) (g vs M nx) k : Bool) = true := h
      cases hgv : g vs M nx with
      | no => rw [hgv] at h; cases h
      | some v M' nx' =>
        rw [hgv] at h
        have hk : k v M' nx' = true := h
        rcases hs with hs | hs
        · obtain ⟨h1, h2, h3⟩ := hs vs M nx v M' nx' hgv
          exact ⟨v, M', nx', hk, h1, fun ρ C us hu hM => .inl ⟨h2, h3 ρ C us hu hM⟩⟩
        · obtain ⟨rfl, rfl, h3⟩ := hs vs M nx v M' nx' hgv
          refine ⟨v, _, _, hk, Mono.refl _ _, fun ρ C us hu hM => ?_⟩
          obtain ⟨u, h4, h5⟩ := h3 ρ us hu
          exact .inr ⟨u, h5, ρ, Den.Ext.refl ρ, hM, Keep.refl _ _ _, h4⟩

end
end Den

/-
  Runs that part: what is not known is told apart between two steps of a law.
-/
set_option linter.unusedVariables false
namespace Den
open Go Eng

/-! ## An unknown number, known better -/

noncomputable def mapV (q : P) (g : Int → Int → Int → (VV → Bool) → Bool) (v : VV) (k : VV → Bool) : Bool := v.onSy (k v) fun q' lo hi c => Bool.rec (k v) (g lo hi c k) (q'.eqb q)
noncomputable def mapL (q : P) (g : Int → Int → Int → (VV → Bool) → Bool) (l : List VV) (k : List VV → Bool) : Bool :=
  List.rec (motive := fun _ => (List VV → Bool) → Bool) (fun k => k []) (fun v _ ih k => mapV q g v fun v => ih fun r => k (v :: r)) l k
noncomputable def mapO (q : P) (g : Int → Int → Int → (VV → Bool) → Bool) (o : OB) (k : OB → Bool) : Bool :=
  OB.rec (motive := fun _ => (OB → Bool) → Bool) (fun k => k .dead) (fun t s l v k => mapL q g l fun l => k (.cells t s l v)) (fun E c v k => k (.mp E c v)) (fun t l k => k (.ro t l)) (fun ty ti t e q k => k (.dg ty ti t e q)) (fun ty q lo hi k => k (.ev ty q lo hi)) (fun t l F k => k (.bs t l F)) o k
noncomputable def mapT (q : P) (g : Int → Int → Int → (VV → Bool) → Bool) (M : Mem) (k : Mem → Bool) : Bool :=
  Tr.rec (motive := fun _ => (Mem → Bool) → Bool) (fun k => k .lf) (fun o _ _ _ _ a b c d k => mapO q g o fun o => a fun l => b fun m => c fun n => d fun r => k (.nd o l m n r)) M k
noncomputable def mapE (q : P) (g : Int → Int → Int → (VV → Bool) → Bool) (e : En) (k : En → Bool) : Bool :=
  En.rec (motive := fun _ => (En → Bool) → Bool) (fun k => k .nl) (fun a0 a1 a2 a3 a4 a5 a6 a7 _ ih k => mapV q g a0 fun a0 => mapV q g a1 fun a1 => mapV q g a2 fun a2 => mapV q g a3 fun a3 => mapV q g a4 fun a4 => mapV q g a5 fun a5 => mapV q g a6 fun a6 => mapV q g a7 fun a7 => ih fun r => k (.nd a0 a1 a2 a3 a4 a5 a6 a7 r)) e k
noncomputable def mapEM (q : P) (g : Int → Int → Int → (VV → Bool) → Bool) (e : En) (M : Mem) (k : En → Mem → Bool) : Bool := mapE q g e fun e => mapT q g M fun M => k e M

/-- Where V holds, g tells q. -/
def GOk (V : Rho → Prop) (q : P) (g : Int → Int → Int → (VV → Bool) → Bool) : Prop := ∀ lo hi c K, g lo hi c K = true → ∃ v, K v = true ∧ v.one = true ∧ ∀ ρ u, V ρ → Rl ρ (.sy q lo hi c) u → Rl ρ v u
/-- A value, told better. -/
def Tel (V : Rho → Prop) (v w : VV) : Prop := w = v ∨ v.one = true ∧ w.one = true ∧ ∀ ρ u, V ρ → Rl ρ v u → Rl ρ w u

section
variable {V : Rho → Prop} {q : P} {g : Int → Int → Int → (VV → Bool) → Bool}

theorem Tel.rl {v w : VV} (h : Tel V v w) {ρ : Rho} (hV : V ρ) {u : Value} (k : Rl ρ v u) : Rl ρ w u := by
  rcases h with rfl | ⟨_, _, h⟩
  · exact k
  · exact h ρ u hV k
theorem Tel.one {v w : VV} (h : Tel V v w) (k : v.one = true) : w.one = true := by
  rcases h with rfl | ⟨_, h, _⟩
  · exact k
  · exact h
theorem Tel.sl {v w : VV} (h : Tel V v w) {ρ : Rho} (hV : V ρ) {x : Option (Bool × Value)} (k : SlR ρ v x) : SlR ρ w x := by
  rcases h with rfl | ⟨h1, h2, h⟩
  · exact k
  · refine ⟨fun _ => ?_, fun e => by subst e; cases h2⟩
    obtain ⟨u, h3, h4⟩ := k.1 (VV.one_ok h1)
    exact ⟨u, h3, h ρ u hV h4⟩

theorem mapV_true (hg : GOk V q g) {v : VV} {K : VV → Bool} (h : mapV q g v K = true) : ∃ w, K w = true ∧ Tel V v w := by
  rcases VV.onSy_true h with h | ⟨q', lo, hi, c, rfl, hk⟩
  · exact ⟨v, h, .inl rfl⟩
  · cases hq : q'.eqb q with
    | false => rw [hq] at hk; exact ⟨_, hk, .inl rfl⟩
    | true =>
      rw [hq] at hk
      have := P.eqb_eq.1 hq
      subst this
      obtain ⟨w, h1, h2, h3⟩ := hg lo hi c K hk
      exact ⟨w, h1, .inr ⟨rfl, h2, h3⟩⟩

inductive Tels (V : Rho → Prop) : List VV → List VV → Prop
  | nil : Tels V [] []
  | cons {v w l m} : Tel V v w → Tels V l m → Tels V (v :: l) (w :: m)
theorem Tels.refl : ∀ l, Tels V l l
  | [] => .nil
  | v :: l => .cons (.inl rfl) (Tels.refl l)
theorem Tels.rls {l m : List VV} (h : Tels V l m) {ρ : Rho} (hV : V ρ) : ∀ {us : List Value}, Rls ρ l us → Rls ρ m us := by
  induction h with
  | nil => exact fun k => k
  | cons h _ ih => exact fun ⟨u, r, h1, h2, h3⟩ => ⟨u, r, h1, h.rl hV h2, ih h3⟩
theorem Tel.trans {a b c : VV} (h : Tel V a b) (k : Tel V b c) : Tel V a c := by
  rcases h with rfl | ⟨h1, h2, h3⟩
  · exact k
  · rcases k with rfl | ⟨k1, k2, k3⟩
    · exact .inr ⟨h1, h2, h3⟩
    · exact .inr ⟨h1, k2, fun ρ u hV hu => k3 ρ u hV (h3 ρ u hV hu)⟩
theorem Tels.trans {a b c : List VV} (h : Tels V a b) : Tels V b c → Tels V a c := by
  induction h generalizing c with
  | nil => exact fun k => k
  | cons h _ ih => intro k; cases k with | cons k ks => exact .cons (h.trans k) (ih ks)
theorem Tels.one {l m : List VV} (h : Tels V l m) (k : l.all VV.one = true) : m.all VV.one = true := by
  induction h with
  | nil => rfl
  | cons h _ ih =>
    simp only [List.all_cons, Bool.and_eq_true] at k ⊢
    exact ⟨h.one k.1, ih k.2⟩
theorem mapL_true (hg : GOk V q g) : ∀ {l : List VV} {K : List VV → Bool}, mapL q g l K = true → ∃ m, K m = true ∧ Tels V l m
  | [], K, h => ⟨[], h, .nil⟩
  | v :: l, K, h => by
    have h : (mapV q g v fun v => mapL q g l fun r => K (v :: r)) = true := h
    obtain ⟨w, h, h1⟩ := mapV_true hg h
    obtain ⟨m, h, h2⟩ := mapL_true hg h
    exact ⟨w :: m, h, .cons h1 h2⟩

/-- A block, told better. -/
inductive TelO (V : Rho → Prop) : OB → OB → Prop
  | refl {o} : TelO V o o
  | cells {t s l m v} : Tels V l m → TelO V (.cells t s l v) (.cells t s m v)
  | bs {t l F F'} : (∀ ρ, V ρ → OrdR ρ F → OrdR ρ F') → TelO V (.bs t l F) (.bs t l F')
  | ev {ty q lo hi lo' hi'} : (∀ ρ r s, V ρ → ρ q = some (r, s) → lo ≤ r → r ≤ hi → lo' ≤ r ∧ r ≤ hi') → TelO V (.ev ty q lo hi) (.ev ty q lo' hi')
theorem mapO_true (hg : GOk V q g) {o : OB} {K : OB → Bool} (h : mapO q g o K = true) : ∃ o', K o' = true ∧ TelO V o o' := by
  cases o with
  | cells t s l v =>
    obtain ⟨m, h1, h2⟩ := mapL_true hg (K := fun l => K (.cells t s l v)) h
    exact ⟨_, h1, .cells h2⟩
  | _ => exact ⟨_, h, .refl⟩
theorem TelO.live {o o' : OB} (h : TelO V o o') : o'.live ↔ o.live := by cases h <;> exact Iff.rfl
theorem TelO.isD {o o' : OB} (h : TelO V o o') : o'.isD ↔ o.isD := by cases h <;> exact Iff.rfl
theorem TelO.same {o o' : OB} (h : TelO V o o') (k : o.isD) : o' = o := by cases h <;> first | rfl | exact k.elim
theorem TelO.obr {o o' : OB} (h : TelO V o o') {ρ : Rho} (hV : V ρ) {c : Nat} {ro : Obj} (k : ObR ρ c o ro) : ObR ρ c o' ro := by
  cases h with
  | refl => exact k
  | cells h => obtain ⟨us, rest, h1, h2, h3, h4⟩ := k; exact ⟨us, rest, h1, h.rls hV h2, h.one h3, h4⟩
  | ev h =>
    obtain ⟨r, s, rest, fz, h1, h2, h3, h4, h5, h6⟩ := k
    obtain ⟨g1, g2⟩ := h ρ r s hV h1 h5 h6
    exact ⟨r, s, rest, fz, h1, h2, h3, h4, g1, g2⟩
  | bs h => exact k.elim

theorem mapT_true (hg : GOk V q g) : ∀ {M : Mem} {K : Mem → Bool}, mapT q g M K = true → ∃ M', K M' = true ∧ ∀ b, TelO V (Mm.at M b) (Mm.at M' b) := by
  intro M
  induction M with
  | lf => exact fun {K} h => ⟨.lf, h, fun b => .refl⟩
  | nd o l m n r il im inn ir =>
    intro K h
    have h : (mapO q g o fun o => mapT q g l fun l => mapT q g m fun m => mapT q g n fun n => mapT q g r fun r => K (.nd o l m n r)) = true := h
    obtain ⟨o', h, h0⟩ := mapO_true hg h
    obtain ⟨l', h, h1⟩ := il h
    obtain ⟨m', h, h2⟩ := im h
    obtain ⟨n', h, h3⟩ := inn h
    obtain ⟨r', h, h4⟩ := ir h
    refine ⟨_, h, fun b => ?_⟩
    cases b with
    | z => exact h0
    | a b => exact h1 b
    | b b => exact h2 b
    | c b => exact h3 b
    | d b => exact h4 b

theorem MR.tel {W0 : World} {ρ : Rho} (hV : V ρ) {M M' : Mem} {nx : P} {C : Heap} (h : MR W0 ρ M nx C) (k : ∀ b, TelO V (Mm.at M b) (Mm.at M' b)) : MR W0 ρ M' nx C where
  old := h.old
  live := fun b hb => by
    obtain ⟨r, c, ro, h1, h2, h3⟩ := h.live b ((k b).live.1 hb)
    exact ⟨r, c, ro, h1, h2, (k b).obr hV h3⟩
  inj := fun b b' r c c' hb hb' => h.inj b b' r c c' ((k b).live.1 hb) ((k b').live.1 hb')
  dgs := fun b ty ti t e q hb => by
    have hk := k b
    rw [hb] at hk
    have hm : Mm.at M b = .dg ty ti t e q := by
      generalize hx : Mm.at M b = x at hk
      cases hk with
      | refl => rfl
    exact (h.dgs b ty ti t e q hm).mono (Ext.refl _) fun p hp hf => ⟨hp, fun b' hb' => hf b' ((k b').live.1 hb')⟩
  one := fun b b' hb hb' => h.one b b' ((k b).isD.1 hb) ((k b').isD.1 hb')
  bas := fun b t l F hb => by
    have hk := k b
    rw [hb] at hk
    generalize hx : Mm.at M b = x at hk
    cases hk with
    | refl => exact h.bas b t l F hx
    | @bs _ _ F0 _ hF =>
      obtain ⟨r, pre, us, rest, fz, h1, h2, h3, h4, h5⟩ := h.bas b t l F0 hx
      exact ⟨r, pre, us, rest, fz, h1, h2, h3, h4, hF ρ hV h5⟩

theorem mapE_true (hg : GOk V q g) : ∀ {e : En} {K : En → Bool}, mapE q g e K = true → ∃ e', K e' = true ∧ ∀ i, Tel V (e.get i) (e'.get i) := by
  intro e
  induction e with
  | nl => exact fun {K} h => ⟨.nl, h, fun i => .inl rfl⟩
  | nd a0 a1 a2 a3 a4 a5 a6 a7 r ih =>
    intro K h
    have h : (mapV q g a0 fun a0 => mapV q g a1 fun a1 => mapV q g a2 fun a2 => mapV q g a3 fun a3 => mapV q g a4 fun a4 => mapV q g a5 fun a5 => mapV q g a6 fun a6 => mapV q g a7 fun a7 => mapE q g r fun r => K (.nd a0 a1 a2 a3 a4 a5 a6 a7 r)) = true := h
    obtain ⟨b0, h, h0⟩ := mapV_true hg h
    obtain ⟨b1, h, h1⟩ := mapV_true hg h
    obtain ⟨b2, h, h2⟩ := mapV_true hg h
    obtain ⟨b3, h, h3⟩ := mapV_true hg h
    obtain ⟨b4, h, h4⟩ := mapV_true hg h
    obtain ⟨b5, h, h5⟩ := mapV_true hg h
    obtain ⟨b6, h, h6⟩ := mapV_true hg h
    obtain ⟨b7, h, h7⟩ := mapV_true hg h
    obtain ⟨r', h, h8⟩ := ih h
    refine ⟨_, h, fun i => ?_⟩
    cases i with
    | nx i => exact h8 i
    | i0 => exact h0
    | i1 => exact h1
    | i2 => exact h2
    | i3 => exact h3
    | i4 => exact h4
    | i5 => exact h5
    | i6 => exact h6
    | i7 => exact h7

theorem mapEM_true {W0 : World} (hg : GOk V q g) {e : En} {M : Mem} {K : En → Mem → Bool} (h : mapEM q g e M K = true) : ∃ e' M', K e' M' = true ∧ ∀ ρ, V ρ → (∀ S env, ENR S ρ e env → ENR S ρ e' env) ∧ (∀ nx C, MR W0 ρ M nx C → MR W0 ρ M' nx C) ∧ ∀ b, (Mm.at M b).isD → Mm.at M' b = Mm.at M b := by
  obtain ⟨e', h, h1⟩ := mapE_true hg h
  obtain ⟨M', h, h2⟩ := mapT_true hg h
  exact ⟨e', M', h, fun ρ hV => ⟨fun S env he p i hp => (h1 i).sl hV (he p i hp), fun nx C hM => hM.tel hV h2, fun b hb => (h2 b).same hb⟩⟩
end

/-- .. in some blocks alone. -/
noncomputable def mapAt (q : P) (g : Int → Int → Int → (VV → Bool) → Bool) (b : P) (M : Mem) (k : Mem → Bool) : Bool := Tr.getK .dead M b fun o => mapO q g o fun o => Tr.setK .dead M b o k
noncomputable def mapB (q : P) (g : Int → Int → Int → (VV → Bool) → Bool) (bs : List P) (M : Mem) (k : Mem → Bool) : Bool := List.rec (motive := fun _ => Mem → Bool) (fun M => k M) (fun b _ ih M => mapAt q g b M fun M => ih M) bs M
noncomputable def mapEB (q : P) (g : Int → Int → Int → (VV → Bool) → Bool) (bs : List P) (e : En) (M : Mem) (k : En → Mem → Bool) : Bool := mapE q g e fun e => mapB q g bs M fun M => k e M
section
variable {V : Rho → Prop} {q : P} {g : Int → Int → Int → (VV → Bool) → Bool}
theorem mapAt_true (hg : GOk V q g) {b : P} {M : Mem} {K : Mem → Bool} (h : mapAt q g b M K = true) : ∃ M', K M' = true ∧ ∀ b', TelO V (Mm.at M b') (Mm.at M' b') := by
  unfold mapAt at h
  rw [getM_eq] at h
  obtain ⟨o, h, ho⟩ := mapO_true hg h
  rw [Tr.setK_eq] at h
  refine ⟨_, h, fun b' => ?_⟩
  by_cases hb : b' = b
  · subst hb; rw [at_set]; exact ho
  · rw [at_set_ne M _ hb]; exact .refl
theorem TelO.trans {a b c : OB} (h : TelO V a b) (k : TelO V b c) : TelO V a c := by
  cases h with
  | refl => exact k
  | cells h =>
    cases k with
    | refl => exact .cells h
    | cells k => exact .cells (h.trans k)
  | ev h =>
    cases k with
    | refl => exact .ev h
    | ev k => exact .ev fun ρ r s hV hq a b => k ρ r s hV hq (h ρ r s hV hq a b).1 (h ρ r s hV hq a b).2
  | bs h =>
    cases k with
    | refl => exact .bs h
    | bs k => exact .bs fun ρ hV ho => k ρ hV (h ρ hV ho)
theorem mapB_true (hg : GOk V q g) : ∀ {bs : List P} {M : Mem} {K : Mem → Bool}, mapB q g bs M K = true → ∃ M', K M' = true ∧ ∀ b', TelO V (Mm.at M b') (Mm.at M' b')
  | [], M, K, h => ⟨M, h, fun _ => .refl⟩
  | b :: bs, M, K, h => by
    have h : (mapAt q g b M fun M => mapB q g bs M K) = true := h
    obtain ⟨M1, h, h1⟩ := mapAt_true hg h
    obtain ⟨M2, h, h2⟩ := mapB_true hg h
    exact ⟨M2, h, fun b' => (h1 b').trans (h2 b')⟩
theorem mapEB_true {W0 : World} (hg : GOk V q g) {bs : List P} {e : En} {M : Mem} {K : En → Mem → Bool} (h : mapEB q g bs e M K = true) : ∃ e' M', K e' M' = true ∧ ∀ ρ, V ρ → (∀ S env, ENR S ρ e env → ENR S ρ e' env) ∧ (∀ nx C, MR W0 ρ M nx C → MR W0 ρ M' nx C) ∧ ∀ b, (Mm.at M b).isD → Mm.at M' b = Mm.at M b := by
  obtain ⟨e', h, h1⟩ := mapE_true hg h
  obtain ⟨M', h, h2⟩ := mapB_true hg h
  exact ⟨e', M', h, fun ρ hV => ⟨fun S env he p i hp => (h1 i).sl hV (he p i hp), fun nx C hM => hM.tel hV h2, fun b hb => (h2 b).same hb⟩⟩
end

/-- The number is w. -/
noncomputable def gCon (w : Int) : Int → Int → Int → (VV → Bool) → Bool := fun _ _ c k => forceZ (addZ w c) fun z => k (.i z)
theorem gCon_ok (q : P) (w : Int) : GOk (fun ρ => ∃ r s, ρ q = some (r, s) ∧ (r : Int) = w) q (gCon w) := fun lo hi c K h => by
  have h : forceZ (addZ w c) (fun z => K (.i z)) = true := h
  rw [forceZ_eq, addZ_eq] at h
  refine ⟨_, h, rfl, fun ρ u hV hu => ?_⟩
  obtain ⟨r, s, hs, rfl⟩ := hV
  obtain ⟨r', s', h1, _, _, rfl⟩ := hu
  rw [hs] at h1
  cases h1
  rfl
/-- The number is l at least. -/
noncomputable def gNar (q : P) (l : Int) : Int → Int → Int → (VV → Bool) → Bool := fun _ hi c k => k (.sy q l hi c)
theorem gNar_ok (q : P) (l : Int) : GOk (fun ρ => ∃ r s, ρ q = some (r, s) ∧ l ≤ (r : Int)) q (gNar q l) := fun lo hi c K h => ⟨_, h, rfl, fun ρ u hV hu => by
  obtain ⟨r, s, h1, h2⟩ := hV
  obtain ⟨r2, s2, h3, _, h4, rfl⟩ := hu
  rw [h1] at h3
  cases h3
  exact ⟨r, s, h1, h2, h4, rfl⟩⟩

/-! ## Steps of a law -/

section
variable {W0 : World} {Q : Program} {T : Tab} {call : Call} {n : Nat} {S : List (P × I)} {A : Rho → Prop}

/-- A step does what its code does, whatever is told apart on the way. -/
def StepP (W0 : World) (Q : Program) (n : Nat) (S : List (P × I)) (call : Call) (A : Rho → Prop) (c : Code) (s : Step) : Prop := ∀ (ve : En) (M : Mem) (nx : P) (k : KS), s call ve M nx k = true →
  ∀ (K : Kont) ρ e C, A ρ → ENR S ρ ve e → MR W0 ρ M nx C → (∀ ex ve' M' nx' ρ' e' C', k ex ve' M' nx' = true → A ρ' → ENR S ρ' ve' e' → MR W0 ρ' M' nx' C' → K ex.out e' C') → V W0 Q n K c e C
/-- What stays true of what is known. -/
def Stays (A : Rho → Prop) : Prop := ∀ ρ ρ', Ext ρ ρ' → A ρ → A ρ'
/-- What is told apart: one of the ways is the true one. -/
def Splits (W0 : World) (S : List (P × I)) (A : Rho → Prop) (f : RegF) : Prop := ∀ call ve M nx k, f call ve M nx k = true → ∀ ρ e C, A ρ → ENR S ρ ve e → MR W0 ρ M nx C → ∃ ve' M' nx' ρ', k ve' M' nx' = true ∧ Ext ρ ρ' ∧ ENR S ρ' ve' e ∧ MR W0 ρ' M' nx' C

theorem StepP.base {c : Code} {s : Step} (hA : Stays A) (h : StepOk W0 Q n S call c s) : StepP W0 Q n S call A c s := fun ve M nx k hk K ρ e C hρ he hM hK => by
  obtain ⟨ex, ve', M', nx', h1, _, h2⟩ := h ve M nx k hk
  exact h2 K ρ e C he hM fun ρ' e' C' hx h3 h4 _ => hK ex ve' M' nx' ρ' e' C' h1 (hA ρ ρ' hx hρ) h3 h4
theorem StepP.split {f : RegF} {c : Code} {s : Step} (hA : Stays A) (hf : Splits W0 S A f) (h : StepP W0 Q n S call A c s) : StepP W0 Q n S call A c (c_seq (c_fn f) s) := fun ve M nx k hk K ρ e C hρ he hM hK => by
  have hk : f call ve M nx (fun e M nx => s call e M nx k) = true := hk
  obtain ⟨ve', M', nx', ρ', h1, hx, h2, h3⟩ := hf call ve M nx _ hk ρ e C hρ he hM
  exact h ve' M' nx' k h1 K ρ' e C (hA ρ ρ' hx hρ) h2 h3 hK
theorem StepP.seq {a b : Code} {s t : Step} (ha : StepP W0 Q n S call A a s) (hb : StepP W0 Q n S call A b t) : StepP W0 Q n S call A (.seq a b) (c_seq s t) := fun ve M nx k hk K ρ e C hρ he hM hK => by
  have hk : s call ve M nx (fun ex e M nx => Ex.rec (t call e M nx k) (k .r e M nx) (fun id => k (.x id) e M nx) ex) = true := hk
  refine V.seq (ha ve M nx _ hk _ ρ e C hρ he hM fun ex ve1 M1 nx1 ρ1 e1 C1 h1 hA1 h2 h3 => ?_)
  cases ex with
  | n => exact hb ve1 M1 nx1 k h1 K ρ1 e1 C1 hA1 h2 h3 hK
  | r => exact hK .r ve1 M1 nx1 ρ1 e1 C1 h1 hA1 h2 h3
  | x id => exact hK (.x id) ve1 M1 nx1 ρ1 e1 C1 h1 hA1 h2 h3
theorem StepP.cond {x : Operand} {x' : XI} {a b : Code} {s t : Step} (hx : XIR S x' x) (ha : StepP W0 Q n S call A a s) (hb : StepP W0 Q n S call A b t) : StepP W0 Q n S call A (.cond x a b) (c_cond x' s t) := fun ve M nx k hk K ρ e C hρ he hM hK => by
  have hk : (x'.getK ve fun v => v.onB fun c => Bool.rec (t call ve M nx k) (s call ve M nx k) c) = true := hk
  rw [XI.getK_eq] at hk
  obtain ⟨c, hv, hk⟩ := VV.onB_true hk
  obtain ⟨u, h1, rfl⟩ := hx.look he hv rfl
  cases c with
  | true => exact V.cond h1 (fun _ => ha ve M nx k hk K ρ e C hρ he hM hK) (fun h => by cases h)
  | false => exact V.cond h1 (fun h => by cases h) (fun _ => hb ve M nx k hk K ρ e C hρ he hM hK)
theorem StepP.blk {id : Nat} {c : Code} {s : Step} (h : StepP W0 Q n S call A c s) : StepP W0 Q n S call A (.block id c) (c_blk id s) := fun ve M nx k hk K ρ e C hρ he hM hK => by
  have hk : s call ve M nx (fun ex e M nx => Ex.rec (k .n e M nx) (k .r e M nx) (fun id' => Bool.rec (k (.x id') e M nx) (k .n e M nx) (Nat.beq id' id)) ex) = true := hk
  refine V.block (h ve M nx _ hk _ ρ e C hρ he hM fun ex ve1 M1 nx1 ρ1 e1 C1 h1 hA1 h2 h3 => ?_)
  cases ex with
  | n => exact hK .n ve1 M1 nx1 ρ1 e1 C1 h1 hA1 h2 h3
  | r => exact hK .r ve1 M1 nx1 ρ1 e1 C1 h1 hA1 h2 h3
  | x id' =>
    have h1 : (Bool.rec (k (.x id') ve1 M1 nx1) (k .n ve1 M1 nx1) (Nat.beq id' id) : Bool) = true := h1
    show (bif Nat.beq id' id then K .normal e1 C1 else K (.exit id') e1 C1)
    cases hb : Nat.beq id' id with
    | true => rw [hb] at h1; exact hK .n ve1 M1 nx1 ρ1 e1 C1 h1 hA1 h2 h3
    | false => rw [hb] at h1; exact hK (.x id') ve1 M1 nx1 ρ1 e1 C1 h1 hA1 h2 h3
theorem StepP.loop {c : Code} {s : Step} (h : StepP W0 Q n S call A c s) : StepP W0 Q n S call A (.loop c) (loopK s) := fun ve M nx k hk K ρ e C hρ he hM hK => by
  have key : ∀ (m : Nat) (ve : En) (M : Mem) (nx : P) ρ e C, loopN m s call ve M nx k = true → A ρ → ENR S ρ ve e → MR W0 ρ M nx C → LoopG W0 Q n K c m e C := by
    intro m
    induction m with
    | zero => intro ve M nx ρ e C h; cases h
    | succ m ih =>
      intro ve M nx ρ e C hm hρ he hM
      have hm : s call ve M nx (fun ex e M nx => Ex.rec (loopN m s call e M nx k) (k .r e M nx) (fun id => k (.x id) e M nx) ex) = true := hm
      refine h ve M nx _ hm _ ρ e C hρ he hM fun ex ve1 M1 nx1 ρ1 e1 C1 h1 hA1 h2 h3 => ?_
      cases ex with
      | n => exact ih ve1 M1 nx1 ρ1 e1 C1 h1 hA1 h2 h3
      | r => exact hK .r ve1 M1 nx1 ρ1 e1 C1 h1 hA1 h2 h3
      | x id => exact hK (.x id) ve1 M1 nx1 ρ1 e1 C1 h1 hA1 h2 h3
  exact V.loopG (key 100000 ve M nx ρ e C hk hρ he hM)

/-- From here on with another table. -/
noncomputable def withC (call2 : Call) (s : Step) : Step := fun _ e M nx k => s call2 e M nx k
theorem StepP.withC {call2 : Call} {c : Code} {s : Step} (h : StepP W0 Q n S call2 A c s) : StepP W0 Q n S call A c (withC call2 s) := fun ve M nx k hk => h ve M nx k hk

/-- A law whose run parts. -/
theorem law_ok (hT : TabOk Q T) {f : Nat} {fn : Func} {c : Code} {rs : List ResultVar} {rv : List RV} {ps : List I} {body : Step} (hf : Q.funcs[f]? = some fn) (hb : fn.body = some c) (hr : fn.results = rs.toArray) (hE : EntOk S ps) (hpl : Nat.ble ps.length fn.ntmps = true) (hrl : Nat.ble rs.length 4 = true) (hrv : RVR T S rs rv)
    (hbody : StepP W0 Q fn.ntmps S call A c body) {vs : List VV} {M : Mem} {nx : P} {k : Kv} (h : f_mk body rv ps call vs M nx k = true) {ρ : Rho} {C : Eng.Heap} {us : List Value} (hρ : A ρ) (hu : Rls ρ vs us) (hM : MR W0 ρ M nx C) :
    Does W0 Q f us.toArray C fun u C' => ∃ v M' nx' ρ', k v M' nx' = true ∧ Rl ρ' v u := by
  obtain ⟨h1, ve, h2, h3⟩ := enterK_true hE h
  have hul : us.length ≤ fn.ntmps := by rw [hu.length]; exact Nat.le_trans h1 (Nat.le_of_ble_eq_true hpl)
  refine Does.enter hf hb hr rfl (Nat.ble_eq_true_of_le hul) hrl (hbody ve M nx _ h2 _ ρ _ C hρ (h3 ρ us hu) hM fun ex ve' M' nx' ρ' e' C' h4 _ he' hM' => ?_)
  have fin : (resK ve' M' rv fun l => tupK l fun v => k v M' nx') = true → ∃ v us', k v M' nx' = true ∧ Rl ρ' v (tup us') ∧ Res T W0 e' C' rs us' := fun h4 => by
    obtain ⟨ws, h5, h6⟩ := resK_true (W0 := W0) (nx := nx') hT hrv h4
    obtain ⟨v, h7, h8⟩ := tupK_true h5
    obtain ⟨us', h9, h10⟩ := h6 ρ' e' C' he' hM'
    exact ⟨v, us', h7, h8 ρ' us' h9, h10⟩
  cases ex with
  | n =>
    obtain ⟨v, us', h5, h6, h7⟩ := fin h4
    exact retR_end hT h7 (Weak.refl C') ⟨v, M', nx', ρ', h5, h6⟩
  | r =>
    obtain ⟨v, us', h5, h6, h7⟩ := fin h4
    exact retR_ret hT h7 (Weak.refl C') ⟨v, M', nx', ρ', h5, h6⟩
  | x id => cases h4
end

end Den

/-
  Calls whose run parts, in plain regions.
-/
set_option linter.unusedVariables false
namespace Den
open Go Eng

section
variable {W0 : World} {P : Program} {T : Tab} {call : Call} {A : Rho → Prop}

/-- A call does what its print does, whatever is told apart on the way. -/
def CallP (W0 : World) (P : Program) (A : Rho → Prop) (call : Call) : Prop := ∀ f vs M nx (k : Kv), call f vs M nx k = true → ∀ ρ C us, A ρ → Rls ρ vs us → MR W0 ρ M nx C → DoesC W0 P f.num us.toArray C fun u C' => ∃ v M' nx' ρ', k v M' nx' = true ∧ Ext ρ ρ' ∧ MR W0 ρ' M' nx' C' ∧ Rl ρ' v u
theorem CallP.of (h : CallOk W0 P call) : CallP W0 P A call := fun f vs M nx k hk ρ C us _ hu hM => by
  obtain ⟨v, M', nx', h1, _, h2⟩ := h f vs M nx k hk
  rcases h2 ρ C us hu hM with ⟨hc, hd⟩ | ⟨u, h3, ρ', h4, h5, _, h6⟩
  · exact .inl ⟨hc, hd.mono fun u C' ⟨ρ', h4, h5, _, h6⟩ => ⟨v, M', nx', ρ', h1, h4, h5, h6⟩⟩
  · exact .inr ⟨u, h3, v, M', nx', ρ', h1, h4, h5, h6⟩

noncomputable def noCall : Call := fun _ _ _ _ _ => false
theorem noCall_ok : CallOk W0 P noCall := fun f vs M nx k h => by cases h

/-- An operation that is wanted, ahead of the others. -/
theorem opP (hT : TabOk P T) (hc : CallP W0 P A call) (hA : Stays A) {arr : Array Oper} {kont : Env → Heap → Prop} {o : Oper} {y : Y} {rest : List (Kind × Oper)} {ve : Tr VV} {M : Mem} {nx : Den.P} {K : Kv} {ρ : Rho} {e : Env} {C : Heap}
    (hg : guardOk arr e o.guard true) (hy : TrY T P o y) (hni : ∀ tbl x xs, y ≠ .inv tbl x xs) (h : doK call ve M nx y K = true) (hρ : A ρ) (he : ERl ρ ve e) (hM : MR W0 ρ M nx C)
    (cont : ∀ v M' nx' ρ' u C', K v M' nx' = true → Ext ρ ρ' → MR W0 ρ' M' nx' C' → (Rl ρ' v u ∨ v = .no) → Run W0 P [] arr kont rest (ext o.dst true u e) C') :
    Run W0 P [] arr kont ((klass ⟨[], [], []⟩ o, o) :: rest) e C := by
  have det : doK noCall ve M nx y K = true → Run W0 P [] arr kont ((klass ⟨[], [], []⟩ o, o) :: rest) e C := fun h => by
    obtain ⟨v, M', nx', h1, hf⟩ := doK_ok (W0 := W0) hT noCall_ok hy h
    refine Run.fact (sb := []) (D := []) (by cases o.dst <;> rfl) hg (fun _ => hf) he hM (by simp) (by simp) (by simp) (fun _ ρ' u C' hx hu hM' _ _ => cont v M' nx' ρ' u C' h1 hx hM' hu) (fun h => by cases h)
  have cal : ∀ {f : Den.P} {x : Operand} {l : List Operand} {vs fs cs : List Value} {us : List VV} {ts : Array TypeId} {d ty q af g}, o = ⟨d, .call { callee := .value x, args := l.toArray, argTypes := ts }, ty, q, af, g⟩ → klassOp cfg0 o.op = .m → look e x = some (true, .func (.func f.num) fs.toArray cs.toArray) → Looks e l vs →
      call f us M nx K = true → Rls ρ us (fs ++ vs ++ cs) → Run W0 P [] arr kont ((klass ⟨[], [], []⟩ o, o) :: rest) e C := fun {f x l vs fs cs us ts d ty q af g} ho hk hx hl hcall hr => by
    have hkl : klass ⟨[], [], []⟩ o = .m := by
      rw [show klass ⟨[], [], []⟩ o = klassOp cfg0 o.op by unfold klass; cases o.dst <;> rfl, hk]
    rw [hkl]
    subst ho
    have hd := hc f us M nx K hcall ρ C _ hρ hr hM
    refine .m true _ hg (fun _ => m_callC hx hl hd) (fun _ v' C' _ => ⟨C'.flatten, by simp⟩) (fun _ u C' hr _ => ?_) (fun h => by cases h)
    obtain ⟨v, M', nx', ρ', h1, h2, h3, h4⟩ := hr
    exact cont v M' nx' ρ' u C' h1 h2 h3 (.inl h4)
  cases hy with
  | @call d ty q af g ts f l xs hx =>
    have h : (xsK ve xs fun vs => call f vs M nx K) = true := h
    obtain ⟨vs, h, h1, h2⟩ := xsK_true h
    obtain ⟨us, h3, _, h5⟩ := hx.looks he h1 h2
    exact cal (fs := []) (cs := []) rfl rfl rfl h5 h (by simpa using h3)
  | @cv d ty q af g ts x x' l xs hx' hx =>
    have h : (x'.getK ve fun v => v.onF fun f as cs => xsK ve xs fun vs => appK vs cs fun r => appK as r fun vs => call f vs M nx K) = true := h
    rw [X.getK_eq] at h
    obtain ⟨f, as, cs, hf, h⟩ := VV.onF_true h
    obtain ⟨vs, h, h1, h2⟩ := xsK_true h
    rw [appK_eq, appK_eq] at h
    obtain ⟨us, h3, _, h5⟩ := hx.looks he h1 h2
    obtain ⟨u, hu, fs, ws, rfl, h6, h7⟩ := hx'.look he hf rfl
    exact cal rfl rfl hu h5 h (by simpa only [List.append_assoc] using h6.append (h3.append h7))
  | @inv d ty q af g ts tbl name x x' l xs hme hx' hx =>
    exact absurd rfl (hni tbl x' xs)
  | p h1 => exact det h
  | ld h1 h2 h3 => exact det h
  | st h1 h2 h3 => exact det h
  | al h1 h2 h3 => exact det h
  | bx h1 => exact det h
  | bsl h1 h2 h3 h4 h5 h6 h7 h8 h9 h10 => exact det h
  | mks h1 h2 h3 h4 h5 h6 h7 h8 h9 => exact det h
  | app h1 h2 h3 h4 h5 h6 h7 h8 => exact det h
  | cpy h1 h2 h3 h4 => exact det h
  | mkm => exact det h
  | lku h1 h2 h3 h4 h5 h6 => exact det h
  | mup h1 h2 h3 h4 h5 => exact det h
  | mdl h1 h2 h3 h4 => exact det h
  | peq h1 h2 h3 h4 => exact det h
  | cvs h1 h2 h3 h4 => exact det h
  | bad => exact det h
/-- An operation that is not wanted. -/
theorem offP {arr : Array Oper} {kont : Env → Heap → Prop} {o : Oper} {rest : List (Kind × Oper)} {ve ve2 : Tr VV} {M : Mem} {nx : Den.P} {ρ : Rho} {e : Env} {C : Heap} (hg : guardOk arr e o.guard false) (he : ERl ρ ve e) (hM : MR W0 ρ M nx C)
    (h0 : isMF (klassOp cfg0 o.op) = false → ∀ u, ERl ρ ve2 (ext o.dst false u e)) (h1 : isMF (klassOp cfg0 o.op) = true → ERl ρ ve2 (ext o.dst true undef e)) (cont : ∀ g u, ERl ρ ve2 (ext o.dst g u e) → Run W0 P [] arr kont rest (ext o.dst g u e) C) :
    Run W0 P [] arr kont ((klass ⟨[], [], []⟩ o, o) :: rest) e C :=
  Run.fact (v := .no) (M' := M) (nx' := nx) (sb := []) (D := []) (by cases o.dst <;> rfl) hg (fun h => by cases h) he hM (by simp) (by simp) (by simp) (fun h => by cases h) (fun _ => ⟨fun h u => cont _ _ (h0 h u), fun h => cont _ _ (h1 h)⟩)

def noInv1 : Y → Bool
  | .inv .. => false
  | _ => true
def noInv : Z → Bool
  | .d _ y | .u y | .gd _ _ _ y | .gu _ _ y => noInv1 y
  | _ => true
theorem noInv1_ok {y : Y} (h : noInv1 y = true) : ∀ tbl x xs, y ≠ .inv tbl x xs := fun tbl x xs e => by rw [e] at h; cases h

/-- A plain region runs as its print does. -/
theorem regP_ok (hT : TabOk P T) (hc : CallP W0 P A call) (hA : Stays A) {arr : Array Oper} {k : Kr} {kont : Env → Heap → Prop} : ∀ {l : List Oper} {zs : List Z}, ZRs T P arr [] l zs → zs.all noInv = true → ∀ {ve : Tr VV} {M : Mem} {nx : Den.P} {acc : List Den.P} {ρ : Rho} {e : Env} {C : Heap}, regK call zs ve M nx acc k = true → A ρ → ERl ρ ve e → MR W0 ρ M nx C →
    (∀ ve1 M1 nx1 acc1 ρ1 e1 C1, k ve1 M1 nx1 acc1 = true → Ext ρ ρ1 → ERl ρ1 ve1 e1 → MR W0 ρ1 M1 nx1 C1 → (∀ n, (∀ o ∈ l, o.dst ≠ some n) → Eng.get e1 n = Eng.get e n) → kont e1 C1) → Run W0 P [] arr kont (l.map fun o => (klass ⟨[], [], []⟩ o, o)) e C
  | _, _, .nil, _, ve, M, nx, acc, ρ, e, C, h, hρ, he, hM, hk => .nil (hk ve M nx acc ρ e C h (Ext.refl ρ) he hM fun _ _ => rfl)
  | o :: l, z :: zs, .cons hz hzs, hni, ve, M, nx, acc, ρ, e, C, h, hρ, he, hM, hk => by
    obtain ⟨hn1, hn2⟩ : noInv z = true ∧ zs.all noInv = true := by simpa using hni
    have next : ∀ {ve2 : Tr VV} {M2 : Mem} {nx2 : Den.P} {acc2 : List Den.P} {ρ2 : Rho} {g : Bool} {u : Value} {C2 : Heap}, regK call zs ve2 M2 nx2 acc2 k = true → Ext ρ ρ2 → ERl ρ2 ve2 (ext o.dst g u e) → MR W0 ρ2 M2 nx2 C2 → Run W0 P [] arr kont (l.map fun o => (klass ⟨[], [], []⟩ o, o)) (ext o.dst g u e) C2 := fun {ve2 M2 nx2 acc2 ρ2 g u C2} h hx he2 hM2 =>
      regP_ok hT hc hA hzs hn2 h (hA ρ ρ2 hx hρ) he2 hM2 fun ve1 M1 nx1 acc1 ρ1 e1 C1 a1 a2 a3 a4 a5 => hk ve1 M1 nx1 acc1 ρ1 e1 C1 a1 (hx.trans a2) a3 a4 fun n hn => by
        rw [a5 n fun o ho => hn o (List.mem_cons_of_mem _ ho), get_ext (hn o (List.mem_cons_self ..))]
    have onD : ∀ {p : Den.P} {y : Y}, o.dst = some p.num → TrY T P o y → noInv1 y = true → guardOk arr e o.guard true → doK call ve M nx y (fun v M nx => Tr.setK .no ve p v fun e => regK call zs e M nx acc k) = true → Run W0 P [] arr kont ((o :: l).map fun o => (klass ⟨[], [], []⟩ o, o)) e C := fun {p y} hd hy hy1 hg h =>
      opP hT hc hA hg hy (noInv1_ok hy1) h hρ he hM fun v M' nx' ρ' u C' a1 a2 a3 a4 => by
        rw [Tr.setK_eq] at a1
        exact next a1 a2 (set_on hd (he.ext a2) a4) a3
    have onU : ∀ {y : Y}, o.dst = none → TrY T P o y → noInv1 y = true → guardOk arr e o.guard true → doK call ve M nx y (fun _ M nx => regK call zs ve M nx acc k) = true → Run W0 P [] arr kont ((o :: l).map fun o => (klass ⟨[], [], []⟩ o, o)) e C := fun {y} hd hy hy1 hg h =>
      opP hT hc hA hg hy (noInv1_ok hy1) h hρ he hM fun v M' nx' ρ' u C' a1 a2 a3 a4 => next a1 a2 (set_u hd (he.ext a2)) a3
    have offD : ∀ {p : Den.P} {w : VV}, o.dst = some p.num → (w = .no ∨ isMF (klassOp cfg0 o.op) = false ∧ w = .off) → guardOk arr e o.guard false → (Tr.setK .no ve p w fun e => regK call zs e M nx acc k) = true → Run W0 P [] arr kont ((o :: l).map fun o => (klass ⟨[], [], []⟩ o, o)) e C := fun {p w} hd hw hg h => by
      rw [Tr.setK_eq] at h
      refine offP (ve2 := Tr.set .no ve p w) hg he hM (fun _ u => ?_) (fun hm => ?_) fun g u he2 => next h (Ext.refl ρ) he2 hM
      · rw [hd]
        rcases hw with rfl | ⟨_, rfl⟩
        · exact he.setNo
        · exact he.setOff
      · rw [hd]
        rcases hw with rfl | ⟨hn, _⟩
        · exact he.setNo
        · rw [hn] at hm; cases hm
    have offU : o.dst = none → guardOk arr e o.guard false → regK call zs ve M nx acc k = true → Run W0 P [] arr kont ((o :: l).map fun o => (klass ⟨[], [], []⟩ o, o)) e C := fun hd hg h =>
      offP (ve2 := ve) hg he hM (fun _ u => set_u hd he) (fun _ => set_u hd he) fun g u he2 => next h (Ext.refl ρ) he2 hM
    cases hz with
    | d hg hd hs hy => exact onD hd hy hn1 (guard_none hg) h
    | u hg hd hy => exact onU hd hy hn1 (guard_none hg) h
    | @gd j w q p y hg hj hd hs hy hoff =>
      have h : (Tr.getK .no ve q fun g => g.onG (Tr.setK .no ve p y.off fun e => regK call zs e M nx acc k) fun b => Bool.rec (Tr.setK .no ve p y.off fun e => regK call zs e M nx acc k) (doK call ve M nx y fun v M nx => Tr.setK .no ve p v fun e => regK call zs e M nx acc k) (Bool.rec (notB w) w b)) = true := h
      rw [Tr.getK_eq] at h
      rcases VV.onG_true h with ⟨hq, h⟩ | ⟨b, hq, h⟩
      · exact offD hd hoff (guard_off he hg hj hq) h
      · rw [wantB] at h
        have hgo := guard_on he hg hj hq
        cases hb : (b == w) with
        | true => rw [hb] at h hgo; exact onD hd hy hn1 hgo h
        | false => rw [hb] at h hgo; exact offD hd hoff hgo h
    | @gu j w q y hg hj hd hy =>
      have h : (Tr.getK .no ve q fun g => g.onG (regK call zs ve M nx acc k) fun b => Bool.rec (regK call zs ve M nx acc k) (doK call ve M nx y fun _ M nx => regK call zs ve M nx acc k) (Bool.rec (notB w) w b)) = true := h
      rw [Tr.getK_eq] at h
      rcases VV.onG_true h with ⟨hq, h⟩ | ⟨b, hq, h⟩
      · exact offU hd (guard_off he hg hj hq) h
      · rw [wantB] at h
        have hgo := guard_on he hg hj hq
        cases hb : (b == w) with
        | true => rw [hb] at h hgo; exact onU hd hy hn1 hgo h
        | false => rw [hb] at h hgo; exact offU hd hgo h
    | s _ _ hs => cases hs
    | gs _ _ _ hs => cases hs
    | @c p x x' hg hd hs ho hx =>
      have h : (x'.getK ve fun v => v.onAny (Tr.setK .no ve p v fun e => regK call zs e M nx acc k)) = true := h
      rw [X.getK_eq] at h
      obtain ⟨hok, h⟩ := VV.onAny_true h
      rw [Tr.setK_eq] at h
      refine Run.fact (v := x'.get ve) (M' := M) (nx' := nx) (sb := []) (D := []) (by cases o.dst <;> rfl) (guard_none hg) (fun _ => .pure ?_ fun ρ e he => ?_) he hM (by simp) (by simp) (by simp) (fun _ ρ' u C' hx' hu hM' _ _ => next h hx' (set_on hd (he.ext hx') hu) hM') (fun h => by cases h)
      · rcases ho with ho | ho <;> (rw [ho]; rfl)
      · obtain ⟨u, h5, h6⟩ := hx.look he rfl hok
        obtain ⟨d, op, ty, q, af, g⟩ := o
        rcases ho with ho | ho <;> cases ho
        · exact ⟨u, h6, pure_move h5⟩
        · exact ⟨u, h6, pure_assign h5⟩
end

section
variable {W0 : World} {Q : Program} {T : Tab} {call : Call} {n : Nat} {S : List (P × I)} {A : Rho → Prop}

/-- A plain region whose calls part. -/
theorem StepP.regS (hT : TabOk Q T) (hc : CallP W0 Q A call) (hA : Stays A) (hS : Inj S) {id : Nat} {l : List Oper} {zs : List Z} {ins outs} (hz : ZRs T Q l.toArray [] l zs) (hd : dstOk n l = true) (hi : InsOk S ins) (ho : OutsOk S l outs) (hni : zs.all noInv = true) :
    StepP W0 Q n S call A (.region id l.toArray false) (c_fn (Den.regS zs ins outs)) := fun ve M nx k hk K ρ e C hρ he hM hK => by
  have hk : Den.regS zs ins outs call ve M nx (fun e M nx => k .n e M nx) = true := hk
  obtain ⟨e0, h, hin⟩ := insK_true hi hk
  refine V.region hd ⟨fun _ => ?_⟩
  refine regP_ok hT hc hA hz hni (kont := fun e C => K .normal e C) h hρ (hin ρ e he ERl.lf) hM fun ve1 M1 nx1 acc1 ρ1 e1 C1 h1 hx h2 h3 h4 => ?_
  obtain ⟨ve', h5, hout⟩ := outs_ok hS ho h1
  exact hK .n ve' M1 nx1 ρ1 e1 C1 h5 (hA ρ ρ1 hx hρ) (hout ρ ρ1 e e1 he hx h2 h4) h3
end

/-! ## Functions whose run parts, called -/

section
variable {W0 : World} {Q : Program} {T : Tab} {call : Call} {S : List (P × I)}
theorem extStays (ρ : Rho) : Stays (Ext ρ) := fun ρ1 ρ2 h k => k.trans h

theorem run_ok (hT : TabOk Q T) {f : Nat} {fn : Func} {c : Code} {rs : List ResultVar} {rv : List RV} {ps : List I} {body : Step} (hf : Q.funcs[f]? = some fn) (hb : fn.body = some c) (hr : fn.results = rs.toArray) (hE : EntOk S ps) (hpl : Nat.ble ps.length fn.ntmps = true) (hrl : Nat.ble rs.length 4 = true) (hrv : RVR T S rs rv)
    {B : Rho → Prop} (hB : Stays B) (hbody : ∀ A, Stays A → (∀ ρ, A ρ → B ρ) → StepP W0 Q fn.ntmps S call A c body) {vs : List VV} {M : Mem} {nx : P} {k : Kv} (h : f_mk body rv ps call vs M nx k = true) {ρ : Rho} {C : Eng.Heap} {us : List Value} (hBρ : B ρ) (hu : Rls ρ vs us) (hM : MR W0 ρ M nx C) :
    Does W0 Q f us.toArray C fun u C' => ∃ v M' nx' ρ', k v M' nx' = true ∧ Ext ρ ρ' ∧ MR W0 ρ' M' nx' C' ∧ Rl ρ' v u := by
  obtain ⟨h1, ve, h2, h3⟩ := enterK_true hE h
  have hul : us.length ≤ fn.ntmps := by rw [hu.length]; exact Nat.le_trans h1 (Nat.le_of_ble_eq_true hpl)
  refine Does.enter hf hb hr rfl (Nat.ble_eq_true_of_le hul) hrl (hbody (fun ρ' => B ρ' ∧ Ext ρ ρ') (fun ρ1 ρ2 h k => ⟨hB ρ1 ρ2 h k.1, k.2.trans h⟩) (fun _ h => h.1) ve M nx _ h2 _ ρ _ C ⟨hBρ, Ext.refl ρ⟩ (h3 ρ us hu) hM fun ex ve' M' nx' ρ' e' C' h4 hx he' hM' => ?_)
  have hx := hx.2
  have fin : (resK ve' M' rv fun l => tupK l fun v => k v M' nx') = true → ∃ v us', k v M' nx' = true ∧ Rl ρ' v (tup us') ∧ Res T W0 e' C' rs us' := fun h4 => by
    obtain ⟨ws, h5, h6⟩ := resK_true (W0 := W0) (nx := nx') hT hrv h4
    obtain ⟨v, h7, h8⟩ := tupK_true h5
    obtain ⟨us', h9, h10⟩ := h6 ρ' e' C' he' hM'
    exact ⟨v, us', h7, h8 ρ' us' h9, h10⟩
  cases ex with
  | n =>
    obtain ⟨v, us', h5, h6, h7⟩ := fin h4
    exact retR_end hT h7 (Weak.refl C') ⟨v, M', nx', ρ', h5, hx, hM', h6⟩
  | r =>
    obtain ⟨v, us', h5, h6, h7⟩ := fin h4
    exact retR_ret hT h7 (Weak.refl C') ⟨v, M', nx', ρ', h5, hx, hM', h6⟩
  | x id => cases h4

/-- A table of calls, and one function ahead of it. -/
noncomputable def aheadC (f : P) (F : List VV → Mem → P → Kv → Bool) (c0 : Call) : Call := fun f' vs M nx k => Bool.rec (c0 f' vs M nx k) (F vs M nx k) (f'.eqb f)
theorem aheadC_ok (hT : TabOk Q T) {f : P} {fn : Func} {c : Code} {rs : List ResultVar} {rv : List RV} {ps : List I} {body : Step} (hcb : callable Q f.num = true) (hf : Q.funcs[f.num]? = some fn) (hb : fn.body = some c) (hr : fn.results = rs.toArray) (hE : EntOk S ps) (hpl : Nat.ble ps.length fn.ntmps = true) (hrl : Nat.ble rs.length 4 = true) (hrv : RVR T S rs rv)
    {B : Rho → Prop} (hB : Stays B) (hbody : ∀ A, Stays A → (∀ ρ, A ρ → B ρ) → StepP W0 Q fn.ntmps S call A c body) {c0 : Call} (h0 : ∀ A, (∀ ρ, A ρ → B ρ) → CallP W0 Q A c0) : ∀ A, (∀ ρ, A ρ → B ρ) → CallP W0 Q A (aheadC f (f_mk body rv ps call) c0) := fun A hA f' vs M nx k h ρ C us hρ hu hM => by
  unfold aheadC at h
  cases hb' : f'.eqb f with
  | false => rw [hb'] at h; exact h0 A hA f' vs M nx k h ρ C us hρ hu hM
  | true =>
    rw [hb'] at h
    have := P.eqb_eq.1 hb'
    subst this
    exact .inl ⟨hcb, run_ok hT hf hb hr hE hpl hrl hrv hB hbody h (hA ρ hρ) hu hM⟩
end

def noInvC : C1 → Bool
  | .reg zs _ _ => zs.all noInv
  | _ => false
/-- A plain region, as it is translated, whose calls part. -/
theorem StepP.ofReg {W0 : World} {Q : Program} {T : Tab} {call : Call} {n : Nat} {S : List (P × I)} {A : Rho → Prop} (hT : TabOk Q T) (hc : CallP W0 Q A call) (hA : Stays A) (hS : Inj S) {c : Code} {c1 : C1} (h : CR T Q n S c c1) (hni : noInvC c1 = true) : StepP W0 Q n S call A c (stepC c1.toC2) := by
  cases h with
  | reg hz hd hi ho => exact .regS hT hc hA hS hz hd hi ho hni
  | _ => cases hni
end Den

/-
  Runs that part by how numbers that came in are ordered.
-/
set_option linter.unusedVariables false
namespace Den
open Go Eng

theorem andL {a b : Bool} (h : (a && b) = true) : a = true := by cases a with | true => rfl | false => cases h
theorem andR {a b : Bool} (h : (a && b) = true) : b = true := by cases a with | true => exact h | false => cases h
/-- One of these orders is the true one. -/
def InO (Fs : List (List (P × Nat))) (ρ : Rho) : Prop := ∃ F ∈ Fs, OrdR ρ F
theorem InO.stays (Fs : List (List (P × Nat))) : Stays (InO Fs) := fun ρ ρ' hx ⟨F, hF, h⟩ => ⟨F, hF, h.ext hx⟩

noncomputable def OB.onB (o : OB) (m : Bool) (k : Nat → List VV → List (P × Nat) → Bool) : Bool := OB.rec (motive := fun _ => Bool) m (fun _ _ _ _ => m) (fun _ _ _ => m) (fun _ _ => m) (fun _ _ _ _ _ => m) (fun _ _ _ _ => m) (fun t l F => k t l F) o
theorem OB.onB_true {o : OB} {m : Bool} {k : Nat → List VV → List (P × Nat) → Bool} (h : o.onB m k = true) : m = true ∨ ∃ t l F, o = .bs t l F ∧ k t l F = true := by
  cases o with
  | bs t l F => exact .inr ⟨t, l, F, rfl, h⟩
  | _ => exact .inl h

noncomputable def allK (Fs : List (List (P × Nat))) (k : List (P × Nat) → Bool) : Bool := List.rec (motive := fun _ => Bool) true (fun F _ ih => Bool.rec false ih (k F)) Fs
theorem allK_true {k : List (P × Nat) → Bool} : ∀ {Fs : List (List (P × Nat))}, allK Fs k = true → ∀ F ∈ Fs, k F = true
  | [], _, F, h => by cases h
  | F :: Fs, h, G, hG => by
    have h : (Bool.rec false (allK Fs k) (k F) : Bool) = true := h
    obtain ⟨h1, h2⟩ := brec_true h
    rcases List.mem_cons.1 hG with rfl | hG
    · exact h1
    · exact allK_true h2 G hG

/-- At round t of a loop: which of these orders is the true one? -/
noncomputable def hookO (qi : I) (t : Nat) (b : P) (Fs : List (List (P × Nat))) : RegF := fun call e M nx k => e.getK qi fun vi => vi.onI fun z => Bool.rec (k e M nx)
  (Tr.getK .dead M b fun ob => ob.onB (k e M nx) fun ty l _ => allK Fs fun F => Tr.setK .dead M b (.bs ty l F) fun M => k e M nx) (eqZ z (.ofNat t))
theorem hookO_ok {W0 : World} {A : Rho → Prop} {S : List (P × I)} {qi : I} {t : Nat} {b : P} {Fs : List (List (P × Nat))} (hA : ∀ ρ, A ρ → InO Fs ρ) : Splits W0 S A (hookO qi t b Fs) := fun call ve M nx k h ρ e C hρ he hM => by
  unfold hookO at h
  rw [En.getK_eq] at h
  obtain ⟨z, _, h⟩ := VV.onI_true h
  cases hz : eqZ z (.ofNat t) with
  | false => rw [hz] at h; exact ⟨ve, M, nx, ρ, h, Ext.refl ρ, he, hM⟩
  | true =>
    rw [hz] at h
    have h : (Tr.getK .dead M b fun ob => ob.onB (k ve M nx) fun ty l _ => allK Fs fun F => Tr.setK .dead M b (.bs ty l F) fun M => k ve M nx) = true := h
    rw [getM_eq] at h
    rcases OB.onB_true h with h | ⟨ty, l, F0, hb, h⟩
    · exact ⟨ve, M, nx, ρ, h, Ext.refl ρ, he, hM⟩
    obtain ⟨F, hF, hO⟩ := hA ρ hρ
    have h := allK_true h F hF
    rw [Tr.setK_eq] at h
    refine ⟨ve, _, nx, ρ, h, Ext.refl ρ, he, hM.tel (V := fun ρ => OrdR ρ F) hO fun b' => ?_⟩
    by_cases hbb : b' = b
    · subst hbb; rw [at_set, hb]; exact .bs fun _ h _ => h
    · rw [at_set_ne M _ hbb]; exact .refl

/-! ## Two jobs' due moments -/

noncomputable def VV.symO : VV → Option (P × Int × Int × Int)
  | .sy q lo hi c => some (q, lo, hi, c)
  | .gt q _ lo hi c => some (q, lo, hi, c)
  | _ => none
theorem VV.symO_ok {v : VV} {q : P} {lo hi c : Int} (h : v.symO = some (q, lo, hi, c)) {ρ : Rho} {u : Value} (k : Rl ρ v u) : Rl ρ (.sy q lo hi c) u := by
  cases v <;> try (cases h; done)
  case sy => cases h; exact k
  case gt =>
    cases h
    obtain ⟨r, s, r', s', h1, _, _, h2, h3, h4⟩ := k
    exact ⟨r, s, h1, h2, h3, h4⟩
theorem VV.symO_one {v : VV} {x : P × Int × Int × Int} (h : v.symO = some x) : v.one = true := by cases v <;> first | rfl | cases h

/-- One that is as another one: under its name. -/
noncomputable def subF (q p : P) (i : Nat) (F : List (P × Nat)) : List (P × Nat) := F.map fun x => bif x.1.eqb p && Nat.beq x.2 i then (q, i) else x
theorem OrdR.map {ρ : Rho} {f : P × Nat → P × Nat} (hf : ∀ x r s, ρ x.1 = some (r, s) → (f x).2 = x.2 ∧ ∃ s', ρ (f x).1 = some (r, s')) : ∀ {F : List (P × Nat)}, OrdR ρ F → OrdR ρ (F.map f)
  | [], _ => trivial
  | (q, i) :: l, h => ⟨fun y hy => by
      obtain ⟨x, hx, rfl⟩ := List.mem_map.1 hy
      obtain ⟨r, s, r', s', h1, h2, h3⟩ := h.1 x hx
      obtain ⟨e1, s1, g1⟩ := hf (q, i) r s h1
      obtain ⟨e2, s2, g2⟩ := hf x r' s' h2
      exact ⟨r, s1, r', s2, g1, g2, by rw [e1, e2]; exact h3⟩, OrdR.map hf h.2⟩
theorem OrdR.sub {ρ : Rho} {q p : P} {i : Nat} {F : List (P × Nat)} (h : OrdR ρ F) {r s s' : Nat} (hq : ρ q = some (r, s)) (hp : ρ p = some (r, s')) : OrdR ρ (subF q p i F) := OrdR.map (fun x r2 s2 hx => by
  cases hb : (x.1.eqb p && Nat.beq x.2 i) with
  | false => exact ⟨rfl, s2, hx⟩
  | true =>
    have h1 := P.eqb_eq.1 (andL hb)
    have h2 := Nat.eq_of_beq_eq_true (andR hb)
    rw [h1, hp] at hx
    cases hx
    exact ⟨h2.symm, s, hq⟩) h

/-- Row l, jobs of sz cells: the keys in cells a and a + sz + .. : which rows may it be, better told? -/
noncomputable def tailL (F : List (P × Nat)) (a sz kx : Nat) (l : List VV) : Option (List VV × Option (List VV × List (P × Nat))) :=
  match l[a]?, l[a + kx]?, l[a + sz]?, l[a + sz + kx]? with
  | some (.i (.ofNat ia)), some x, some (.i (.ofNat ib)), some (.sy qb lo' hi' c') => match x.symO with
    | some (qa, lo, hi, c) => bif eqZ c c' && ordB qa ia qb ib F then
        some ((l.set (a + kx) (.sy qa lo hi c)).set (a + sz + kx) (.gt qb qa lo' hi' c'), bif Nat.blt ia ib then some ((l.set (a + kx) (.sy qa lo hi c)).set (a + sz + kx) (.sy qa lo hi c), subF qa qb ib F) else none)
      else none
    | none => none
  | _, _, _, _ => none

theorem Tels.set {V : Rho → Prop} : ∀ {l : List VV} {n : Nat} {v w : VV}, l[n]? = some v → Tel V v w → Tels V l (l.set n w)
  | [], n, v, w, h, k => by simp at h
  | x :: l, 0, v, w, h, k => by
    simp only [List.getElem?_cons_zero, Option.some.injEq] at h
    subst h
    exact .cons k (Tels.refl l)
  | x :: l, n + 1, v, w, h, k => .cons (.inl rfl) (Tels.set (by simpa using h) k)

theorem ordB_ok {ρ : Rho} {q p : P} {i j : Nat} : ∀ {F : List (P × Nat)}, ordB q i p j F = true → OrdR ρ F → ∃ r s r' s', ρ q = some (r, s) ∧ ρ p = some (r', s') ∧ (r < r' ∨ r = r' ∧ i < j)
  | [], h, _ => by cases h
  | (a, n) :: l, h, k => by
    unfold ordB at h
    cases hb : (a.eqb q && Nat.beq n i) with
    | false => rw [hb] at h; exact ordB_ok h k.2
    | true =>
      rw [hb, cond_true, List.any_eq_true] at h
      obtain ⟨x, hx, hxp⟩ := h
      have h1 := P.eqb_eq.1 (andL hb)
      have h2 := Nat.eq_of_beq_eq_true (andR hb)
      have h3 := P.eqb_eq.1 (andL hxp)
      have h4 := Nat.eq_of_beq_eq_true (andR hxp)
      subst h1 h2 h3 h4
      exact k.1 x hx

/-- What is known of two numbers. -/
def Two (q p : P) (lo hi : Int) (t : Bool) (ρ : Rho) : Prop := ∃ r s r' s', ρ q = some (r, s) ∧ ρ p = some (r', s') ∧ lo ≤ (r : Int) ∧ (r : Int) ≤ hi ∧ (if t then r = r' else r < r')

theorem tailL_ok {F : List (P × Nat)} {a sz kx : Nat} {l : List VV} {m : List VV} {m' : Option (List VV × List (P × Nat))} (hsz : 0 < sz) (h : tailL F a sz kx l = some (m, m')) {ρ : Rho} {us : List Value} (hF : OrdR ρ F) (hl : Rls ρ l us) :
    ∃ V : Rho → Prop, V ρ ∧ (Tels V l m ∨ ∃ l' F', m' = some (l', F') ∧ Tels V l l' ∧ ∀ ρ, V ρ → OrdR ρ F → OrdR ρ F') := by
  unfold tailL at h
  split at h <;> try (cases h; done)
  rename_i ia x ib qb lo' hi' c' g1 g2 g3 g4
  split at h <;> try (cases h; done)
  rename_i qa lo hi c hx
  cases hb : (eqZ c c' && ordB qa ia qb ib F) with
  | false => rw [hb] at h; cases h
  | true =>
    rw [hb] at h
    simp only [cond_true, Option.some.injEq, Prod.mk.injEq] at h
    obtain ⟨rfl, rfl⟩ := h
    have hc : c = c' := of_decide_eq_true ((eqZ_eq _ _).symm.trans (andL hb))
    subst hc
    obtain ⟨r, s, r', s', hq, hp, hr⟩ := ordB_ok (andR hb) hF
    obtain ⟨u, hu, hxu⟩ := hl.get g2
    obtain ⟨r2, s2, h2, hlo, hhi, _⟩ := VV.symO_ok hx hxu
    rw [hq] at h2
    cases h2
    have hne : a + kx ≠ a + sz + kx := by omega
    have first : ∀ V : Rho → Prop, Tels V l (l.set (a + kx) (.sy qa lo hi c)) := fun V => .set g2 (.inr ⟨VV.symO_one hx, rfl, fun ρ u _ hu => VV.symO_ok hx hu⟩)
    have g5 : (l.set (a + kx) (.sy qa lo hi c))[a + sz + kx]? = some (.sy qb lo' hi' c) := by rw [List.getElem?_set_ne hne]; exact g4
    by_cases hlt : r < r'
    · refine ⟨Two qa qb lo hi false, ⟨r, s, r', s', hq, hp, hlo, hhi, by simpa using hlt⟩, .inl ((first _).trans (.set g5 (.inr ⟨rfl, rfl, fun ρ u hV hu => ?_⟩)))⟩
      obtain ⟨a1, a2, a3, a4, b1, b2, _, _, b3⟩ := hV
      obtain ⟨d1, d2, d3, d4, d5, d6⟩ := hu
      rw [b2] at d3
      cases d3
      exact ⟨_, _, _, _, b2, b1, by simpa using b3, d4, d5, d6⟩
    · have hij : ia < ib := by omega
      have hrr : r = r' := by omega
      have hbl : Nat.blt ia ib = true := Nat.blt_eq.mpr hij
      refine ⟨Two qa qb lo hi true, ⟨r, s, r', s', hq, hp, hlo, hhi, by simpa using hrr⟩, .inr ⟨_, _, by rw [hbl]; rfl, (first _).trans (.set g5 (.inr ⟨rfl, rfl, fun ρ u hV hu => ?_⟩)), fun ρ hV hF => ?_⟩⟩
      rotate_left
      · obtain ⟨a1, a2, a3, a4, b1, b2, _, _, b3⟩ := hV
        have b3 : a1 = a3 := by simpa using b3
        subst b3
        exact hF.sub b1 b2
      obtain ⟨a1, a2, a3, a4, b1, b2, b4, b5, b3⟩ := hV
      obtain ⟨d1, d2, d3, d4, d5, rfl⟩ := hu
      rw [b2] at d3
      cases d3
      have b3 : a1 = a3 := by simpa using b3
      subst b3
      exact ⟨_, _, b1, b4, b5, rfl⟩

/-- At the head of a loop over jobs: how are the due moments of this one and the last one ordered? qv: a pointer to what is shown, its jobs at off; qi: the round. -/
noncomputable def hookT (qv qi : I) (off : Nat) (bq : P) : RegF := fun call e M nx k => e.getK qi fun vi => vi.onI fun z => natK z fun i => Nat.rec (k e M nx) (fun j _ =>
  e.getK qv fun vv => vv.onP fun b o => Tr.getK .dead M b fun ob => ob.onC fun _ _ l _ => nthK l (Nat.add o off) fun vj => vj.onS false fun bj oj _ _ _ =>
    Tr.getK .dead M bj fun obj => obj.onC fun t s lj ver => Tr.getK .dead M bq fun obq => obq.onB false fun tq lq F =>
      Option.rec (k e M nx) (fun x => Prod.rec (fun m m' => Bool.rec false (Option.rec true (fun y => Tr.setK .dead M bj (.cells t s y.1 ver) fun M => Tr.setK .dead M bq (.bs tq lq y.2) fun M => k e M nx) m') (Tr.setK .dead M bj (.cells t s m ver) fun M => k e M nx)) x) (tailL F (Nat.add oj (Nat.mul 6 j)) 6 2 lj)) i
theorem hookT_ok {W0 : World} {A : Rho → Prop} {S : List (P × I)} {qv qi : I} {off : Nat} {bq : P} : Splits W0 S A (hookT qv qi off bq) := fun call ve M nx k h ρ e C _ he hM => by
  have same : k ve M nx = true → ∃ ve' M' nx' ρ', k ve' M' nx' = true ∧ Ext ρ ρ' ∧ ENR S ρ' ve' e ∧ MR W0 ρ' M' nx' C := fun h => ⟨ve, M, nx, ρ, h, Ext.refl ρ, he, hM⟩
  unfold hookT at h
  rw [En.getK_eq] at h
  obtain ⟨z, _, h⟩ := VV.onI_true h
  obtain ⟨i, _, h⟩ := natK_true (j := z) h
  cases i with
  | zero => exact same h
  | succ j =>
    have h : (ve.getK qv fun vv => vv.onP fun b o => Tr.getK .dead M b fun ob => ob.onC fun _ _ l _ => nthK l (Nat.add o off) fun vj => vj.onS false fun bj oj _ _ _ =>
      Tr.getK .dead M bj fun obj => obj.onC fun t s lj ver => Tr.getK .dead M bq fun obq => obq.onB false fun tq lq F =>
      Option.rec (k ve M nx) (fun x => Prod.rec (fun m m' => Bool.rec false (Option.rec true (fun y => Tr.setK .dead M bj (.cells t s y.1 ver) fun M => Tr.setK .dead M bq (.bs tq lq y.2) fun M => k ve M nx) m') (Tr.setK .dead M bj (.cells t s m ver) fun M => k ve M nx)) x) (tailL F (Nat.add oj (Nat.mul 6 j)) 6 2 lj)) = true := h
    rw [En.getK_eq] at h
    obtain ⟨b, o, _, h⟩ := VV.onP_true h
    rw [getM_eq] at h
    obtain ⟨_, _, l, _, _, h⟩ := OB.onC_true h
    obtain ⟨vj, _, h⟩ := nthK_true h
    rcases VV.onS_true h with ⟨_, h⟩ | ⟨bj, oj, _, _, _, _, h⟩
    · cases h
    rw [getM_eq] at h
    obtain ⟨t, s, lj, ver, hbj, h⟩ := OB.onC_true h
    rw [getM_eq] at h
    rcases OB.onB_true h with h | ⟨t2, l2, F, hbq, h⟩
    · cases h
    cases ht : tailL F (Nat.add oj (Nat.mul 6 j)) 6 2 lj with
    | none => rw [ht] at h; exact same h
    | some x =>
      obtain ⟨m, m'⟩ := x
      rw [ht] at h
      have h : (Bool.rec false (Option.rec true (fun y => Tr.setK .dead M bj (.cells t s y.1 ver) fun M => Tr.setK .dead M bq (.bs t2 l2 y.2) fun M => k ve M nx) m') (Tr.setK .dead M bj (.cells t s m ver) fun M => k ve M nx) : Bool) = true := h
      obtain ⟨h1, h2⟩ := brec_true h
      obtain ⟨_, _, _, _, _, _, _, _, _, hF⟩ := hM.bas bq t2 l2 F hbq
      obtain ⟨rj, cj, ro, _, _, h5⟩ := hM.live bj (by rw [hbj]; trivial)
      rw [hbj] at h5
      obtain ⟨us, rest, _, hl, _⟩ := h5
      obtain ⟨V, hV, hT⟩ := tailL_ok (by omega) ht hF hl
      have fin : ∀ m0, Tels V lj m0 → MR W0 ρ (Tr.set .dead M bj (.cells t s m0 ver)) nx C := fun m0 hT0 => hM.tel (V := V) hV fun b' => by
        by_cases hbb : b' = bj
        · subst hbb; rw [at_set, hbj]; exact .cells hT0
        · rw [at_set_ne M _ hbb]; exact .refl
      rcases hT with hT | ⟨l', F', rfl, hT, hF'⟩
      · rw [Tr.setK_eq] at h1
        exact ⟨ve, _, nx, ρ, h1, Ext.refl ρ, he, fin m hT⟩
      · have h2 : (Tr.setK .dead M bj (.cells t s l' ver) fun M => Tr.setK .dead M bq (.bs t2 l2 F') fun M => k ve M nx) = true := h2
        rw [Tr.setK_eq, Tr.setK_eq] at h2
        refine ⟨ve, _, nx, ρ, h2, Ext.refl ρ, he, (fin l' hT).tel (V := V) hV fun b' => ?_⟩
        by_cases hbb : b' = bq
        · subst hbb
          have hne : b' ≠ bj := fun e => by rw [e, hbj] at hbq; cases hbq
          rw [at_set, at_set_ne M _ hne, hbq]
          exact .bs hF'
        · rw [at_set_ne _ _ hbb]; exact .refl

end Den
