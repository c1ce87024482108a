/- A part of the proofs: what functions of the program do, each by its own contract; printed by a program of mine. No conditions but those that each theorem names. -/
import Derived.Test.YtofcmcgopdhfeaaS21
set_option maxRecDepth 100000
set_option maxHeartbeats 4000000
namespace Eng
open Go
section
variable {W0 : World} {P : Program} {D : Heap} {ops : Array Oper} {k : Env → Heap → Prop}

/-- All the others come ahead of the last one. -/
def lastOk (ops : Array Oper) : Bool := (List.range (ops.size - 1)).all fun x => before ops 12 x (ops.size - 1)

theorem wpAny_done {Q : Exit → Act → World → Prop} {listed : Array Bool} (hr : Region.ready .any ops listed = []) : ∀ (fuel : Nat) (a : Act) (w : World), Q .normal a w → wpAny P .any ops Q fuel listed a w
  | 0, _, _, h => ⟨hr, h⟩
  | _ + 1, _, _, h => ⟨fun _ => h, fun i hi => by rw [hr] at hi; cases hi⟩

theorem Run.anyL {n : Nat} {X : List Blk} {Q : Exit → Act → World → Prop} (hk : ∀ e e' C, Eqv e e' → k e C → k e' C) (hkw : ∀ e C C', k e C' → Weak C C' → k e C) {ol : Oper} (hol : ops[ops.size - 1]? = some ol) (hbl : lastOk ops = true)
    (hq : ∀ e C a w (Z : Act → World → Prop), k e C → Has n a e → Sat W0 w (X :: C) → (∀ a w, Q .normal a w → Z a w) → if Region.wanted ol (yielded ops a.tmps) then ol.wp P a w Z Q ∨ (ol.asks P a w ∧ LetsOut Q) else Z (a.put ol.dst undef) w)
    {lab : List Kind} (hchk : chk n lab ops = true) :
    ∀ (fuel : Nat) (R : List Nat) (listed : Array Bool) (e : Env) (C : Heap) (a : Act) (w : World),
      listed.size = ops.size → (∀ j oj, ops[j]? = some oj → listed.getD j true = true → ∀ e ∈ oj.after, Region.binds .any e = true → listed.getD e.on true = true) →
      (∀ i, i ∈ R ↔ i < ops.size - 1 ∧ listed.getD i true = false) → listed.getD (ops.size - 1) true = false → R.Pairwise (· < ·) → R.length + 1 ≤ fuel →
      Run W0 P D ops k (R.map (opAt lab ops)) e C → Has n a e → Sat W0 w (X :: C) → Weak C D → wpAny P .any ops Q fuel listed a w := by
  intro fuel
  have hls : ops.size - 1 < ops.size := (Array.getElem?_eq_some_iff.1 hol).1
  have hin : ∀ (R : List Nat) (listed : Array Bool), listed.size = ops.size → (∀ i, i ∈ R ↔ i < ops.size - 1 ∧ listed.getD i true = false) → ∀ i, i < ops.size → listed.getD i true = false → (∀ j, j < i → j ∉ R) → i ∈ Region.ready .any ops listed := by
    intro R listed hsz hR i hi hi2 hs
    have hoi : ops[i]? = some ops[i] := Array.getElem?_eq_getElem hi
    refine mem_ready.2 ⟨hi2, ops[i], hoi, fun e he hb => ?_⟩
    have hlt := (chk_spec hchk hoi).2.1 e he hb
    have h2 : ¬ (e.on < ops.size - 1 ∧ listed.getD e.on true = false) := fun h => hs e.on hlt ((hR e.on).2 h)
    have h3 : e.on < listed.size := by omega
    simp only [Array.getD_eq_getD_getElem?, h3, Array.getElem?_eq_getElem, Option.getD_some, not_and, Bool.not_eq_false] at h2 ⊢
    exact h2 (by omega)
  have hall : ∀ (listed : Array Bool), listed.size = ops.size → ∀ i ∈ Region.ready .any ops listed, ∃ oi, ops[i]? = some oi ∧ listed.getD i true = false ∧ ∀ e ∈ oi.after, Region.binds .any e = true → listed.getD e.on true = true := by
    intro listed hsz i hi
    obtain ⟨h0, oi, hoi, hall⟩ := mem_ready.1 hi
    refine ⟨oi, hoi, h0, fun e he hb => ?_⟩
    have h3 := hall e he hb
    have hxs : e.on < listed.size := by
      have := (chk_spec hchk hoi).2.1 e he hb
      have := (Array.getElem?_eq_some_iff.1 hoi).1
      omega
    simp only [Array.getD_eq_getD_getElem?, hxs, Array.getElem?_eq_getElem, Option.getD_some] at h3 ⊢
    exact h3
  induction fuel with
  | zero =>
    intro R listed e C a w hsz hcl hR hl hs hlen h ha hw hD
    omega
  | succ fuel ih =>
    intro R listed e C a w hsz hcl hR hl hs hlen h ha hw hD
    cases R with
    | nil =>
      have hlast := hin [] listed hsz hR _ hls hl (by simp)
      refine ⟨fun hr => (by rw [hr] at hlast; cases hlast), fun i hi => ?_⟩
      obtain ⟨oi, hoi, h0, _⟩ := hall listed hsz i hi
      have hi1 := (Array.getElem?_eq_some_iff.1 hoi).1
      obtain rfl : i = ops.size - 1 := by
        rcases Nat.lt_or_ge i (ops.size - 1) with h1 | h1
        · exact absurd ((hR i).2 ⟨h1, h0⟩) (by simp)
        · omega
      unfold wpOp
      simp only [hol]
      cases h with
      | nil h =>
        refine hq e C a w _ h ha hw fun a' w' hQ => wpAny_done ?_ _ _ _ hQ
        refine List.eq_nil_iff_forall_not_mem.2 fun j hj => ?_
        obtain ⟨oj, hoj, h1, _⟩ := hall _ (by simpa using hsz) j hj
        have hj1 := (Array.getElem?_eq_some_iff.1 hoj).1
        by_cases hji : j = ops.size - 1
        · subst hji
          have hxs : ops.size - 1 < listed.size := by omega
          simp [hxs] at h1
        · rw [getD_set_ne true (Ne.symm hji)] at h1
          exact absurd ((hR j).2 ⟨by omega, h1⟩) (by simp)
    | cons r0 R =>
    refine ⟨?_, ?_⟩
    · intro hr
      obtain ⟨hi1, hi2⟩ := (hR r0).1 (by simp)
      have hm := hin (r0 :: R) listed hsz hR r0 (by omega) hi2 (fun j hj hm => by
        rcases List.mem_cons.1 hm with h1 | h1
        · omega
        · have := (List.pairwise_cons.1 hs).1 _ h1
          omega)
      rw [hr] at hm
      cases hm
    · intro i hi
      obtain ⟨oi, hoi, h0, hall'⟩ := hall listed hsz i hi
      have hisz := (Array.getElem?_eq_some_iff.1 hoi).1
      obtain ⟨hr1, hr2⟩ := (hR r0).1 (by simp)
      have hne : i ≠ ops.size - 1 := by
        rintro rfl
        have hb := List.all_eq_true.1 hbl r0 (List.mem_range.2 hr1)
        have := before_listed (p := fun j => listed.getD j true = true) hcl 12 _ oi hoi hall' hb
        rw [hr2] at this
        cases this
      have hiR : i ∈ r0 :: R := (hR i).2 ⟨by omega, h0⟩
      generalize hRR : r0 :: R = RR at *
      clear hRR
      obtain ⟨S1, S2, rfl⟩ := List.append_of_mem hiR
      have hoat : opAt lab ops i = (lab.getD i .m, oi) := by simp [opAt, hoi]
      have hspec := chk_spec hchk hoi
      have hS1 : ∀ x ∈ S1, x < i := fun x hx => (List.pairwise_append.1 hs).2.2 x hx i (by simp)
      rw [List.map_append, List.map_cons] at h
      have hb := Run.bubble (n := n) hk hkw (i := opAt lab ops i) (S2 := S2.map (opAt lab ops)) (S1.map (opAt lab ops)) e C (by
        intro y hy
        obtain ⟨x, hx, rfl⟩ := List.mem_map.1 hy
        obtain ⟨hx1, hx2⟩ := (hR x).1 (by simp [hx])
        have hx1' : x < ops.size := by omega
        have hox : ops[x]? = some ops[x] := Array.getElem?_eq_getElem hx1'
        have hxat : opAt lab ops x = (lab.getD x .m, ops[x]) := by simp [opAt, hox]
        rw [hxat, hoat]
        refine ⟨(chk_spec hchk hox).1, ?_⟩
        have := hspec.2.2 x ops[x] (hS1 x hx) hox (fun e he hb heq => by
          have h3 := hall' e he hb
          rw [heq, hx2] at h3
          cases h3) (fun hbf => by
          have := before_listed (p := fun j => listed.getD j true = true) hcl 12 i oi hoi hall' hbf
          rw [hx2] at this
          cases this)
        exact this) ⟨a, w, ha, hw.weak (Weak.skip X C)⟩ hD h
      unfold wpOp
      simp only [hoi]
      have hh := hb.head (Q := Q) (K := wpAny P .any ops Q fuel (listed.setIfInBounds i true)) (by rw [hoat]; exact hspec.1) ha hw hD (by
        intro e' C' a' w' hr ha' hw' hD'
        rw [← List.map_append] at hr
        refine ih (S1 ++ S2) _ e' C' a' w' (by simpa using hsz) ?_ ?_ ?_ ?_ ?_ hr ha' hw' hD'
        · have hset : ∀ k, listed.getD k true = true → (listed.setIfInBounds i true).getD k true = true := by
            intro k hk
            by_cases hki : k = i
            · subst hki
              have hxs : k < listed.size := by omega
              simp [hxs]
            · rw [getD_set_ne true (Ne.symm hki)]; exact hk
          intro j oj hoj hj ed he hbb
          by_cases hji : j = i
          · subst hji
            rw [hoi] at hoj
            cases hoj
            exact hset _ (hall' ed he hbb)
          · rw [getD_set_ne true (Ne.symm hji)] at hj
            exact hset _ (hcl j oj hoj hj ed he hbb)
        · intro j
          have hj := hR j
          have hnd : i ∉ S1 ∧ i ∉ S2 := by
            refine ⟨fun h => absurd (hS1 i h) (by omega), fun h => ?_⟩
            have h4 := (List.pairwise_append.1 hs).2.1
            exact absurd ((List.pairwise_cons.1 h4).1 i h) (by omega)
          by_cases hji : j = i
          · subst hji
            have hxs : j < listed.size := by omega
            simp [hnd, hxs]
          · rw [getD_set_ne true (Ne.symm hji), ← hj]
            simp [hji]
        · rw [getD_set_ne true hne]; exact hl
        · have h4 := List.pairwise_append.1 hs
          refine List.pairwise_append.2 ⟨h4.1, (List.pairwise_cons.1 h4.2.1).2, fun x hx y hy => h4.2.2 x hx y (by simp [hy])⟩
        · simp only [List.length_append, List.length_cons] at hlen ⊢
          omega)
      rw [hoat] at hh
      exact hh
end

section
variable {W0 : World} {P : Program} {n : Nat} {K : Kont} {e : Env} {C : Heap}

/-- A region that draws, its last operation after all the others: that one may change what the stable loads read. -/
theorem V.drawL (g : Cfg) {id : Nat} {l : List Oper} {ol : Oper} (hol : l.getLast? = some ol) (hm : P.follows .mixedOrders = true) (hc : chk n (l.map (klass g)) l.toArray = true) (hbl : lastOk l.toArray = true) (hD : Weak C g.D)
    (h : Ops W0 P g l.toArray (fun e C => Ops W0 P cfg0 l.toArray (fun e C => K .normal e C) [ol] e C) l.dropLast e C) : V W0 P n K (.region id l.toArray true) e C :=
  ⟨fun X a w ha hw => by
    refine wp_region_any hm ?_
    have hw' : Sat W0 { w with drawn := w.drawn + 1 } (X :: C) := hw.ext (Ext.drew w)
    have hne : l ≠ [] := by rintro rfl; cases hol
    have hlen : 0 < l.length := List.length_pos_iff.2 hne
    have hgl : l.toArray[l.toArray.size - 1]? = some ol := by
      rw [List.getElem?_toArray, List.size_toArray, ← List.getLast?_eq_getElem?]
      exact hol
    have hold : ∀ t, ol.dst = some t → t < n := (chk_spec hc hgl).1
    have h1 := Run.mono (k' := fun e C => ∃ e' C', Eqv e' e ∧ Weak C C' ∧ Ops W0 P cfg0 l.toArray (fun e C => K .normal e C) [ol] e' C') (fun e C hk => ⟨e, C, Eqv.refl e, Weak.refl C, hk⟩) (h.run hD)
    refine Run.anyL (k := fun e C => ∃ e' C', Eqv e' e ∧ Weak C C' ∧ Ops W0 P cfg0 l.toArray (fun e C => K .normal e C) [ol] e' C') (X := X) (D := g.D) (lab := l.map (klass g)) ?_ ?_ hgl hbl ?_ hc l.toArray.size (List.range (l.toArray.size - 1)) _ e C a _ (by simp) ?_ ?_ ?_ List.pairwise_lt_range (by simp only [List.length_range, List.size_toArray]; omega) ?_ ha hw' hD
    · rintro e e' C he ⟨e0, C0, h0, hC, hk⟩
      exact ⟨e0, C0, h0.trans he, hC, hk⟩
    · rintro e C C' ⟨e0, C0, h0, hC, hk⟩ hW
      exact ⟨e0, C0, h0, hW.trans hC, hk⟩
    · rintro e C a w Z ⟨e0, C0, h0, hC, hk⟩ ha hw hZ
      have hr := hk.run (Weak.all _)
      simp only [List.map_cons, List.map_nil] at hr
      exact hr.head (D := []) hold (ha.eqv h0.symm) (hw.weak (hC.cons X)) (Weak.all _) fun e' C' a' w' hr ha' hw' _ => by
        cases hr with
        | nil hk => exact hZ _ _ ⟨e', C', ha', hw', hk⟩
    · intro j oj hoj hj
      have hlt := (Array.getElem?_eq_some_iff.1 hoj).1
      simp only [List.size_toArray] at hlt
      simp [hlt] at hj
    · intro i
      simp only [List.mem_range, List.size_toArray]
      constructor
      · intro h
        have : i < l.length := by omega
        exact ⟨h, by simp [this]⟩
      · intro h; exact h.1
    · simp only [List.size_toArray]
      have : l.length - 1 < l.length := by omega
      simp [this]
    · have hz : (List.range (l.toArray.size - 1)).map (opAt (l.map (klass g)) l.toArray) = l.dropLast.map fun o => (klass g o, o) := by
        refine List.ext_getElem (by simp) ?_
        intro i h1 h2
        have hi : i < l.length - 1 := by simpa using h1
        have hi' : i < l.length := by omega
        simp [opAt, hi']
      rw [hz]
      exact h1⟩
inductive LastL : List Oper → Oper → List Oper → Prop
  | one {o} : LastL [o] o []
  | cons {a l o l0} : LastL l o l0 → LastL (a :: l) o (a :: l0)
theorem LastL.eq {l l0 : List Oper} {o : Oper} (h : LastL l o l0) : l.getLast? = some o ∧ l.dropLast = l0 := by
  induction h with
  | one => exact ⟨rfl, rfl⟩
  | @cons a l o l0 h ih =>
    cases l with
    | nil => cases h
    | cons b r => exact ⟨by rw [List.getLast?_cons_cons]; exact ih.1, by rw [List.dropLast_cons_cons, ih.2]⟩
theorem A.drwL {T : Tab} (hT : TabOk P T) (cf : Cfg) {id : Nat} {l l0 : List Oper} {ol : Oper} (hm : P.follows .mixedOrders = true) (hl : LastL l ol l0 := by repeat (first | exact LastL.one | apply LastL.cons)) (hc : chk n (l.map (klass cf)) l.toArray = true := by kernel_rfl) (hbl : lastOk l.toArray = true := by kernel_rfl) (hD : Weak C cf.D)
    (h : Eng.pex T l0 e (fun l' e' => Ops W0 P cf l.toArray (fun e C => Eng.pex T [ol] e (fun l' e' => Ops W0 P cfg0 l.toArray (fun e C => K .normal e C) l' e' C)) l' e' C)) : V W0 P n K (.region id l.toArray true) e C := by
  have h1 : Ops W0 P cf l.toArray (fun e C => Eng.pex T [ol] e (fun l' e' => Ops W0 P cfg0 l.toArray (fun e C => K .normal e C) l' e' C)) l.dropLast e C := by
    rw [hl.eq.2]; exact Ops.pex hT h
  refine V.drawL cf hl.eq.1 hm hc hbl hD ⟨fun hd => Run.mono (fun e C hk => ?_) (h1.run hd)⟩
  exact Ops.pex hT hk
end
end Eng
