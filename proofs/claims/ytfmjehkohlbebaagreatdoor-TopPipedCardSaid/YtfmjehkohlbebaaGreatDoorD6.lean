/-
  An interpreter: the translation is sound. No conditions but those that each theorem names.
-/
import Derived.Test.YtfmjehkohlbebaaGreatDoorD5
set_option linter.unusedVariables false
namespace Den
open Go Eng
theorem num_pOfF : ∀ (f n : Nat), n < f → (pOfF f n).num = n
  | 0, n, h => by omega
  | f + 1, n, h => by
    unfold pOfF
    split
    · rename_i h1
      show 4 * (pOfF f ((n - 1) / 4)).num + 1 = n
      rw [num_pOfF f _ (by omega)]; omega
    · rename_i h1
      show 4 * (pOfF f ((n - 2) / 4)).num + 2 = n
      rw [num_pOfF f _ (by omega)]; omega
    · rename_i h1
      show 4 * (pOfF f ((n - 3) / 4)).num + 3 = n
      rw [num_pOfF f _ (by omega)]; omega
    · rename_i h1 h2 h3
      have g1 : n % 4 ≠ 1 := h1
      have g2 : n % 4 ≠ 2 := h2
      have g3 : n % 4 ≠ 3 := h3
      by_cases h0 : n = 0
      · subst h0; rfl
      · rw [beq_ne h0, cond_false]
        show 4 * (pOfF f ((n - 4) / 4)).num + 4 = n
        rw [num_pOfF f _ (by omega)]; omega
theorem num_pOf (n : Nat) : (pOf n).num = n := num_pOfF _ _ (Nat.lt_succ_self n)
theorem bytesOf_L (s : ByteArray) : bytesOf (bytesL s) = s ∧ ∀ x ∈ bytesL s, x < 256 := by
  refine ⟨?_, fun x hx => ?_⟩
  · unfold bytesOf bytesL
    cases s with
    | mk d =>
      congr 1
      rw [List.map_map]
      have : (UInt8.ofNat ∘ UInt8.toNat) = id := by funext u; simp
      rw [this, List.map_id, Array.toArray_toList]
  · obtain ⟨u, _, rfl⟩ := List.mem_map.1 hx
    exact u.toNat_lt
theorem vvC_ok {v : Value} {w : VV} (h : vvC v = some w) : (∀ ρ, Rl ρ w v) ∧ w.one = true := by
  unfold vvC at h
  split at h <;> first
    | (cases h; done)
    | (cases h; exact ⟨fun ρ => rfl, rfl⟩)
    | (cases h; exact ⟨fun ρ => ⟨by rw [(bytesOf_L _).1], (bytesOf_L _).2⟩, rfl⟩)
theorem mapM_vvC : ∀ {l : List Value} {ws : List VV}, l.mapM vvC = some ws → (∀ ρ, Rls ρ ws l) ∧ ws.all VV.one = true
  | [], ws, h => by
    rw [List.mapM_nil] at h
    cases h
    exact ⟨fun ρ => rfl, rfl⟩
  | v :: l, ws, h => by
    rw [List.mapM_cons] at h
    cases hv : vvC v with
    | none => rw [hv] at h; cases h
    | some w =>
      rw [hv] at h
      cases hl : l.mapM vvC with
      | none => simp [hl] at h
      | some r =>
        simp [hl] at h
        subst h
        obtain ⟨h1, h2⟩ := vvC_ok hv
        obtain ⟨h3, h4⟩ := mapM_vvC hl
        exact ⟨fun ρ => ⟨v, l, rfl, h1 ρ, h3 ρ⟩, by simp only [List.all_cons, h2, h4, Bool.and_self]⟩
theorem vvA_ok {v : Value} {w : VV} (h : vvA v = some w) (ρ : Rho) : Rl ρ w v := by
  unfold vvA at h
  split at h
  · rename_i cs
    split at h
    · rename_i l hl
      cases h
      obtain ⟨h1, h2⟩ := mapM_vvC hl
      exact ⟨cs.toList, by simp, h1 ρ, h2⟩
    · cases h
  · exact (vvC_ok h).1 ρ
theorem trX_ok {o : Operand} {x : X} (h : trX o = some x) : XR x o := by
  cases o with
  | tmp t =>
    cases h
    have := XR.t (pOf t)
    rwa [num_pOf] at this
  | const v =>
    obtain ⟨w, h1, rfl⟩ := Option.map_eq_some_iff.1 h
    exact .c (vvA_ok h1)
  | func f =>
    cases h
    have := XR.f (pOf f)
    rwa [num_pOf] at this
  | global _ => cases h
theorem trXs_ok : ∀ {l : List Operand} {xs : List X}, trXs l = some xs → XRs xs l
  | [], xs, h => by
    unfold trXs at h
    rw [List.mapM_nil] at h
    cases h
    exact .nil
  | o :: l, xs, h => by
    unfold trXs at h
    rw [List.mapM_cons] at h
    cases hv : trX o with
    | none => rw [hv] at h; cases h
    | some w =>
      rw [hv] at h
      cases hl : l.mapM trX with
      | none => simp [hl] at h
      | some r =>
        simp [hl] at h
        subst h
        exact .cons (trX_ok hv) (trXs_ok hl)
theorem trXo_ok {o : Option Operand} {x : Option X} (h : trXo o = some x) : XRo x o := by
  cases o with
  | none => cases h; exact .n
  | some o =>
    obtain ⟨w, h1, rfl⟩ := Option.map_eq_some_iff.1 h
    exact .s (trX_ok h1)
theorem zeroV_ok {T : Tab} {t : Nat} {zs : List VV} (h : zeroV T t = some zs) : ∃ us, zeroC T zeroFuel t = some us ∧ (∀ ρ, Rls ρ zs us) ∧ zs.all VV.one = true := by
  unfold zeroV at h
  cases hz : zeroC T zeroFuel t with
  | none => rw [hz] at h; cases h
  | some us =>
    rw [hz] at h
    obtain ⟨h1, h2⟩ := mapM_vvC h
    exact ⟨us, rfl, h1, h2⟩
theorem trParts_ok {place : Nat → Option (Nat × Nat)} {n : Nat} : ∀ {l : List (Nat × Operand)} {ps : List (Nat × Nat × X)}, trParts place n l = some ps → BR place n ps l
  | [], ps, h => by cases h; exact .nil
  | (i, x) :: r, ps, h => by
    unfold trParts at h
    split at h
    · rename_i o sz x' ps' h1 h2 h3
      cases hb : Nat.ble (o + sz) n with
      | false => rw [hb] at h; cases h
      | true =>
        rw [hb] at h
        cases h
        exact .cons h1 (Nat.le_of_ble_eq_true hb) (trX_ok h2) (trParts_ok h3)
    · cases h
theorem trX_nil {o : Operand} (h : trX o = some (.c .nil)) : o = .const (.pointer none) := by
  cases o with
  | const v =>
    obtain ⟨w, h1, h2⟩ := Option.map_eq_some_iff.1 h
    cases h2
    have := vvA_ok h1 (fun _ => none)
    rw [show v = .pointer none from this]
  | tmp t => cases h
  | func f => cases h
  | global _ => cases h
theorem trX_nils {o : Operand} (h : trX o = some (.c .nils)) : o = .const (.slice none 0 0) := by
  cases o with
  | const v =>
    obtain ⟨w, h1, h2⟩ := Option.map_eq_some_iff.1 h
    cases h2
    have := vvA_ok h1 (fun _ => none)
    rw [show v = .slice none 0 0 from this]
  | tmp t => cases h
  | func f => cases h
  | global _ => cases h
theorem trX_nilf {o : Operand} (h : trX o = some (.c .nilf)) : o = .const .nilFunc := by
  cases o with
  | const v =>
    obtain ⟨w, h1, h2⟩ := Option.map_eq_some_iff.1 h
    cases h2
    have := vvA_ok h1 (fun _ => none)
    rw [show v = .nilFunc from this]
  | tmp t => cases h
  | func f => cases h
  | global _ => cases h
theorem trBin_ok {T : Tab} {op : BinOp} {t : Nat} {x y : Operand} {w : Y1} {t' : Nat} (h : trBin T op t x y = some w) (hw : okY1 w = true) : Tr1 T (.binOp op t x y t') w := by
  unfold trBin at h
  split at h
  · rename_i h1 h2 h3
    have hx := trX_ok h2
    have hy := trX_ok h3
    split at h <;> cases h
    · exact .add hx hy
    · exact .sub hx hy
    · exact .mul hx hy
    · exact .quo hx hy
    · exact .rem hx hy
    · exact .eq hx hy
    · exact .ne hx hy
    · exact .lt hx hy
    · exact .le hx hy
    · exact .gt hx hy
    · exact .ge hx hy
    · exact .kop hx hy
  · rename_i h1 h2 h3
    have hx := trX_ok h2
    have hy := trX_ok h3
    split at h <;> cases h <;> first | exact .kcmp hx hy | exact .kop hx hy
  · rename_i h1 h2 h3
    have hx := trX_ok h2
    have hy := trX_ok h3
    split at h <;> cases h
    · exact .beq h1 (.inl ⟨rfl, rfl⟩) hx hy
    · exact .beq h1 (.inr ⟨rfl, rfl⟩) hx hy
  · rename_i h1 h2 h3
    have hx := trX_ok h2
    have hy := trX_ok h3
    split at h <;> cases h
    · exact .seq (.inl ⟨rfl, rfl⟩) hx hy
    · exact .seq (.inr ⟨rfl, rfl⟩) hx hy
    · exact .cat hx hy
  · rename_i h1 h2 h3
    have hx := trX_ok h2
    have hy := trX_ok h3
    cases he : eqAt T 9 t with
    | false => rw [he] at h; cases h
    | true =>
      rw [he, cond_true] at h
      split at h <;> cases h
      · rename_i h4; exact .aeq h1 he h4 (.inl ⟨rfl, rfl⟩) hx hy
      · rename_i h4; exact .aeq h1 he h4 (.inr ⟨rfl, rfl⟩) hx hy
  · rename_i h1 h2 h3
    have hx := trX_ok h2
    rw [trX_nil h3]
    split at h <;> cases h
    · exact .nqP h1 (.inl ⟨rfl, rfl⟩) hx
    · exact .nqP h1 (.inr ⟨rfl, rfl⟩) hx
  · rename_i h1 h2 h3
    have hx := trX_ok h2
    rw [trX_nils h3]
    split at h <;> cases h
    · exact .nqS h1 (.inl ⟨rfl, rfl⟩) hx
    · exact .nqS h1 (.inr ⟨rfl, rfl⟩) hx
  · rename_i h1 h2 h3
    have hx := trX_ok h2
    rw [trX_nilf h3]
    split at h <;> cases h
    · exact .nqF h1 (.inl ⟨rfl, rfl⟩) hx
    · exact .nqF h1 (.inr ⟨rfl, rfl⟩) hx
  · cases h
theorem and_l {a b : Bool} (h : (a && b) = true) : a = true := by cases a <;> simp_all
theorem and_r {a b : Bool} (h : (a && b) = true) : b = true := by cases a <;> simp_all
theorem bifS {α : Type} {b : Bool} {x : Option α} {y : α} (h : (bif b then x else none) = some y) : b = true ∧ x = some y := by
  cases b with
  | true => exact ⟨rfl, h⟩
  | false => cases h
theorem toL {α : Type} {a : Array α} {l : List α} (h : a.toList = l) : a = l.toArray := by rw [← h]
theorem tr1_ok {T : Tab} {op : Op} {w : Y1} (h : tr1 T op = some w) (hw : okY1 w = true) : Tr1 T op w := by
  unfold tr1 at h
  split at h
  · split at h <;> try (cases h; done)
    rename_i h1 h2
    obtain ⟨hk, h⟩ := bifS h
    cases h
    exact .mki h1 hk (trX_ok h2)
  · split at h <;> try (cases h; done)
    rename_i h1 h2
    obtain ⟨hk, h⟩ := bifS h
    cases h
    exact .tas h1 hk (trX_ok h2)
  · obtain ⟨x, h1, rfl⟩ := Option.map_eq_some_iff.1 h; exact .mv (trX_ok h1)
  · obtain ⟨x, h1, rfl⟩ := Option.map_eq_some_iff.1 h; exact .as (trX_ok h1)
  · obtain ⟨x, h1, rfl⟩ := Option.map_eq_some_iff.1 h; exact .nck (trX_ok h1)
  · obtain ⟨x, h1, rfl⟩ := Option.map_eq_some_iff.1 h; exact .ext (trX_ok h1)
  · obtain ⟨x, h1, rfl⟩ := Option.map_eq_some_iff.1 h; exact .not (trX_ok h1)
  · split at h <;> cases h
    rename_i h1 h2 h3; exact .pick (trX_ok h1) (trX_ok h2) (trX_ok h3)
  · exact trBin_ok h hw
  · split at h <;> cases h
    rename_i h1 h2 h3; exact .conv h2 h1 (trX_ok h3)
  · split at h <;> try (cases h; done)
    rename_i h1 h2
    split at h <;> try (cases h; done)
    rename_i h3
    split at h <;> try (cases h; done)
    rename_i i h4
    cases hb : Nat.beq i.size 0 with
    | true => rw [hb] at h; cases h
    | false => rw [hb] at h; cases h; exact .fa h1 h3 h4 hb (trX_ok h2)
  · split at h <;> try (cases h; done)
    · rename_i h1 h2 h3
      obtain ⟨ie, h4, rfl⟩ := Option.map_eq_some_iff.1 h
      exact .ixS h1 h4 (trX_ok h2) (trX_ok h3)
    · rename_i h1 h2 h3
      obtain ⟨ie, h4, rfl⟩ := Option.map_eq_some_iff.1 h
      exact .ixA h1 h4 (trX_ok h2) (trX_ok h3)
  · split at h <;> try (cases h; done)
    rename_i h1 h2
    split at h <;> try (cases h; done)
    rename_i h3
    split at h <;> try (cases h; done)
    rename_i i h4
    cases hb : i.d.known with
    | false => rw [hb] at h; cases h
    | true => rw [hb] at h; cases h; exact .fd h1 h3 h4 (fun e => by rw [e] at hb; cases hb) (trX_ok h2)
  · split at h <;> try (cases h; done)
    · rename_i h1 h2 h3; cases h; exact .six h1 (trX_ok h2) (trX_ok h3)
    · rename_i h1 h2 h3
      split at h <;> try (cases h; done)
      rename_i ie h4
      obtain ⟨hb, h⟩ := bifS h
      cases h
      exact .aix h1 h4 (fun e => by rw [e] at hb; cases hb) (trX_ok h2) (trX_ok h3)
  · split at h <;> try (cases h; done)
    · rename_i l _ _ zs h1 h2
      cases hb : l.all (fun p => (T.find p.2).isSome) with
      | false => rw [hb] at h; cases h
      | true =>
        rw [hb] at h
        obtain ⟨ps, h3, rfl⟩ := Option.map_eq_some_iff.1 h
        obtain ⟨us, h4, h5, h6⟩ := zeroV_ok h2
        exact .bldS h1 h4 h5 h6 hb (trParts_ok h3)
    · rename_i h1 h2
      split at h <;> try (cases h; done)
      rename_i h7
      obtain ⟨ps, h3, rfl⟩ := Option.map_eq_some_iff.1 h
      obtain ⟨us, h4, h5, h6⟩ := zeroV_ok h2
      exact .bldA h1 h7 h4 h5 h6 (trParts_ok h3)
  · split at h <;> try (cases h; done)
    · rename_i h1 h2
      split at h <;> try (cases h; done)
      rename_i h3
      split at h <;> try (cases h; done)
      · obtain ⟨y, h4, rfl⟩ := Option.map_eq_some_iff.1 h; exact .slH h1 h3 (trX_ok h2) (trX_ok h4)
      · obtain ⟨y, h4, rfl⟩ := Option.map_eq_some_iff.1 h; exact .slL h1 h3 (trX_ok h2) (trX_ok h4)
      · split at h <;> cases h
        rename_i h4 h5; exact .slLH h1 h3 (trX_ok h2) (trX_ok h4) (trX_ok h5)
      · split at h <;> cases h
        rename_i h4 h5 h6; exact .sl3 h1 h3 (trX_ok h2) (trX_ok h4) (trX_ok h5) (trX_ok h6)
      · split at h <;> cases h
        rename_i h4 h5; exact .sl3n h1 h3 (trX_ok h2) (trX_ok h4) (trX_ok h5)
    · rename_i h1 h2
      split at h <;> try (cases h; done)
      rename_i h3
      split at h <;> try (cases h; done)
      · obtain ⟨y, h4, rfl⟩ := Option.map_eq_some_iff.1 h; exact .saL h1 h3 (trX_ok h2) (trX_ok h4)
      · split at h <;> cases h
        rename_i h4 h5; exact .saLH h1 h3 (trX_ok h2) (trX_ok h4) (trX_ok h5)
      · cases h; exact .saA h1 h3 (trX_ok h2)
    · rename_i h1 h2
      split at h <;> cases h
      rename_i h3 h4; exact .ssl h1 (trX_ok h2) (trXo_ok h3) (trXo_ok h4)
  · split at h <;> cases h
    rename_i f l1 l2 _ _ xs ys h1 h2
    have := Tr1.mkf (T := T) (q := pOf f) (trXs_ok h1) (trXs_ok h2)
    rw [num_pOf] at this
    exact this
  · rename_i l ts
    split at h <;> try (cases h; done)
    rename_i x t h1 h2
    rw [toL h1, toL h2]
    split at h <;> try (cases h; done)
    · rename_i h3 h4; cases h; exact .lenS h3 (trX_ok h4)
    · rename_i h3 h4; cases h; exact .lenT h3 (trX_ok h4)
    · rename_i h3; cases h; exact .lenC h3
  · split at h <;> try (cases h; done)
    rename_i h1
    rw [toL h1]
    split at h <;> cases h
    rename_i h2 h3
    exact .max (trX_ok h2) (trX_ok h3)
  · split at h <;> try (cases h; done)
    rename_i h1
    rw [toL h1]
    split at h <;> cases h
    rename_i h2 h3
    exact .min (trX_ok h2) (trX_ok h3)
  · cases h
theorem flat_ok {ρ : Rho} {zs : List VV} {us : List Value} (h : Rls ρ zs us) : ∀ n, Rls ρ (List.replicate n zs).flatten (baseL n us)
  | 0 => rfl
  | n + 1 => by
    rw [List.replicate_succ, List.flatten_cons]
    exact Rls.append h (flat_ok h n)
theorem flat_one {zs : List VV} (h : zs.all VV.one = true) : ∀ n, (List.replicate n zs).flatten.all VV.one = true
  | 0 => rfl
  | n + 1 => by rw [List.replicate_succ, List.flatten_cons, List.all_append, h, flat_one h n]; rfl
theorem flat_len {zs : List VV} : ∀ n, (List.replicate n zs).flatten.length = n * zs.length
  | 0 => by simp
  | n + 1 => by rw [List.replicate_succ, List.flatten_cons, List.length_append, flat_len n, Nat.succ_mul, Nat.add_comm]
theorem trPeq_ok {T : Tab} {Q : Program} (hzo : zerosOk Q T = true) {op : BinOp} {t t' : Nat} {x y : Operand} {w : Y} (h : trPeq T op t x y = some w) {d ty q af g} : TrY T Q ⟨d, .binOp op t x y t', ty, q, af, g⟩ w := by
  unfold trPeq at h
  split at h <;> try (cases h; done)
  rename_i x y
  have e1 := num_pOf x
  have e2 := num_pOf y
  split at h <;> try (cases h; done)
  · rename_i n el s b h1
    have hg := Tab.find_all hzo h1
    have key : ∀ {sz b1 nn}, T.find el = some ⟨.int .i64, sz, b1⟩ → (Nat.beq n 2 && Nat.beq sz 1) = true → (nn = false ∧ op = .eql ∨ nn = true ∧ op = .neq) → TrY T Q ⟨d, .binOp op t (.tmp x) (.tmp y) t', ty, q, af, g⟩ (.req nn (.t (pOf x)) (.t (pOf y))) := fun {sz b1 nn} h2 hb ho => by
      have n2 := Nat.eq_of_beq_eq_true (and_l hb)
      have s1 := Nat.eq_of_beq_eq_true (and_r hb)
      subst n2 s1
      have hg : (!Nat.beq 2 2 || !Q.eqGuardType Q.depth t) = true := hg
      have := TrY.req (T := T) (P := Q) (d := d) (q := q) (af := af) (g := g) (ty := ty) (t' := t') (x := pOf x) (y := pOf y) h1 h2 (by simpa using hg) ho
      rwa [e1, e2] at this
    split at h <;> try (cases h; done)
    · rename_i sz b1 h2
      cases hb : (Nat.beq n 2 && Nat.beq sz 1) with
      | false => rw [hb] at h; cases h
      | true => rw [hb] at h; cases h; exact key h2 hb (.inl ⟨rfl, rfl⟩)
    · rename_i sz b1 h2
      cases hb : (Nat.beq n 2 && Nat.beq sz 1) with
      | false => rw [hb] at h; cases h
      | true => rw [hb] at h; cases h; exact key h2 hb (.inr ⟨rfl, rfl⟩)
  rename_i el s b h1
  split at h <;> try (cases h; done)
  · rename_i ie h2
    cases hb : Nat.beq ie.size 0 with
    | true => rw [hb] at h; cases h
    | false =>
      rw [hb] at h
      cases h
      have := TrY.peq (T := T) (P := Q) (d := d) (q := q) (af := af) (g := g) (ty := ty) (t' := t') (x := pOf x) (y := pOf y) h1 h2 hb (.inl ⟨rfl, rfl⟩)
      rwa [e1, e2] at this
  · rename_i ie h2
    cases hb : Nat.beq ie.size 0 with
    | true => rw [hb] at h; cases h
    | false =>
      rw [hb] at h
      cases h
      have := TrY.peq (T := T) (P := Q) (d := d) (q := q) (af := af) (g := g) (ty := ty) (t' := t') (x := pOf x) (y := pOf y) h1 h2 hb (.inr ⟨rfl, rfl⟩)
      rwa [e1, e2] at this
def MtOk (Q : Program) (T : Tab) (mt : Mt) : Prop := ∀ q ∈ mt, MeOk Q T q.1 (q.2.1, pOf q.2.2.1, q.2.2.2)
def meB (Q : Program) (T : Tab) (q : String × Nat × Nat × Bool) : Bool := match Q.info? q.2.1 with
  | some ti => match ti.methods.find? (·.name == q.1) with
    | some m => match m.path.toList, m.func, T.find q.2.1 with
      | [], some (f, pr), some ⟨.ptr el, _, _⟩ => Nat.beq f q.2.2.1 && (pr == !q.2.2.2) && (!q.2.2.2 || (match T.find el with | some i => i.d.known && !i.d.agg | none => false))
      | _, _, _ => false
    | none => false
  | none => false
theorem MtOk.of {Q : Program} {T : Tab} {mt : Mt} (h : mt.all (meB Q T) = true) : MtOk Q T mt := fun q hq => by
  have h := List.all_eq_true.1 h q hq
  unfold meB at h
  split at h <;> try (cases h; done)
  rename_i ti h1
  split at h <;> try (cases h; done)
  rename_i m h2
  split at h <;> try (cases h; done)
  rename_i f pr el s b h3 h4 h5
  have a1 := Nat.eq_of_beq_eq_true (and_l (and_l h))
  have a2 := eq_of_beq (and_r (and_l h))
  have a3 := and_r h
  refine ⟨ti, m, el, s, b, h1, h2, by simpa using h3, ?_, h5, fun hld => ?_⟩
  · rw [h4, a1, a2, num_pOf]
  · have hld : q.2.2.2 = true := hld
    rw [hld] at a3
    simp only [Bool.not_true, Bool.false_or] at a3
    split at a3
    · rename_i i hi; exact ⟨i, hi, and_l a3, by simpa using and_r a3⟩
    · cases a3
theorem mtSel_ok {Q : Program} {T : Tab} {mt : Mt} (h : MtOk Q T mt) (name : String) : ∀ q ∈ mtSel mt name, MeOk Q T name q := fun q hq => by
  unfold mtSel at hq
  obtain ⟨r, hr, he⟩ := List.mem_filterMap.1 hq
  cases hb : r.1 == name with
  | false => rw [hb] at he; cases he
  | true =>
    rw [hb] at he
    cases he
    have := h r hr
    rwa [eq_of_beq hb] at this
theorem trY_ok {T : Tab} {Q : Program} (hT : TabOk Q T) (hzo : zerosOk Q T = true) {mt : Mt} (hmt : MtOk Q T mt) {op : Op} {y : Y} (h : trY T mt op = some y) (hw : okY y = true) {d ty q af g} (hd : (match y with | .st .. | .mup .. => d.isNone | _ => true) = true) : TrY T Q ⟨d, op, ty, q, af, g⟩ y := by
  unfold trY at h
  split at h
  · rename_i x name l ts
    obtain ⟨xs, h1, rfl⟩ := Option.map_eq_some_iff.1 h
    have hx := XR.t (pOf x)
    rw [num_pOf] at hx
    exact .inv (mtSel_ok hmt name) hx (trXs_ok h1)
  · split at h
    · rename_i w h1
      cases h
      unfold trCvs at h1
      split at h1 <;> try (cases h1; done)
      · rename_i h2 h3 h4
        split at h1 <;> cases h1
        rename_i h5
        exact .cvb h2 h3 h5 (trX_ok h4)
      · rename_i h2 h3 h4
        split at h1 <;> cases h1
        rename_i h5
        exact .cvs h2 h3 h5 (trX_ok h4)
    · obtain ⟨w, h1, rfl⟩ := Option.map_eq_some_iff.1 h
      exact .p (tr1_ok h1 hw)
  · split at h
    · rename_i w h1
      cases h
      exact .p (trBin_ok h1 hw)
    · exact trPeq_ok hzo h
  · split at h <;> try (cases h; done)
    rename_i h1 h2
    obtain ⟨hk, h⟩ := bifS h
    cases h
    exact .ld h1 hk (trX_ok h2)
  · split at h <;> cases h
    rename_i h1 h2 h3
    cases d with
    | none => exact .st h1 (trX_ok h2) (trX_ok h3)
    | some d => cases hd
  · obtain ⟨zs, h1, rfl⟩ := Option.map_eq_some_iff.1 h
    obtain ⟨us, h4, h5, h6⟩ := zeroV_ok h1
    exact .al h4 h5 h6
  · obtain ⟨x, h1, rfl⟩ := Option.map_eq_some_iff.1 h
    exact .bx (trX_ok h1)
  · split at h <;> try (cases h; done)
    rename_i h1
    split at h <;> try (cases h; done)
    rename_i h2 h3
    obtain ⟨hb, h⟩ := bifS h
    obtain ⟨ps, h4, rfl⟩ := Option.map_eq_some_iff.1 h
    obtain ⟨us, h5, h6, h7⟩ := zeroV_ok h3
    have hl := Nat.eq_of_beq_eq_true (and_l hb)
    have hf := fun n => (flat_len (zs := ‹List VV›) n).trans (by rw [hl])
    exact .bsl h1 h2 h5 (by rw [(h6 (fun _ => none)).length]; exact and_l hb) (fun ρ => flat_ok (h6 ρ) _) (flat_one h7 _) (hf _) (by rw [hf]; exact trParts_ok h4) (and_l (and_r hb)) (and_r (and_r hb))
  · split at h <;> try (cases h; done)
    rename_i h1 hx hy
    split at h <;> try (cases h; done)
    rename_i h2 h3
    obtain ⟨hb, h⟩ := bifS h
    cases h
    obtain ⟨us, h5, h6, h7⟩ := zeroV_ok h3
    exact .mks h1 h2 h5 (by rw [(h6 (fun _ => none)).length]; exact and_l hb) h6 h7 (and_r hb) (trX_ok hx) (trX_ok hy)
  · cases h; exact .mkm
  · split at h <;> try (cases h; done)
    rename_i h1 hx hy
    split at h <;> try (cases h; done)
    rename_i ie zs hk he hz
    obtain ⟨us, h5, h6, h7⟩ := zeroV_ok hz
    obtain ⟨z, hz1, _, hz2, hz3⟩ := zero_run (P := Q) hT h5
    have hag := Tab.find_all hzo h1
    simp only [he, beq_iff_eq] at hag
    cases hg : ie.d.agg with
    | true =>
      rw [hg] at h hag
      cases h
      rw [hz2 hag] at hz1
      exact .lku h1 hk hz1 (fun ρ => ⟨us, rfl, h6 ρ, h7⟩) (trX_ok hx) (trX_ok hy)
    | false =>
      rw [hg] at h hag
      rw [cond_false] at h
      split at h <;> cases h
      refine .lku h1 hk hz1 (fun ρ => ?_) (trX_ok hx) (trX_ok hy)
      obtain ⟨u, r, h8, h9, h10⟩ := h6 ρ
      cases h10
      rw [hz3 hag u h8]
      exact h9
  · split at h <;> try (cases h; done)
    rename_i h1 hx hy hz
    split at h <;> cases h
    rename_i h2
    cases d with
    | none => exact .mup h1 h2 (trX_ok hx) (trX_ok hy) (trX_ok hz)
    | some d => cases hd
  · split at h <;> try (cases h; done)
    rename_i h1 hx hy hz
    split at h <;> cases h
    rename_i h2
    cases d with
    | none => exact .ins h1 h2 (trX_ok hx) (trX_ok hy) (trX_ok hz)
    | some d => cases hd
  · split at h <;> try (cases h; done)
    rename_i x y t u h1 h2
    rw [toL h1, toL h2]
    split at h <;> try (cases h; done)
    rename_i h3 hx hy
    split at h <;> try (cases h; done)
    rename_i h4
    split at h <;> try (cases h; done)
    rename_i h5
    obtain ⟨hb, h⟩ := bifS h
    cases h
    have := Nat.eq_of_beq_eq_true (and_l hb)
    subst this
    exact .app h3 h4 h5 (and_l (and_r hb)) (and_l (and_r (and_r hb))) (and_r (and_r (and_r hb))) (trX_ok hx) (trX_ok hy)
  · split at h <;> try (cases h; done)
    rename_i x y t u h1 h2
    rw [toL h1, toL h2]
    split at h <;> try (cases h; done)
    rename_i h3 hx hy
    split at h <;> try (cases h; done)
    rename_i h4
    obtain ⟨hb, h⟩ := bifS h
    cases h
    have := Nat.eq_of_beq_eq_true hb
    subst this
    exact .cpy h3 h4 (trX_ok hx) (trX_ok hy)
  · split at h <;> try (cases h; done)
    rename_i x y t u h1 h2
    rw [toL h1, toL h2]
    split at h <;> try (cases h; done)
    rename_i h3 hx hy
    split at h <;> cases h
    rename_i h4
    exact .mdl h3 h4 (trX_ok hx) (trX_ok hy)
  · rename_i f l ts
    obtain ⟨xs, h1, rfl⟩ := Option.map_eq_some_iff.1 h
    have := TrY.call (T := T) (P := Q) (d := d) (ty := ty) (q := q) (af := af) (g := g) (ts := ts) (f := pOf f) (trXs_ok h1)
    rw [num_pOf] at this
    exact this
  · rename_i x l ts
    obtain ⟨xs, h1, rfl⟩ := Option.map_eq_some_iff.1 h
    have hx := XR.t (pOf x)
    rw [num_pOf] at hx
    exact .cv hx (trXs_ok h1)
  · obtain ⟨w, h1, rfl⟩ := Option.map_eq_some_iff.1 h
    exact .p (tr1_ok h1 hw)
theorem insOf_ok (S : List (P × I)) (l : List Z) : InsOk S (insOf S l) := fun q hq => by
  unfold insOf at hq
  obtain ⟨p, _, hp⟩ := List.mem_filterMap.1 hq
  obtain ⟨i, h1, h2⟩ := Option.map_eq_some_iff.1 hp
  subst h2
  exact h1
theorem outsOf_place (S : List (P × I)) (l : List Z) : ∀ q ∈ outsOf S l, placeIn S q.2 = some q.1 := fun q hq => by
  unfold outsOf at hq
  obtain ⟨p, _, hp⟩ := List.mem_filterMap.1 hq
  obtain ⟨i, h1, h2⟩ := Option.map_eq_some_iff.1 hp
  subst h2
  exact h1
theorem eqc_eq : ∀ {p q : P}, p.eqc q = true → p = q
  | .z, .z, _ => rfl
  | .a p, .a q, h => by rw [eqc_eq (p := p) (q := q) h]
  | .b p, .b q, h => by rw [eqc_eq (p := p) (q := q) h]
  | .c p, .c q, h => by rw [eqc_eq (p := p) (q := q) h]
  | .d p, .d q, h => by rw [eqc_eq (p := p) (q := q) h]
theorem mem_addP (l : List P) (p : P) : p ∈ addP l p ∧ ∀ q ∈ l, q ∈ addP l p := by
  unfold addP
  cases h : hasP l p with
  | true =>
    obtain ⟨q, hq, he⟩ := List.any_eq_true.1 h
    have := eqc_eq he
    subst this
    exact ⟨hq, fun q h => h⟩
  | false => exact ⟨List.mem_cons_self .., fun q h => List.mem_cons_of_mem _ h⟩
theorem mem_foldP : ∀ (w l : List P), (∀ q ∈ l, q ∈ w.foldl addP l) ∧ ∀ q ∈ w, q ∈ w.foldl addP l
  | [], l => ⟨fun q h => h, fun q h => by cases h⟩
  | p :: w, l => by
    obtain ⟨h1, h2⟩ := mem_foldP w (addP l p)
    obtain ⟨h3, h4⟩ := mem_addP l p
    refine ⟨fun q hq => h1 q (h4 q hq), fun q hq => ?_⟩
    rcases List.mem_cons.1 hq with rfl | hq
    · exact h1 _ h3
    · exact h2 q hq
theorem scan_wr : ∀ (l : List Z) (i a c : List P), (∀ q ∈ a, q ∈ (scan l i a c).2.1) ∧ ∀ z ∈ l, ∀ q ∈ (rdZ z).2.1, q ∈ (scan l i a c).2.1
  | [], i, a, c => ⟨fun q h => List.mem_reverse.2 h, fun z h => by cases h⟩
  | z :: r, i, a, c => by
    obtain ⟨h1, h2⟩ := mem_foldP (rdZ z).2.1 a
    have ih := scan_wr r ((rdZ z).1.foldl (fun i p => bif hasP a p then i else addP i p) i) ((rdZ z).2.1.foldl addP a) ((rdZ z).2.2.foldl (fun c p => bif hasP a p then c else addP c p) c)
    refine ⟨fun q hq => ih.1 q (h1 q hq), fun z' hz q hq => ?_⟩
    rcases List.mem_cons.1 hz with rfl | hz
    · exact ih.1 q (h2 q hq)
    · exact ih.2 z' hz q hq
theorem outsOf_has (S : List (P × I)) (l : List Z) {z : Z} (hz : z ∈ l) {p : P} (hp : p ∈ (rdZ z).2.1) {i : I} (hi : placeIn S p = some i) : (i, p) ∈ outsOf S l := by
  unfold outsOf
  exact List.mem_filterMap.2 ⟨p, (scan_wr l [] [] []).2 z hz p hp, by rw [hi]; rfl⟩
theorem ZR.writes {T : Tab} {Q : Program} {arr : Array Oper} {sb : List Nat} {o : Oper} {z : Z} (h : ZR T Q arr sb o z) {p : P} (hp : o.dst = some p.num) : p ∈ (rdZ z).2.1 := by
  have inj : ∀ {q : P}, o.dst = some q.num → p = q := fun hq => P.num_inj (Option.some.inj (hp.symm.trans hq))
  cases h with
  | d _ hd => rw [inj hd]; exact List.mem_singleton.2 rfl
  | u _ hd => rw [hd] at hp; cases hp
  | gd _ _ hd => rw [inj hd]; exact List.mem_singleton.2 rfl
  | gu _ _ hd => rw [hd] at hp; cases hp
  | s _ hd => rw [inj hd]; exact List.mem_singleton.2 rfl
  | gs _ _ hd => rw [inj hd]; exact List.mem_singleton.2 rfl
  | c _ hd => rw [inj hd]; exact List.mem_singleton.2 rfl
theorem ZRs.mem {T : Tab} {Q : Program} {arr : Array Oper} {sb : List Nat} : ∀ {l : List Oper} {zs : List Z}, ZRs T Q arr sb l zs → ∀ o ∈ l, ∃ z ∈ zs, ZR T Q arr sb o z
  | _, _, .nil, o, ho => by cases ho
  | _, _, .cons hz hzs, o, ho => by
    rcases List.mem_cons.1 ho with rfl | ho
    · exact ⟨_, List.mem_cons_self .., hz⟩
    · obtain ⟨z, h1, h2⟩ := hzs.mem o ho; exact ⟨z, List.mem_cons_of_mem _ h1, h2⟩
theorem outsOf_ok {T : Tab} {Q : Program} {arr : Array Oper} {sb : List Nat} {S : List (P × I)} {l : List Oper} {zs : List Z} (h : ZRs T Q arr sb l zs) : OutsOk S l (outsOf S zs) :=
  ⟨outsOf_place S zs, fun o ho p i hd hi => by obtain ⟨z, h1, h2⟩ := h.mem o ho; exact outsOf_has S zs h1 (h2.writes hd) hi⟩
end Den
set_option linter.unusedVariables false
namespace Den
open Go Eng
section
variable {T : Tab} {Q : Program}
theorem off_eq (y : Y) : y.off = bif offB y then .off else .no := by cases y <;> rfl
theorem trYB_ok (hT : TabOk Q T) (hzo : zerosOk Q T = true) {mt : Mt} (hmt : MtOk Q T mt) {op : Op} {d ty q af g} (hd : dstB (trYB T mt op) = true ∨ d = none) : TrY T Q ⟨d, op, ty, q, af, g⟩ (trYB T mt op) := by
  unfold trYB at hd ⊢
  split
  · rename_i y hy
    simp only [hy] at hd
    cases hw : okY y with
    | false => exact .bad
    | true =>
      rw [hw] at hd
      refine trY_ok hT hzo hmt hy hw ?_
      rcases hd with hd | rfl
      · cases y <;> first | rfl | cases hd
      · cases y <;> rfl
  · exact .bad
theorem trYB_ld (hT : TabOk Q T) (hzo : zerosOk Q T = true) {mt : Mt} (hmt : MtOk Q T mt) {op : Op} {x : X} {sz : Nat} {agg : Bool} (h : trYB T mt op = .ld x sz agg) : ∃ t x0 i, op = .load t x0 ∧ T.find t = some i ∧ i.d.known = true ∧ XR x x0 ∧ sz = i.size ∧ agg = i.d.agg := by
  have := trYB_ok (T := T) (op := op) hT hzo hmt (d := none) (ty := 0) (q := "") (af := #[]) (g := none) (.inr rfl)
  rw [h] at this
  cases this with
  | ld h1 h2 h3 => exact ⟨_, _, _, rfl, h1, h2, h3, rfl, rfl⟩
theorem copyOf_ok {bad : List Nat} {op : Op} {x : X} (h : copyOf bad op = some x) : ∃ x0, (op = .move x0 ∨ op = .assign x0) ∧ XR x x0 := by
  unfold copyOf at h
  split at h <;> try (cases h; done)
  · rename_i o
    split at h
    · rename_i t _
      cases hb : bad.any (Nat.beq t) with
      | true => rw [hb] at h; cases h
      | false => rw [hb] at h; exact ⟨o, .inl rfl, trX_ok h⟩
    · exact ⟨o, .inl rfl, trX_ok h⟩
  · rename_i o
    split at h
    · rename_i t _
      cases hb : bad.any (Nat.beq t) with
      | true => rw [hb] at h; cases h
      | false => rw [hb] at h; exact ⟨o, .inr rfl, trX_ok h⟩
    · exact ⟨o, .inr rfl, trX_ok h⟩
theorem zS_ok {d : Nat} {y : Y} {z : Z} (h : zS d y = some z) : ∃ x sz agg, y = .ld x sz agg ∧ z = .s (pOf d) x sz agg := by
  cases y with
  | ld x sz agg => cases h; exact ⟨x, sz, agg, rfl, rfl⟩
  | _ => cases h
theorem zGS_ok {t d : Nat} {w : Bool} {y : Y} {z : Z} (h : zGS t w d y = some z) : ∃ x sz agg, y = .ld x sz agg ∧ z = .gs (pOf t) w (pOf d) x sz agg := by
  cases y with
  | ld x sz agg => cases h; exact ⟨x, sz, agg, rfl, rfl⟩
  | _ => cases h
theorem trZ_ok (hT : TabOk Q T) (hzo : zerosOk Q T = true) {mt : Mt} (hmt : MtOk Q T mt) {ops : Array Oper} {sb bad : List Nat} {o : Oper} {z : Z} (h : trZ T mt ops sb bad o = some z) : ZR T Q ops sb o z := by
  obtain ⟨dst, op, ty, q, af, g⟩ := o
  unfold trZ at h
  split at h
  · rename_i d hg hd
    cases hg; cases hd
    cases hs : sb.any (Nat.beq d) with
    | true =>
      rw [hs, cond_true] at h
      obtain ⟨x, sz, agg, h1, rfl⟩ := zS_ok h
      obtain ⟨t, x0, i, ho, h2, h3, h4, rfl, rfl⟩ := trYB_ld hT hzo hmt h1
      exact .s rfl (by rw [num_pOf]) (by rw [num_pOf]; exact hs) ho h2 h3 h4
    | false =>
      rw [hs, cond_false] at h
      split at h
      · rename_i x hx
        cases h
        obtain ⟨x0, h1, h2⟩ := copyOf_ok hx
        exact .c rfl (by rw [num_pOf]) (by rw [num_pOf]; exact hs) h1 h2
      · obtain ⟨hb, h⟩ := bifS h
        cases h
        exact .d rfl (by rw [num_pOf]) (by rw [num_pOf]; exact hs) (trYB_ok hT hzo hmt (.inl hb))
  · rename_i hg hd
    cases hg; cases hd; cases h
    exact .u rfl rfl (trYB_ok hT hzo hmt (.inr rfl))
  · rename_i j w d hg hd
    cases hg; cases hd
    split at h
    · rename_i t hj
      have hj' : gslot ops j = some (pOf t).num := by rw [num_pOf]; exact hj
      cases hs : sb.any (Nat.beq d) with
      | true =>
        rw [hs, cond_true] at h
        obtain ⟨x, sz, agg, h1, rfl⟩ := zGS_ok h
        obtain ⟨t, x0, i, ho, h2, h3, h4, rfl, rfl⟩ := trYB_ld hT hzo hmt h1
        exact .gs rfl hj' (by rw [num_pOf]) (by rw [num_pOf]; exact hs) ho h2 h3 h4
      | false =>
        rw [hs, cond_false] at h
        obtain ⟨hb, h⟩ := bifS h
        cases h
        refine .gd rfl hj' (by rw [num_pOf]) (by rw [num_pOf]; exact hs) (trYB_ok hT hzo hmt (.inl (and_l hb))) ?_
        have hb := and_r hb
        rw [off_eq]
        cases ho : offB (trYB T mt op) with
        | false => exact .inl rfl
        | true =>
          simp only at hb
          rw [ho] at hb
          cases hm : isMF (klassOp cfg0 op) with
          | false => exact .inr ⟨rfl, rfl⟩
          | true => rw [hm] at hb; cases hb
    · cases h
  · rename_i j w hg hd
    cases hg; cases hd
    split at h
    · rename_i t hj
      cases h
      exact .gu rfl (by rw [num_pOf]; exact hj) rfl (trYB_ok hT hzo hmt (.inr rfl))
    · cases h
theorem trZs_ok (hT : TabOk Q T) (hzo : zerosOk Q T = true) {mt : Mt} (hmt : MtOk Q T mt) {ops : Array Oper} {sb : List Nat} : ∀ {l : List Oper} {bad : List Nat} {zs : List Z}, trZs T mt ops sb bad l = some zs → ZRs T Q ops sb l zs
  | [], bad, zs, h => by cases h; exact .nil
  | o :: r, bad, zs, h => by
    unfold trZs at h
    split at h
    · rename_i z zs' h1 h2
      cases h
      exact .cons (trZ_ok hT hzo hmt h1) (trZs_ok hT hzo hmt h2)
    · cases h
theorem trXI_ok {S : List (P × I)} {x : XI} {o : Operand} (h : trXI S o = some x) : XIR S x o := by
  unfold trXI at h
  split at h
  · rename_i t
    obtain ⟨i, h1, rfl⟩ := Option.map_eq_some_iff.1 h
    have := XIR.t h1
    rwa [num_pOf] at this
  · split at h
    · rename_i v hv
      cases h
      exact .c (trX_ok hv)
    · cases h
theorem OutsOk.app {S : List (P × I)} {l m : List Oper} {ls ms : List Z} {sb sb' : List Nat} {arr arr' : Array Oper} (h : ZRs T Q arr sb l ls) (k : ZRs T Q arr' sb' m ms) : OutsOk S (l ++ m) (outsOf S (ls ++ ms)) :=
  ⟨outsOf_place S _, fun o ho p i hd hi => by
    rcases List.mem_append.1 ho with ho | ho
    · obtain ⟨z, h1, h2⟩ := h.mem o ho; exact outsOf_has S _ (List.mem_append_left _ h1) (h2.writes hd) hi
    · obtain ⟨z, h1, h2⟩ := k.mem o ho; exact outsOf_has S _ (List.mem_append_right _ h1) (h2.writes hd) hi⟩
theorem drop_last {l : List Oper} {ol : Oper} (h : l.getLast? = some ol) : l.drop (l.length - 1) = [ol] ∧ l.dropLast ++ [ol] = l := by
  have hne : l ≠ [] := by rintro rfl; cases h
  have h1 : l.getLast hne = ol := by rw [List.getLast?_eq_some_getLast hne] at h; exact Option.some.inj h
  have h2 := List.dropLast_concat_getLast hne
  rw [h1] at h2
  refine ⟨?_, h2⟩
  have h3 : l.length - 1 = l.dropLast.length := by simp
  rw [h3]
  conv => lhs; rw [← h2]
  simp
theorem trC_reg (hT : TabOk Q T) (hzo : zerosOk Q T = true) {mt : Mt} (hmt : MtOk Q T mt) {n : Nat} {S : List (P × I)} (id : Nat) (ops : Array Oper) : CR T Q n S (.region id ops false) (trC T mt n S (.region id ops false)) := by
  obtain ⟨l⟩ := ops
  show CR T Q n S (.region id l.toArray false) (bif dstOk n l then match trZs T mt l.toArray [] [] l with | some l => mkReg S l | none => .bad else .bad)
  cases hd : dstOk n l with
  | false => exact .bad
  | true =>
    rw [cond_true]
    split
    · rename_i zs hz
      have := trZs_ok hT hzo hmt hz
      exact .reg this hd (insOf_ok _ _) (outsOf_ok this)
    · exact .bad
theorem trC_drw (hT : TabOk Q T) (hzo : zerosOk Q T = true) {mt : Mt} (hmt : MtOk Q T mt) {n : Nat} {S : List (P × I)} (id : Nat) (ops : Array Oper) : CR T Q n S (.region id ops true) (trC T mt n S (.region id ops true)) := by
  obtain ⟨l⟩ := ops
  show CR T Q n S (.region id l.toArray true) (bif chk n (l.map (klass ⟨[], loose l.toArray, []⟩)) l.toArray then
      bif lastOk l.toArray && (match l.getLast? with | some o => isStore o.op | none => false) then
        match trZs T mt l.toArray (loose l.toArray) [] l.dropLast, trZs T mt l.toArray [] (badAll [] l.dropLast) (l.drop (l.length - 1)) with
        | some l, some m => mkDrw S l m
        | _, _ => .bad
      else match trZs T mt l.toArray (loose l.toArray) [] l with
        | some l => mkDrw S l []
        | none => .bad
    else .bad)
  cases hc : chk n (l.map (klass ⟨[], loose l.toArray, []⟩)) l.toArray with
  | false => exact .bad
  | true =>
    rw [cond_true]
    cases hl : (lastOk l.toArray && (match l.getLast? with | some o => isStore o.op | none => false)) with
    | false =>
      rw [cond_false]
      split
      · rename_i zs hz
        have := trZs_ok hT hzo hmt hz
        have ho := outsOf_ok (S := S) this
        rw [← List.append_nil zs] at ho
        exact .drw this hc (insOf_ok _ _) ho
      · exact .bad
    | true =>
      rw [cond_true]
      cases hol : l.getLast? with
      | none => rw [hol] at hl; have := and_r hl; cases this
      | some ol =>
        obtain ⟨h1, h2⟩ := drop_last hol
        rw [h1]
        split
        · rename_i zs ms hz hm
          have hz := trZs_ok hT hzo hmt hz
          have hm := trZs_ok hT hzo hmt hm
          have ho := OutsOk.app (S := S) hz hm
          rw [h2] at ho
          exact .drwL hol (and_l hl) hz hm hc (insOf_ok _ _) ho
        · exact .bad
theorem trC_ok (hT : TabOk Q T) (hzo : zerosOk Q T = true) {mt : Mt} (hmt : MtOk Q T mt) {n : Nat} {S : List (P × I)} (c : Code) : CR T Q n S c (trC T mt n S c) := by
  induction c with
  | skip => exact .skip
  | region id ops dr =>
    cases dr with
    | false => exact trC_reg hT hzo hmt id ops
    | true => exact trC_drw hT hzo hmt id ops
  | seq a b iha ihb => exact .seq iha ihb
  | cond x a b iha ihb =>
    show CR T Q n S (.cond x a b) (match trXI S x with | some x => .cond x (trC T mt n S a) (trC T mt n S b) | none => .bad)
    split
    · rename_i x' hx; exact .cond (trXI_ok hx) iha ihb
    · exact .bad
  | block id c ih => exact .blk ih
  | loop c ih => exact .loop ih
  | exit id => exact .exit
  | ret => exact .ret
  | _ => exact .bad
theorem trR_ok {S : List (P × I)} : ∀ {rs : List ResultVar} {rv : List RV}, rs.mapM (trR T S) = some rv → RVR T S rs rv
  | [], rv, h => by
    rw [List.mapM_nil] at h
    cases h
    exact .nil
  | r :: rs, rv, h => by
    rw [List.mapM_cons] at h
    cases hv : trR T S r with
    | none => rw [hv] at h; cases h
    | some w =>
      rw [hv] at h
      cases hl : rs.mapM (trR T S) with
      | none => simp [hl] at h
      | some ws =>
        simp [hl] at h
        subst h
        have ih := trR_ok hl
        unfold trR at hv
        split at hv
        · rename_i t
          obtain ⟨i, h1, rfl⟩ := Option.map_eq_some_iff.1 hv
          have := RVR.t h1 ih
          rwa [num_pOf] at this
        · rename_i a t
          split at hv
          · rename_i i p h1 h2
            obtain ⟨hk, hv⟩ := bifS hv
            cases hv
            have := RVR.c h1 hk h2 ih
            rwa [num_pOf] at this
          · cases hv
end
def I.eqc : I → I → Bool
  | .i0, .i0 | .i1, .i1 | .i2, .i2 | .i3, .i3 | .i4, .i4 | .i5, .i5 | .i6, .i6 | .i7, .i7 => true
  | .nx i, .nx j => i.eqc j
  | _, _ => false
theorem I.eqc_eq : ∀ {i j : I}, i.eqc j = true → i = j
  | .i0, .i0, _ | .i1, .i1, _ | .i2, .i2, _ | .i3, .i3, _ | .i4, .i4, _ | .i5, .i5, _ | .i6, .i6, _ | .i7, .i7, _ => rfl
  | .nx i, .nx j, h => by rw [I.eqc_eq (i := i) (j := j) h]
theorem I.eqc_self : ∀ i : I, i.eqc i = true
  | .i0 | .i1 | .i2 | .i3 | .i4 | .i5 | .i6 | .i7 => rfl
  | .nx i => I.eqc_self i
def nodupI : List I → Bool
  | [] => true
  | i :: r => !(r.any (I.eqc i)) && nodupI r
theorem nodupI_ok : ∀ {l : List I}, nodupI l = true → l.Nodup
  | [], _ => List.nodup_nil
  | i :: r, h => by
    have h1 := and_l h
    refine List.nodup_cons.2 ⟨fun hi => ?_, nodupI_ok (and_r h)⟩
    rw [List.any_eq_true.2 ⟨i, hi, I.eqc_self i⟩] at h1
    cases h1
theorem placeIn_mem {S : List (P × I)} : ∀ {p : P} {i : I}, placeIn S p = some i → (p, i) ∈ S := by
  induction S with
  | nil => intro p i h; cases h
  | cons q r ih =>
    intro p i h
    obtain ⟨q, j⟩ := q
    unfold placeIn at h
    cases hq : P.eqc q p with
    | true => rw [hq] at h; cases h; rw [eqc_eq hq]; exact List.mem_cons_self ..
    | false => rw [hq] at h; exact List.mem_cons_of_mem _ (ih h)
theorem inj_ok {S : List (P × I)} (h : nodupI (S.map (·.2)) = true) : Inj S := fun p q i hp hq => by
  have hn := nodupI_ok h
  have key : ∀ {S : List (P × I)}, (S.map (·.2)).Nodup → (p, i) ∈ S → (q, i) ∈ S → p = q := by
    intro S
    induction S with
    | nil => intro _ h; cases h
    | cons x r ih =>
      intro hn h1 h2
      obtain ⟨hx, hn⟩ := List.nodup_cons.1 (by simpa using hn : (x.2 :: r.map (·.2)).Nodup)
      rcases List.mem_cons.1 h1 with h1 | h1
      · rcases List.mem_cons.1 h2 with h2 | h2
        · rw [← h2] at h1; exact (Prod.mk.inj h1).1
        · rw [← h1] at hx; exact absurd (List.mem_map.2 ⟨_, h2, rfl⟩) hx
      · rcases List.mem_cons.1 h2 with h2 | h2
        · rw [← h2] at hx; exact absurd (List.mem_map.2 ⟨_, h1, rfl⟩) hx
        · exact ih hn h1 h2
  exact key hn (placeIn_mem hp) (placeIn_mem hq)
noncomputable def entB (S : List (P × I)) (ps : List I) : Bool := nodupI ps && (Nat.ble ps.length 24 && S.all fun q => (match ps[q.1.num]? with | some j => j.eqc q.2 | none => false) || !(ps.any (I.eqc q.2)))
theorem ent_ok {S : List (P × I)} {ps : List I} (h : entB S ps = true) : EntOk S ps := by
  refine ⟨nodupI_ok (and_l h), Nat.le_of_ble_eq_true (and_l (and_r h)), fun p i hp => ?_⟩
  have hm := List.all_eq_true.1 (and_r (and_r h)) _ (placeIn_mem hp)
  simp only [Bool.or_eq_true] at hm
  rcases hm with hm | hm
  · left
    split at hm
    · rename_i j hj; rw [hj, I.eqc_eq hm]
    · cases hm
  · right
    intro hi
    rw [List.any_eq_true.2 ⟨i, hi, I.eqc_self i⟩] at hm
    cases hm
theorem FR.of {T : Tab} {Q : Program} (hT : TabOk Q T) (hzo : zerosOk Q T = true) {mt : Mt} (hmt : MtOk Q T mt) {f : Nat} {fn : Func} {c : Code} {S : List (P × I)} {rs : List ResultVar} {rv : List RV} {ps : List I} {body : Step} (h1 : Q.funcs[f]? = some fn) (h2 : fn.body = some c) (h3 : fn.results = rs.toArray) (h4 : callable Q f = true)
    (h5 : nodupI (S.map (·.2)) = true) (h6 : entB S ps = true) (h7 : Nat.ble ps.length fn.ntmps = true) (h8 : Nat.ble rs.length 4 = true) (h9 : rs.mapM (trR T S) = some rv) (h10 : body = stepC (trC T mt fn.ntmps S c).toC2) : FR T Q f (.mk body rv ps) :=
  .mk h1 h2 h3 h4 (trC_ok hT hzo hmt c) (inj_ok h5) (ent_ok h6) h7 h8 (trR_ok h9) h10
end Den
