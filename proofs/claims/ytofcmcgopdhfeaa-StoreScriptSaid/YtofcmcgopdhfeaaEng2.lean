/-
  The layer's rules for code, loops, functions.
-/
import Derived.Test.YtofcmcgopdhfeaaEng1
namespace Eng
open Go

abbrev Kont := Exit → Env → Heap → Prop

section
variable (W0 : World) (P : Program) (n : Nat)

def lift (X : List Blk) (K : Kont) : Exit → Act → World → Prop := fun ex a w => ∃ e C, Has n a e ∧ Sat W0 w (X :: C) ∧ K ex e C

/-- From slots e and memory C the code comes to K. -/
structure V (K : Kont) (c : Code) (e : Env) (C : Heap) : Prop where
  wp : ∀ X a w, Has n a e → Sat W0 w (X :: C) → c.wp P (lift W0 n X K) a w

def thenK (y : Code) (K : Kont) : Kont := fun ex e C =>
  match ex with
  | .normal => V W0 P n K y e C
  | ex => K ex e C

def blockK (id : Nat) (K : Kont) : Kont := fun ex e C =>
  match ex with
  | .exit id' => bif Nat.beq id' id then K .normal e C else K (.exit id') e C
  | ex => K ex e C

/-- e says no less than e'. -/
def Sub (e e' : Env) : Prop := ∀ t p, get e' t = some p → get e t = some p

def SubL (e : Env) : Env → Prop
  | [] => True
  | (t, p) :: r => get e t = some p ∧ SubL e r

def loopK {G : Type} (K : Kont) (E : G → Env) (H : G → Heap) (μ : G → Nat) (g : G) : Kont := fun ex e C =>
  match ex with
  | .normal => ∃ g', SubL e (E g') ∧ Weak C (H g') ∧ μ g' < μ g
  | ex => K ex e C
end

theorem SubL.sub {e : Env} : ∀ {e' : Env}, SubL e e' → Sub e e'
  | [], _ => fun t p h => by simp [get] at h
  | (s, p) :: r, h => fun t q hq => by
    obtain ⟨g, v⟩ := p
    simp only [get] at hq
    cases hb : Nat.beq s t with
    | true =>
      simp only [hb, cond_true, Option.some.injEq] at hq
      rw [← Nat.eq_of_beq_eq_true hb, ← hq]
      exact h.1
    | false =>
      simp only [hb, cond_false] at hq
      exact SubL.sub h.2 t q hq

theorem Has.sub {n : Nat} {a : Act} {e e' : Env} (h : Has n a e) (k : Sub e e') : Has n a e' :=
  ⟨h.defers, h.size, fun t g v ht => h.slot t g v (k t (g, v) ht)⟩

section
variable {W0 : World} {P : Program} {n : Nat} {K : Kont} {e : Env} {C : Heap}

theorem V.seq {x y : Code} (h : V W0 P n (thenK W0 P n y K) x e C) : V W0 P n K (.seq x y) e C :=
  ⟨fun X a w ha hw => wp_seq (wp_mono (h.wp X a w ha hw) fun ex a w hq => by
    obtain ⟨e, C, ha, hw, hk⟩ := hq
    cases ex with
    | normal => exact hk.wp X a w ha hw
    | _ => exact ⟨e, C, ha, hw, hk⟩)⟩

theorem V.skip (h : K .normal e C) : V W0 P n K .skip e C := ⟨fun _ _ _ ha hw => wp_skip ⟨e, C, ha, hw, h⟩⟩
theorem V.ret (h : K .ret e C) : V W0 P n K .ret e C := ⟨fun _ _ _ ha hw => wp_ret ⟨e, C, ha, hw, h⟩⟩
theorem V.exit {id : Nat} (h : K (.exit id) e C) : V W0 P n K (.exit id) e C := ⟨fun _ _ _ ha hw => wp_exit ⟨e, C, ha, hw, h⟩⟩
theorem V.label {l : Nat} (h : K .normal e C) : V W0 P n K (.label l) e C := ⟨fun _ _ _ ha hw => wp_label ⟨e, C, ha, hw, h⟩⟩

theorem V.cond {c : Operand} {x y : Code} {b : Bool} (hc : look e c = some (true, .bool b)) (hx : b = true → V W0 P n K x e C) (hy : b = false → V W0 P n K y e C) :
    V W0 P n K (.cond c x y) e C :=
  ⟨fun X a w ha hw => wp_cond_split (ha.look hc) (fun h => (hx h).wp X a w ha hw) (fun h => (hy h).wp X a w ha hw)⟩

theorem V.block {id : Nat} {c : Code} (h : V W0 P n (blockK id K) c e C) : V W0 P n K (.block id c) e C :=
  ⟨fun X a w ha hw => wp_block (wp_mono (h.wp X a w ha hw) fun ex a w hq => by
    obtain ⟨e, C, ha, hw, hk⟩ := hq
    cases ex with
    | exit id' =>
      simp only [blockK] at hk
      simp only [Exit.inBlock]
      by_cases hid : id' = id
      · subst hid
        simp only [Nat.beq_refl, cond_true] at hk
        simp only [if_true]
        exact ⟨e, C, ha, hw, hk⟩
      · have hb : Nat.beq id' id = false := by
          cases hbb : Nat.beq id' id with
          | false => rfl
          | true => exact absurd (Nat.eq_of_beq_eq_true hbb) hid
        simp only [hb, cond_false] at hk
        simp only [hid, if_false]
        exact ⟨e, C, ha, hw, hk⟩
    | _ => exact ⟨e, C, ha, hw, hk⟩)⟩

theorem V.loop {c : Code} {G : Type} (E : G → Env) (H : G → Heap) (μ : G → Nat) (g0 : G) (he : SubL e (E g0)) (hC : Weak C (H g0))
    (round : ∀ g, V W0 P n (loopK K E H μ g) c (E g) (H g)) : V W0 P n K (.loop c) e C :=
  ⟨fun X a w ha hw => by
    intro b k cs
    have key : ∀ m g a w, μ g = m → Has n a (E g) → Sat W0 w (X :: H g) →
        ∃ ex a' w', lift W0 n X K ex a' w' ∧ Arrives P (lone (b.at a (.code c :: .inLoop c :: k)) cs w) b k cs ex a' w' := by
      intro m
      induction m using Nat.strongRecOn with
      | _ m ih =>
        intro g a w hm ha hw
        have hr := (round g).wp X a w ha hw
        obtain ⟨ex, a₁, w₁, hq, harr⟩ := hr b (.inLoop c :: k) cs
        obtain ⟨e₁, C₁, ha₁, hw₁, hk⟩ := hq
        cases ex with
        | normal =>
          obtain ⟨g', hs, hC', hlt⟩ := hk
          obtain ⟨e₂, a₂, w₂, hq₂, harr₂⟩ := ih (μ g') (hm ▸ hlt) g' a₁ w₁ rfl (ha₁.sub hs.sub) (hw₁.weak (hC'.cons X))
          exact ⟨e₂, a₂, w₂, hq₂, .of_steps (Steps.trans harr (.one step_inLoop)) harr₂⟩
        | exit id => exact ⟨_, a₁, w₁, ⟨e₁, C₁, ha₁, hw₁, hk⟩, .pass (x := .inLoop c) rfl (fun _ _ => .inl (by simp)) harr⟩
        | goto l => exact ⟨_, a₁, w₁, ⟨e₁, C₁, ha₁, hw₁, hk⟩, .pass (x := .inLoop c) rfl (fun _ _ => .inl (by simp)) harr⟩
        | ret => exact ⟨_, a₁, w₁, ⟨e₁, C₁, ha₁, hw₁, hk⟩, .pass (x := .inLoop c) rfl (fun _ _ => .inl (by simp)) harr⟩
        | panic ch => exact ⟨_, a₁, w₁, ⟨e₁, C₁, ha₁, hw₁, hk⟩, .pass (x := .inLoop c) rfl (fun _ _ => .inl (by simp)) harr⟩
        | outgrown => exact ⟨_, a₁, w₁, ⟨e₁, C₁, ha₁, hw₁, hk⟩, .pass (x := .inLoop c) rfl (fun _ _ => .inl (by simp)) harr⟩
    obtain ⟨ex, a', w', hq, harr⟩ := key _ g0 a w rfl (ha.sub he.sub) (hw.weak (hC.cons X))
    exact ⟨ex, a', w', hq, .of_steps (.one step_loop) harr⟩⟩

/-- Less may be known. -/
theorem V.less {c : Code} {e' : Env} {C' : Heap} (h : V W0 P n K c e' C') (he : Sub e e') (hC : Weak C C') : V W0 P n K c e C :=
  ⟨fun X a w ha hw => h.wp X a w (ha.sub he) (hw.weak (hC.cons X))⟩

theorem V.weak {c : Code} {C' : Heap} (hC : Weak C C') (h : V W0 P n K c e C') : V W0 P n K c e C := h.less (fun _ _ h => h) hC

/-- One step of what follows. -/
theorem thenK_normal {y : Code} (h : V W0 P n K y e C) : thenK W0 P n y K .normal e C := h
theorem thenK_ret {y : Code} (h : K .ret e C) : thenK W0 P n y K .ret e C := h
theorem thenK_exit {y : Code} {id : Nat} (h : K (.exit id) e C) : thenK W0 P n y K (.exit id) e C := h
theorem blockK_normal {id : Nat} (h : K .normal e C) : blockK id K .normal e C := h
theorem blockK_ret {id : Nat} (h : K .ret e C) : blockK id K .ret e C := h
theorem blockK_here {id : Nat} (h : K .normal e C) : blockK id K (.exit id) e C := by simpa [blockK] using h
theorem blockK_on {id id' : Nat} (hne : Nat.beq id' id = false) (h : K (.exit id') e C) : blockK id K (.exit id') e C := by simpa [blockK, hne] using h
theorem loopK_ret {G : Type} {E : G → Env} {H : G → Heap} {μ : G → Nat} {g : G} (h : K .ret e C) : loopK K E H μ g .ret e C := h
theorem loopK_exit {G : Type} {E : G → Env} {H : G → Heap} {μ : G → Nat} {g : G} {id : Nat} (h : K (.exit id) e C) : loopK K E H μ g (.exit id) e C := h
theorem loopK_again {G : Type} {E : G → Env} {H : G → Heap} {μ : G → Nat} {g : G} (g' : G) (h : SubL e (E g')) (hC : Weak C (H g')) (hlt : μ g' < μ g) : loopK K E H μ g .normal e C :=
  ⟨g', h, hC, hlt⟩

/-! ## Regions -/

/-- Of a region that draws: functions whose calls are quiet; slots whose values hang on D alone; what no operation changes. -/
structure Cfg where
  qf : List Nat
  sb : List Nat
  D : Heap

def cfg0 : Cfg := ⟨[], [], []⟩

def klassOp (g : Cfg) (op : Op) : Kind :=
  match op with
  | .alloc .. | .box .. | .buildSlice .. | .makeSlice .. => .fresh
  | .move _ | .assign _ | .pick .. | .nilCheck _ | .unOp .. | .fieldAddr .. | .field .. | .indexAddr .. | .index .. | .extract .. | .slice .. | .build .. | .makeFunc .. => .pure
  | .binOp op _ x y _ => match op, x, y with
    | .eql, .const _, _ | .eql, _, .const _ | .neq, .const _, _ | .neq, _, .const _ => .pure
    | .eql, _, _ | .neq, _, _ => .quiet
    | _, _, _ => .pure
  | .load .. => .quiet
  | .call c => match c.callee with
    | .builtin .len | .builtin .cap | .builtin .max | .builtin .min => .pure
    | .value (.func f) => bif g.qf.any (Nat.beq f) then .quiet else .m
    | _ => .m
  | _ => .m

/-- The kind of an operation, by its form. -/
def klass (g : Cfg) (o : Oper) : Kind :=
  bif (match o.dst with | some d => g.sb.any (Nat.beq d) | none => false) then .stable else klassOp g o.op

/-- A region's operations in the text's order, each of its kind. -/
structure Ops (W0 : World) (P : Program) (g : Cfg) (arr : Array Oper) (k : Env → Heap → Prop) (l : List Oper) (e : Env) (C : Heap) : Prop where
  run : Weak C g.D → Run W0 P g.D arr k (l.map fun o => (klass g o, o)) e C

theorem Run.mono {D : Heap} {arr : Array Oper} {k k' : Env → Heap → Prop} (hk : ∀ e C, k e C → k' e C) {zs : List (Kind × Oper)} {e : Env} {C : Heap} (h : Run W0 P D arr k zs e C) : Run W0 P D arr k' zs e C := by
  induction h with
  | nil h => exact .nil (hk _ _ h)
  | pure G v hg hv _ ih => exact .pure G v hg hv ih
  | stable G v hg hv _ ih => exact .stable G v hg hv ih
  | quiet G v hg hv _ ih => exact .quiet G v hg hv ih
  | fresh G mk ob hg hv _ _ ih1 ih2 => exact .fresh G mk ob hg hv ih1 ih2
  | m G R hg hv hD _ _ ih1 ih2 => exact .m G R hg hv hD ih1 ih2

def dstOk (n : Nat) (l : List Oper) : Bool := l.all fun o => match o.dst with | some d => Nat.blt d n | none => true

theorem V.regionQ (g : Cfg) {id : Nat} {l : List Oper} (hd : dstOk n l = true) (hD : Weak C g.D) (h : Ops W0 P g l.toArray (fun e C => K .normal e C) l e C) : V W0 P n K (.region id l.toArray false) e C :=
  ⟨fun X a w ha hw => by
    refine wp_region_list ?_
    have := Run.list (n := n) (X := X) (Q := lift W0 n X K) (fun e C a w hk ha hw => ⟨e, C, ha, hw, hk⟩) _ e C a w (h.run hD) (by
      intro x hx t ht
      obtain ⟨o, ho, rfl⟩ := List.mem_map.1 hx
      have h1 := List.all_eq_true.1 hd o ho
      simp only at ht
      rw [ht] at h1
      exact Nat.blt_eq.mp h1) ha hw hD
    simpa only [List.map_map, Function.comp_def, List.map_id'] using this⟩

theorem V.region {id : Nat} {l : List Oper} (hd : dstOk n l = true) (h : Ops W0 P cfg0 l.toArray (fun e C => K .normal e C) l e C) : V W0 P n K (.region id l.toArray false) e C :=
  V.regionQ cfg0 hd (Weak.all C) h

theorem V.draw (g : Cfg) {id : Nat} {l : List Oper} (hm : P.follows .mixedOrders = true) (hc : chk n (l.map (klass g)) l.toArray = true) (hD : Weak C g.D)
    (h : Ops W0 P g l.toArray (fun e C => K .normal e C) l e C) : V W0 P n K (.region id l.toArray true) e C :=
  ⟨fun X a w ha hw => by
    refine wp_region_any hm ?_
    have hw' : Sat W0 { w with drawn := w.drawn + 1 } (X :: C) := hw.ext (Ext.drew w)
    have h1 := Run.mono (k' := fun e C => ∃ e' C', Eqv e' e ∧ Weak C C' ∧ K .normal e' C') (fun e C hk => ⟨e, C, Eqv.refl e, Weak.refl C, hk⟩) (h.run hD)
    refine Run.start (k := fun e C => ∃ e' C', Eqv e' e ∧ Weak C C' ∧ K .normal e' C') (X := X) (Q := lift W0 n X K) ?_ ?_ ?_ hc ?_ ha hw' hD
    · rintro e e' C he ⟨e0, C0, h0, hC, hk⟩
      exact ⟨e0, C0, h0.trans he, hC, hk⟩
    · rintro e C C' ⟨e0, C0, h0, hC, hk⟩ hW
      exact ⟨e0, C0, h0, hW.trans hC, hk⟩
    · rintro e C a w ⟨e0, C0, h0, hC, hk⟩ ha hw
      exact ⟨e0, C0, ha.eqv h0.symm, hw.weak (hC.cons X), hk⟩
    · have hz : (List.range l.toArray.size).map (opAt (l.map (klass g)) l.toArray) = l.map fun o => (klass g o, o) := by
        refine List.ext_getElem (by simp) ?_
        intro i h1 h2
        have hi : i < l.length := by simpa using h1
        simp [opAt, hi]
      rw [hz]
      exact h1⟩

section
variable {cf : Cfg} {arr : Array Oper} {k : Env → Heap → Prop} {o : Oper} {rest : List Oper}

theorem Ops.nil (h : k e C) : Ops W0 P cf arr k [] e C := ⟨fun _ => .nil h⟩

theorem PureV.quiet {v : Value} (h : PureV P e o v) : QuietV W0 P e C o v := fun a ha w next Q _ hn => by
  unfold Oper.wp
  rw [h a.eval ha w]
  exact hn w (Ext.refl w)

theorem StabV.quiet {v : Value} {D : Heap} (h : StabV W0 P e D o v) (hD : Weak C D) : QuietV W0 P e C o v := fun a ha w next Q hw hn => by
  unfold Oper.wp
  rw [h a.eval ha w (hw.weak hD)]
  exact hn w (Ext.refl w)

theorem QuietV.m {v : Value} (h : QuietV W0 P e C o v) : MV W0 P e C o (fun v' C' => v' = v ∧ C' = C) := fun X a ha w next Q hs hn =>
  h a ha w next Q (hs.weak (Weak.skip X C)) fun w' hx => hn v C w' ⟨rfl, rfl⟩ (hs.ext hx)

theorem FreshV.m {mk : Nat → Value} {ob : Obj} (h : FreshV P e o mk ob) : MV W0 P e C o (fun v C' => ∃ b, v = mk b ∧ C' = [(b, ob)] :: C) := fun X a ha w next Q hs hn => by
  unfold Oper.wp
  rw [h a.eval ha w]
  exact hn _ _ _ ⟨_, rfl, rfl⟩ ((hs.alloc ob).weak (Weak.swap _ _ _))

def isFresh : Kind → Bool
  | .fresh => true
  | _ => false
theorem isFresh_eq {kd : Kind} (h : isFresh kd = true) : kd = .fresh := by cases kd <;> first | rfl | cases h

theorem isFresh_cond (b : Bool) (k : Kind) : isFresh (bif b then Kind.stable else k) = (!b && isFresh k) := by cases b <;> rfl
theorem klass_nofresh {g : Cfg} {o : Oper} (h : isFresh (klassOp g o.op) = false) : isFresh (klass g o) = false := by
  unfold klass
  rw [isFresh_cond, h, Bool.and_false]

/-- A value that hangs on slots alone. -/
theorem Ops.pure {v : Value} (hg : o.guard = none) (hkf : isFresh (klass cf o) = false) (hv : PureV P e o v) (h : Ops W0 P cf arr k rest (ext o.dst true v e) C) : Ops W0 P cf arr k (o :: rest) e C := by
  refine ⟨fun hD => ?_⟩
  have hgd : guardOk arr e o.guard true := by rw [hg]; rfl
  simp only [List.map_cons]
  cases hk : klass cf o with
  | pure => exact .pure true v hgd (fun _ => hv) (h.run hD)
  | stable => exact .stable true v hgd (fun _ ρ ha w _ => hv ρ ha w) (h.run hD)
  | quiet => exact .quiet true v hgd (fun _ => hv.quiet) (h.run hD)
  | fresh => rw [hk] at hkf; cases hkf
  | m => exact .m true _ hgd (fun _ => hv.quiet.m) (fun _ v' C' hr => by obtain ⟨rfl, rfl⟩ := hr; exact hD) (fun _ v' C' hr _ => by obtain ⟨rfl, rfl⟩ := hr; exact h.run hD) (fun h => by cases h)

/-- A value that is read of what stays as it is. -/
theorem Ops.stab {v : Value} (hg : o.guard = none) (hk : klass cf o = .stable) (hv : StabV W0 P e cf.D o v) (h : Ops W0 P cf arr k rest (ext o.dst true v e) C) : Ops W0 P cf arr k (o :: rest) e C := by
  refine ⟨fun hD => ?_⟩
  have hgd : guardOk arr e o.guard true := by rw [hg]; rfl
  simp only [List.map_cons, hk]
  exact .stable true v hgd (fun _ => hv) (h.run hD)

def notPure : Kind → Bool
  | .pure => false
  | .stable => false
  | .fresh => false
  | _ => true
def isM : Kind → Bool
  | .m => true
  | _ => false
/-- .. or makes memory. -/
def isMF : Kind → Bool
  | .m => true
  | .fresh => true
  | _ => false

/-- A value that is read, or that a quiet call gives. -/
theorem Ops.quiet {v : Value} (hg : o.guard = none) (hk : notPure (klass cf o) = true) (hv : QuietV W0 P e C o v) (h : Ops W0 P cf arr k rest (ext o.dst true v e) C) : Ops W0 P cf arr k (o :: rest) e C := by
  refine ⟨fun hD => ?_⟩
  have hgd : guardOk arr e o.guard true := by rw [hg]; rfl
  simp only [List.map_cons]
  cases hk' : klass cf o with
  | pure => rw [hk'] at hk; cases hk
  | stable => rw [hk'] at hk; cases hk
  | fresh => rw [hk'] at hk; cases hk
  | quiet => exact .quiet true v hgd (fun _ => hv) (h.run hD)
  | m => exact .m true _ hgd (fun _ => hv.m) (fun _ v' C' hr => by obtain ⟨rfl, rfl⟩ := hr; exact hD) (fun _ v' C' hr _ => by obtain ⟨rfl, rfl⟩ := hr; exact h.run hD) (fun h => by cases h)

theorem isM_eq {kd : Kind} (h : isM kd = true) : kd = .m := by cases kd <;> first | rfl | cases h

/-- Whatever else. -/
theorem Ops.m {R : Value → Heap → Prop} (hg : o.guard = none) (hk : isM (klass cf o) = true) (hv : MV W0 P e C o R) (h : Weak C cf.D → ∀ v C', R v C' → Weak C' cf.D ∧ Ops W0 P cf arr k rest (ext o.dst true v e) C') : Ops W0 P cf arr k (o :: rest) e C := by
  refine ⟨fun hD => ?_⟩
  have hgd : guardOk arr e o.guard true := by rw [hg]; rfl
  simp only [List.map_cons, isM_eq hk]
  exact .m true R hgd (fun _ => hv) (fun _ v' C' hr => (h hD v' C' hr).1) (fun _ v' C' hr _ => (h hD v' C' hr).2.run (h hD v' C' hr).1) (fun h => by cases h)

/-- New memory. -/
theorem Ops.fresh {mk : Nat → Value} {ob : Obj} (hg : o.guard = none) (hk : isFresh (klass cf o) = true) (hv : FreshV P e o mk ob) (h : ∀ b, Ops W0 P cf arr k rest (ext o.dst true (mk b) e) ([(b, ob)] :: C)) : Ops W0 P cf arr k (o :: rest) e C := by
  refine ⟨fun hD => ?_⟩
  have hgd : guardOk arr e o.guard true := by rw [hg]; rfl
  simp only [List.map_cons, isFresh_eq hk]
  exact .fresh true mk ob hgd (fun _ => hv) (fun _ b _ => (h b).run hD.drop) (fun h => by cases h)

/-- Guarded. -/
theorem Ops.gpure {v : Value} {G : Bool} (hg : guardOk arr e o.guard G) (hk : isMF (klass cf o) = false) (hv : G = true → PureV P e o v) (h : Ops W0 P cf arr k rest (ext o.dst G v e) C) : Ops W0 P cf arr k (o :: rest) e C := by
  refine ⟨fun hD => ?_⟩
  simp only [List.map_cons]
  cases hk' : klass cf o with
  | pure => exact .pure G v hg hv (h.run hD)
  | stable => exact .stable G v hg (fun h ρ ha w _ => hv h ρ ha w) (h.run hD)
  | quiet => exact .quiet G v hg (fun h => (hv h).quiet) (h.run hD)
  | fresh => rw [hk'] at hk; cases hk
  | m => rw [hk'] at hk; cases hk

theorem Ops.gstab {v : Value} {G : Bool} (hg : guardOk arr e o.guard G) (hk : klass cf o = .stable) (hv : G = true → StabV W0 P e cf.D o v) (h : Ops W0 P cf arr k rest (ext o.dst G v e) C) : Ops W0 P cf arr k (o :: rest) e C := by
  refine ⟨fun hD => ?_⟩
  simp only [List.map_cons, hk]
  exact .stable G v hg hv (h.run hD)

theorem Ops.gquiet {v : Value} {G : Bool} (hg : guardOk arr e o.guard G) (hk : klass cf o = .quiet) (hv : G = true → QuietV W0 P e C o v) (h : Ops W0 P cf arr k rest (ext o.dst G v e) C) : Ops W0 P cf arr k (o :: rest) e C := by
  refine ⟨fun hD => ?_⟩
  simp only [List.map_cons, hk]
  exact .quiet G v hg hv (h.run hD)

theorem Ops.gm {R : Value → Heap → Prop} {G : Bool} (hg : guardOk arr e o.guard G) (hk : isM (klass cf o) = true) (hv : G = true → MV W0 P e C o R)
    (h : G = true → ∀ v C', R v C' → Weak C' cf.D ∧ Ops W0 P cf arr k rest (ext o.dst true v e) C') (h' : G = false → Ops W0 P cf arr k rest (ext o.dst true undef e) C) : Ops W0 P cf arr k (o :: rest) e C := by
  refine ⟨fun hD => ?_⟩
  simp only [List.map_cons, isM_eq hk]
  exact .m G R hg hv (fun hG v' C' hr => (h hG v' C' hr).1) (fun hG v' C' hr _ => (h hG v' C' hr).2.run (h hG v' C' hr).1) (fun hG => (h' hG).run hD)

end

/-! ## Functions -/

/-- Called with these arguments, where memory is as C says, it hands back a v and leaves a C' that R allows. -/
structure Does (W0 : World) (P : Program) (f : FuncId) (args : Array Value) (C : Heap) (R : Value → Heap → Prop) : Prop where
  calls : ∀ X w, Sat W0 w (X :: C) → Calls P f args w fun e w' => ∃ v C', e = .returned v ∧ R v C' ∧ Sat W0 w' (X :: C')

/-- .. it hands back v, and all that was there is as it was. -/
structure Gives (W0 : World) (P : Program) (f : FuncId) (args : Array Value) (C : Heap) (v : Value) : Prop where
  calls : ∀ w, Sat W0 w C → Calls P f args w fun e w' => e = .returned v ∧ Ext w w'

theorem Gives.mono {f : FuncId} {args : Array Value} {C' : Heap} {v : Value} (h : Gives W0 P f args C' v) (k : Weak C C') : Gives W0 P f args C v := ⟨fun w hs => h.calls w (hs.weak k)⟩

theorem Gives.of {f : FuncId} {args : Array Value} {v : Value} (h : ∀ X, Does W0 P f args (X :: C) (fun v' C' => v' = v ∧ C' = X :: C)) : Gives W0 P f args C v := ⟨fun w hs => by
  obtain ⟨X, h1, h2⟩ := hs.full
  refine ((h X).calls [] w (h1.weak (Weak.nil _))).mono ?_
  rintro e w' ⟨v', C', rfl, ⟨rfl, rfl⟩, hs'⟩
  exact ⟨rfl, h2 w' (hs'.weak (Weak.skip _ _))⟩⟩

theorem Gives.spec {f : FuncId} {args : Array Value} {v : Value} (h : Gives W0 P f args C v) : Does W0 P f args C (fun v' C' => v' = v ∧ C' = C) := ⟨fun X w hs =>
  (h.calls w (hs.weak (Weak.skip X C))).mono (by rintro e w' ⟨rfl, hx⟩; exact ⟨v, C, rfl, ⟨rfl, rfl⟩, hs.ext hx⟩)⟩

theorem Does.mono {f : FuncId} {args : Array Value} {R R' : Value → Heap → Prop} (h : Does W0 P f args C R) (k : ∀ v C', R v C' → R' v C') : Does W0 P f args C R' := ⟨fun X w hs =>
  (h.calls X w hs).mono (by rintro e w' ⟨v, C', rfl, hr, hs'⟩; exact ⟨v, C', rfl, k v C' hr, hs'⟩)⟩

theorem Does.weak {f : FuncId} {args : Array Value} {C' : Heap} {R : Value → Heap → Prop} (k : Weak C C') (h : Does W0 P f args C' R) : Does W0 P f args C R := ⟨fun X w hs => h.calls X w (hs.weak (k.cons X))⟩

/-- Something more that stays. -/
theorem Does.frame {f : FuncId} {args : Array Value} {R : Value → Heap → Prop} (h : Does W0 P f args C R) (c : List Blk) : Does W0 P f args (c :: C) (fun v D => ∃ C', R v C' ∧ D = c :: C') := ⟨fun X w hs =>
  (h.calls (X ++ c) w (hs.weak (Weak.join X c C))).mono (by rintro e w' ⟨v, C', rfl, hr, hs'⟩; exact ⟨v, c :: C', rfl, ⟨C', hr, rfl⟩, hs'.weak (Weak.part X c C')⟩)⟩

def tmpsOf (e : Env) : List ResultVar → Option (List Value)
  | [] => some []
  | .tmp t :: r => match get e t with
    | some (true, v) => match tmpsOf e r with
      | some vs => some (v :: vs)
      | none => none
    | _ => none
  | _ :: _ => none

def tup : List Value → Value
  | [v] => v
  | vs => .tuple vs.toArray

/-- What a function's results are, where slots and memory are so. -/
def ResOk (W0 : World) (P : Program) (e : Env) (C : Heap) (rs : List ResultVar) (v : Value) : Prop :=
  ∀ (m : Nat) (fn : Func) (a : Act) (w : World), fn.results = rs.toArray → Has m a e → Sat W0 w C → (results fn a.tmps).run P w = .ok v w

def retK (W0 : World) (P : Program) (rs : List ResultVar) (R : Value → Heap → Prop) : Kont := fun ex e C =>
  match ex with
  | .normal | .ret => ∃ v C', ResOk W0 P e C rs v ∧ Weak C C' ∧ R v C'
  | _ => False

def slotsL : List Nat := [0, 1, 2, 3, 4, 5, 6, 7, 8, 9, 10, 11, 12, 13, 14, 15, 16, 17, 18, 19, 20, 21, 22, 23]

def zipE : List Nat → List Value → Env
  | i :: r, v :: l => (i, true, v) :: zipE r l
  | _, _ => []

def enterEnv (l : List Value) : Env := zipE slotsL l

theorem get_zipE : ∀ (ns : List Nat) (l : List Value) (t : Nat) (g : Bool) (v : Value), get (zipE ns l) t = some (g, v) → g = true ∧ ∃ j : Nat, ns[j]? = some t ∧ l[j]? = some v
  | [], l, t, g, v, h => by simp [zipE, get] at h
  | i :: ns, [], t, g, v, h => by simp [zipE, get] at h
  | i :: ns, u :: l, t, g, v, h => by
    simp only [zipE, get] at h
    cases hb : Nat.beq i t with
    | true =>
      have := Nat.eq_of_beq_eq_true hb
      subst this
      simp only [Nat.beq_refl, cond_true, Option.some.injEq, Prod.mk.injEq] at h
      obtain ⟨rfl, rfl⟩ := h
      exact ⟨rfl, 0, by simp, by simp⟩
    | false =>
      simp only [hb, cond_false] at h
      obtain ⟨h1, j, h2, h3⟩ := get_zipE ns l t g v h
      exact ⟨h1, j + 1, by simpa using h2, by simpa using h3⟩

theorem slotsL_get : ∀ (j t : Nat), slotsL[j]? = some t → j = t := by
  intro j t h
  have hj : j < slotsL.length := (List.getElem?_eq_some_iff.1 h).1
  have : ∀ j : Nat, j < 24 → slotsL[j]? = some j := by decide
  rw [this j hj] at h
  simpa using h

theorem get_enterEnv (l : List Value) (t : Nat) (g : Bool) (v : Value) (h : get (enterEnv l) t = some (g, v)) : g = true ∧ l[t]? = some v := by
  obtain ⟨h1, j, h2, h3⟩ := get_zipE _ _ _ _ _ h
  rw [slotsL_get j t h2] at h3
  exact ⟨h1, h3⟩

theorem has_enter {l : List Value} {m : Nat} (h : l.length ≤ m) : Has m { tmps := l.toArray ++ Array.replicate (m - l.toArray.size) undef, defers := [] } (enterEnv l) := by
  refine ⟨rfl, by simp; omega, ?_⟩
  intro t g v ht
  obtain ⟨rfl, h3⟩ := get_enterEnv l t g v ht
  have hlt : t < l.length := (List.getElem?_eq_some_iff.1 h3).1
  simp only [cond_true]
  rw [Array.getElem?_append_left (by simpa using hlt)]
  simpa using h3

theorem run_results {m : Nat} {fn : Func} {a : Act} {w : World} {rs : List ResultVar} {vs : List Value} (hr : fn.results = rs.toArray) (ha : Has m a e) (h : tmpsOf e rs = some vs) (hlen : rs.length ≤ 4) :
    (results fn a.tmps).run P w = .ok (tup vs) w := by
  have get1 : ∀ t v, get e t = some (true, v) → a.tmps.getD t undef = v := fun t v ht => by
    have := ha.slot t true v ht
    simp [this]
  have head : ∀ (x : ResultVar) (r : List ResultVar) (vs : List Value), tmpsOf e (x :: r) = some vs → ∃ t v us, x = .tmp t ∧ get e t = some (true, v) ∧ tmpsOf e r = some us ∧ vs = v :: us := by
    intro x r vs h
    cases x with
    | cell a t => simp [tmpsOf] at h
    | tmp t =>
      simp only [tmpsOf] at h
      split at h
      · rename_i v hv
        split at h
        · rename_i us hus
          exact ⟨t, v, us, rfl, hv, hus, by simpa using h.symm⟩
        · simp at h
      · simp at h
  match rs, hlen with
  | [], _ =>
    simp only [tmpsOf, Option.some.injEq] at h
    subst h
    simp [results, hr, tup]
  | [x], _ =>
    obtain ⟨t, v, us, rfl, hv, hus, rfl⟩ := head _ _ _ h
    simp only [tmpsOf, Option.some.injEq] at hus
    subst hus
    have := get1 t v hv
    simp at this
    simp [results, hr, tup, this]
  | [x, y], _ =>
    obtain ⟨t, v, us, rfl, hv, hus, rfl⟩ := head _ _ _ h
    obtain ⟨t2, v2, us2, rfl, hv2, hus2, rfl⟩ := head _ _ _ hus
    simp only [tmpsOf, Option.some.injEq] at hus2
    subst hus2
    have h1 := get1 t v hv
    have h2 := get1 t2 v2 hv2
    simp at h1 h2
    simp [results, hr, tup, h1, h2]
  | [x, y, z], _ =>
    obtain ⟨t, v, us, rfl, hv, hus, rfl⟩ := head _ _ _ h
    obtain ⟨t2, v2, us2, rfl, hv2, hus2, rfl⟩ := head _ _ _ hus
    obtain ⟨t3, v3, us3, rfl, hv3, hus3, rfl⟩ := head _ _ _ hus2
    simp only [tmpsOf, Option.some.injEq] at hus3
    subst hus3
    have h1 := get1 t v hv
    have h2 := get1 t2 v2 hv2
    have h3 := get1 t3 v3 hv3
    simp at h1 h2 h3
    simp [results, hr, tup, h1, h2, h3]
  | [x, y, z, u], _ =>
    obtain ⟨t, v, us, rfl, hv, hus, rfl⟩ := head _ _ _ h
    obtain ⟨t2, v2, us2, rfl, hv2, hus2, rfl⟩ := head _ _ _ hus
    obtain ⟨t3, v3, us3, rfl, hv3, hus3, rfl⟩ := head _ _ _ hus2
    obtain ⟨t4, v4, us4, rfl, hv4, hus4, rfl⟩ := head _ _ _ hus3
    simp only [tmpsOf, Option.some.injEq] at hus4
    subst hus4
    have h1 := get1 t v hv
    have h2 := get1 t2 v2 hv2
    have h3 := get1 t3 v3 hv3
    have h4 := get1 t4 v4 hv4
    simp at h1 h2 h3 h4
    simp [results, hr, tup, h1, h2, h3, h4]

/-- A function's body. -/
theorem Does.enter {f : FuncId} {l : List Value} {R : Value → Heap → Prop} {fn : Func} {c : Code} {rs : List ResultVar} {m : Nat} (hf : P.funcs[f]? = some fn) (hb : fn.body = some c) (hr : fn.results = rs.toArray)
    (hm : fn.ntmps = m) (hl : Nat.ble l.length m = true) (_hrl : Nat.ble rs.length 4 = true) (h : V W0 P m (retK W0 P rs R) c (enterEnv l) C) : Does W0 P f l.toArray C R := ⟨fun X w hw => by
  refine calls_of_wp hf hb ?_
  rw [hm]
  refine wp_mono (h.wp X _ w (has_enter (Nat.le_of_ble_eq_true hl)) hw) ?_
  rintro ex a w' ⟨e, C, ha, hs, hk⟩
  cases ex with
  | normal =>
    obtain ⟨v, C', h1, h2, h3⟩ := hk
    exact ⟨ha.defers, v, h1 _ _ a w' hr ha (hs.weak (Weak.skip X C)), v, C', rfl, h3, hs.weak (h2.cons X)⟩
  | ret =>
    obtain ⟨v, C', h1, h2, h3⟩ := hk
    exact ⟨ha.defers, v, h1 _ _ a w' hr ha (hs.weak (Weak.skip X C)), v, C', rfl, h3, hs.weak (h2.cons X)⟩
  | exit id => exact hk.elim
  | goto l => exact hk.elim
  | panic ch => exact hk.elim
  | outgrown => exact hk.elim⟩

theorem ResOk.tmps {rs : List ResultVar} {vs : List Value} (h : tmpsOf e rs = some vs) (hrl : Nat.ble rs.length 4 = true) : ResOk W0 P e C rs (tup vs) :=
  fun _ _ _ _ hr ha _ => run_results hr ha h (Nat.le_of_ble_eq_true hrl)

theorem retK_ret {rs : List ResultVar} {R : Value → Heap → Prop} {vs : List Value} {C' : Heap} (h : tmpsOf e rs = some vs) (hw : Weak C C') (hr : R (tup vs) C') (hrl : Nat.ble rs.length 4 = true := by rfl) : retK W0 P rs R .ret e C := ⟨_, C', ResOk.tmps h hrl, hw, hr⟩
theorem retK_end {rs : List ResultVar} {R : Value → Heap → Prop} {vs : List Value} {C' : Heap} (h : tmpsOf e rs = some vs) (hw : Weak C C') (hr : R (tup vs) C') (hrl : Nat.ble rs.length 4 = true := by rfl) : retK W0 P rs R .normal e C := ⟨_, C', ResOk.tmps h hrl, hw, hr⟩

end
end Eng
