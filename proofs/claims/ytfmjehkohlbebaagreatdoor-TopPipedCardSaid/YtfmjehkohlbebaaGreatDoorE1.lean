/-
  The engine: what a piece of code does, framed; orders, rules. No conditions but those that each theorem names.
-/
import Derived.WalkKit
import Derived.Orders
namespace Eng
open Go
abbrev Blk := Nat × Obj
abbrev Heap := List (List Blk)
structure Sat (W0 w : World) (C : Heap) : Prop where
  os : w.os = W0.os
  tape : w.tape = W0.tape
  output : w.output = W0.output
  size : W0.heap.size ≤ w.heap.size
  base : ∀ k, k < W0.heap.size → w.heap[k]? = W0.heap[k]?
  nodup : (C.flatten.map Prod.fst).Nodup
  own : ∀ p ∈ C.flatten, W0.heap.size ≤ p.1 ∧ w.heap[p.1]? = some p.2
structure Ext (w w' : World) : Prop where
  os : w'.os = w.os
  tape : w'.tape = w.tape
  output : w'.output = w.output
  heap : ∀ (k : Nat) (o : Obj), w.heap[k]? = some o → w'.heap[k]? = some o
theorem Ext.refl (w : World) : Ext w w := ⟨rfl, rfl, rfl, fun _ _ h => h⟩
theorem Ext.size {w w' : World} (h : Ext w w') : w.heap.size ≤ w'.heap.size := by
  rcases Nat.lt_or_ge w'.heap.size w.heap.size with hlt | hge
  · have h0 : w.heap[w'.heap.size]? = some w.heap[w'.heap.size] := Array.getElem?_eq_getElem hlt
    have h1 := h.heap _ _ h0
    simp at h1
  · exact hge
theorem Ext.drew (w : World) : Ext w w.drew := ⟨rfl, rfl, rfl, fun _ _ h => h⟩
theorem Ext.alloc (w : World) (o : Obj) : Ext w (w.alloc o) :=
  ⟨rfl, rfl, rfl, fun k o' h => by
    have hk : k < w.heap.size := by
      rcases Nat.lt_or_ge k w.heap.size with h' | h'
      · exact h'
      · simp [Array.getElem?_eq_none h'] at h
    rw [RowKit.Below.heap_alloc w o k hk]; exact h⟩
theorem Sat.ext {W0 w w' : World} {C : Heap} (h : Sat W0 w C) (k : Ext w w') : Sat W0 w' C where
  os := k.os.trans h.os
  tape := k.tape.trans h.tape
  output := k.output.trans h.output
  size := Nat.le_trans h.size k.size
  base := fun i hi => by
    have h1 := h.base i hi
    have h2 : W0.heap[i]? = some W0.heap[i] := Array.getElem?_eq_getElem hi
    rw [h2] at h1 ⊢
    exact k.heap _ _ h1
  nodup := h.nodup
  own := fun p hp => ⟨(h.own p hp).1, k.heap _ _ (h.own p hp).2⟩
theorem Sat.start (W0 : World) : Sat W0 W0 [] :=
  ⟨rfl, rfl, rfl, Nat.le_refl _, fun _ _ => rfl, by simp, by simp⟩
theorem Sat.below {W0 w : World} {C : Heap} (h : Sat W0 w C) : RowKit.Below W0.heap.size W0 w :=
  ⟨h.os, h.tape, h.output, h.size, h.base⟩
def Weak (C C' : Heap) : Prop := ∃ r, C.flatten.Perm (C'.flatten ++ r)
theorem Weak.refl (C : Heap) : Weak C C := ⟨[], by simp⟩
theorem Weak.trans {A B C : Heap} : Weak A B → Weak B C → Weak A C := by
  rintro ⟨r, h⟩ ⟨s, k⟩
  exact ⟨s ++ r, h.trans ((k.append_right r).trans (by simp))⟩
theorem Weak.skip (c : List Blk) (C : Heap) : Weak (c :: C) C := ⟨c, by simpa using List.perm_append_comm⟩
theorem Weak.cons (c : List Blk) {C C' : Heap} : Weak C C' → Weak (c :: C) (c :: C') := by
  rintro ⟨r, h⟩
  exact ⟨r, by simpa only [List.flatten_cons, List.append_assoc] using h.append_left c⟩
theorem Weak.drop {c : List Blk} {C C' : Heap} (h : Weak C C') : Weak (c :: C) C' := (Weak.skip c C).trans h
theorem Weak.swap (c d : List Blk) (C : Heap) : Weak (c :: d :: C) (d :: c :: C) :=
  ⟨[], by simp only [List.flatten_cons, List.append_nil, ← List.append_assoc]; exact List.perm_append_comm.append_right _⟩
theorem Weak.join (c d : List Blk) (C : Heap) : Weak (c :: d :: C) ((c ++ d) :: C) := ⟨[], by simp⟩
theorem Weak.part (c d : List Blk) (C : Heap) : Weak ((c ++ d) :: C) (c :: d :: C) := ⟨[], by simp⟩
theorem Weak.nil (C : Heap) : Weak C ([] :: C) := ⟨[], by simp⟩
theorem Weak.all (C : Heap) : Weak C [] := ⟨C.flatten, by simp⟩
theorem Sat.weak {W0 w : World} {C C' : Heap} (h : Sat W0 w C) (k : Weak C C') : Sat W0 w C' := by
  obtain ⟨r, hp⟩ := k
  refine ⟨h.os, h.tape, h.output, h.size, h.base, ?_, fun p hp' => h.own p (hp.mem_iff.2 (List.mem_append_left _ hp'))⟩
  have h1 : ((C'.flatten ++ r).map Prod.fst).Nodup := (hp.map Prod.fst).nodup_iff.1 h.nodup
  rw [List.map_append] at h1
  exact (List.nodup_append.1 h1).1
def Rd (W0 : World) (C : Heap) (a : Addr) (v : Value) : Prop := ∀ w, Sat W0 w C → w.cell? a = some v
def At (W0 : World) (C : Heap) (b : Nat) (o : Obj) : Prop := ∀ w, Sat W0 w C → w.heap[b]? = some o
theorem At.here {W0 : World} {C : Heap} {b : Nat} {o : Obj} {c : List Blk} : At W0 (((b, o) :: c) :: C) b o :=
  fun _ h => (h.own (b, o) (by simp)).2
theorem At.base {W0 : World} {C : Heap} {b : Nat} {o : Obj} (h : W0.heap[b]? = some o) : At W0 C b o := fun w hs => by
  have hb : b < W0.heap.size := (Array.getElem?_eq_some_iff.1 h).1
  rw [hs.base b hb]; exact h
theorem Rd.of_at {W0 : World} {C : Heap} {b off : Nat} {cs : Array Value} {t : TypeId} {fr : Nat × Nat} {v : Value}
    (h : At W0 C b (.cells cs t fr)) (hv : cs[off]? = some v) : Rd W0 C ⟨b, off, none⟩ v := fun w hs => by
  simp only [World.cell?, h w hs]
  simpa using hv
theorem Rd.here {W0 : World} {C : Heap} {b off : Nat} {l : List Value} {t : TypeId} {fr : Nat × Nat} {v : Value} {c : List Blk}
    (hv : l[off]? = some v) : Rd W0 (((b, .cells l.toArray t fr) :: c) :: C) ⟨b, off, none⟩ v := Rd.of_at At.here (by simpa using hv)
theorem Rd.skip {W0 : World} {C : Heap} {a : Addr} {v : Value} {c : List Blk} (h : Rd W0 C a v) : Rd W0 (c :: C) a v :=
  fun w hs => h w (hs.weak (Weak.skip c C))
theorem Rd.mono {W0 : World} {C C' : Heap} {a : Addr} {v : Value} (h : Rd W0 C' a v) (k : Weak C C') : Rd W0 C a v := fun w hs => h w (hs.weak k)
inductive Upd : Heap → Nat → Obj → Obj → Heap → Prop
  | here {b o o' c C} : Upd (((b, o) :: c) :: C) b o o' (((b, o') :: c) :: C)
  | next {b o o' p c c' C C'} : Upd (c :: C) b o o' (c' :: C') → Upd ((p :: c) :: C) b o o' ((p :: c') :: C')
  | skip {b o o' c C C'} : Upd C b o o' C' → Upd (c :: C) b o o' (c :: C')
theorem Upd.split {C C' : Heap} {b : Nat} {o o' : Obj} (h : Upd C b o o' C') :
    ∃ l r, C.flatten = l ++ (b, o) :: r ∧ C'.flatten = l ++ (b, o') :: r := by
  induction h with
  | @here b o o' c C => exact ⟨[], c ++ C.flatten, by simp, by simp⟩
  | @next b o o' p c c' C C' _ ih =>
    obtain ⟨l, r, h1, h2⟩ := ih
    exact ⟨p :: l, r, by simpa using h1, by simpa using h2⟩
  | @skip b o o' c C C' _ ih =>
    obtain ⟨l, r, h1, h2⟩ := ih
    exact ⟨c ++ l, r, by simp [h1], by simp [h2]⟩
theorem Sat.upd {W0 w w' : World} {C C' : Heap} {b : Nat} {o o' : Obj} (h : Sat W0 w C) (u : Upd C b o o' C')
    (hos : w'.os = w.os) (htape : w'.tape = w.tape) (hout : w'.output = w.output) (hsz : w.heap.size ≤ w'.heap.size)
    (hb : w'.heap[b]? = some o') (hne : ∀ (k : Nat), k ≠ b → k < w.heap.size → w'.heap[k]? = w.heap[k]?) : Sat W0 w' C' := by
  obtain ⟨l, r, h1, h2⟩ := u.split
  have hbin : (b, o) ∈ C.flatten := by rw [h1]; simp
  have hbge := (h.own _ hbin).1
  have hn := h.nodup
  rw [h1] at hn
  simp only [List.map_append, List.map_cons] at hn
  refine ⟨hos.trans h.os, htape.trans h.tape, hout.trans h.output, Nat.le_trans h.size hsz, ?_, ?_, ?_⟩
  · intro k hk
    rw [hne k (by simp only at hbge; omega) (Nat.lt_of_lt_of_le hk h.size)]
    exact h.base k hk
  · rw [h2]; simpa using hn
  · intro p hp
    rw [h2] at hp
    rcases List.mem_append.1 hp with hp | hp
    · have hpC : p ∈ C.flatten := by rw [h1]; exact List.mem_append_left _ hp
      have hpo := h.own p hpC
      have hpne : p.1 ≠ b := by
        intro e
        have := (List.nodup_append.1 hn).2.2 p.1 (List.mem_map.2 ⟨p, hp, rfl⟩) b (by simp)
        exact this e
      have hlt : p.1 < w.heap.size := (Array.getElem?_eq_some_iff.1 hpo.2).1
      exact ⟨hpo.1, (hne _ hpne hlt).trans hpo.2⟩
    · rcases List.mem_cons.1 hp with rfl | hp
      · exact ⟨hbge, hb⟩
      · have hpC : p ∈ C.flatten := by rw [h1]; simp [hp]
        have hpo := h.own p hpC
        have hpne : p.1 ≠ b := by
          intro e
          have h3 := (List.nodup_cons.1 (List.nodup_append.1 hn).2.1).1
          exact h3 (e ▸ List.mem_map.2 ⟨p, hp, rfl⟩)
        have hlt : p.1 < w.heap.size := (Array.getElem?_eq_some_iff.1 hpo.2).1
        exact ⟨hpo.1, (hne _ hpne hlt).trans hpo.2⟩
theorem Sat.alloc {W0 w : World} {C : Heap} (h : Sat W0 w C) (o : Obj) : Sat W0 (w.alloc o) ([(w.heap.size, o)] :: C) := by
  have he := Ext.alloc w o
  have h' := h.ext he
  refine ⟨h'.os, h'.tape, h'.output, h'.size, h'.base, ?_, ?_⟩
  · simp only [List.flatten_cons, List.map_cons, List.cons_append, List.nil_append, List.nodup_cons]
    refine ⟨?_, h.nodup⟩
    intro hm
    obtain ⟨p, hp, hpe⟩ := List.mem_map.1 hm
    have hlt : p.1 < w.heap.size := (Array.getElem?_eq_some_iff.1 (h.own p hp).2).1
    omega
  · intro p hp
    simp only [List.flatten_cons, List.cons_append, List.nil_append, List.mem_cons] at hp
    rcases hp with rfl | hp
    · exact ⟨h.size, by rw [heap_alloc_new]⟩
    · exact h'.own p hp
theorem Sat.full {W0 w : World} {C : Heap} (h : Sat W0 w C) :
    ∃ X : List Blk, Sat W0 w (X :: C) ∧ ∀ w', Sat W0 w' (X :: C) → Ext w w' := by
  let X : List Blk := (((List.range w.heap.size).filter fun k => decide (W0.heap.size ≤ k) && !((C.flatten.map Prod.fst).contains k)).map fun k => (k, (w.heap[k]?).getD default))
  have hX : ∀ p ∈ X, W0.heap.size ≤ p.1 ∧ p.1 ∉ C.flatten.map Prod.fst ∧ w.heap[p.1]? = some p.2 := by
    intro p hp
    obtain ⟨k, hk, rfl⟩ := List.mem_map.1 hp
    rw [List.mem_filter, List.mem_range] at hk
    obtain ⟨hk1, hk2⟩ := hk
    simp only [Bool.and_eq_true, decide_eq_true_eq, Bool.not_eq_true', List.contains_eq_mem, decide_eq_false_iff_not] at hk2
    refine ⟨hk2.1, hk2.2, ?_⟩
    simp [hk1]
  have hXn : (X.map Prod.fst).Nodup := by
    have : X.map Prod.fst = (List.range w.heap.size).filter fun k => decide (W0.heap.size ≤ k) && !((C.flatten.map Prod.fst).contains k) := by
      simp only [X, List.map_map]
      exact List.map_id'' (fun _ => rfl) _
    rw [this]
    exact List.nodup_range.filter _
  refine ⟨X, ⟨h.os, h.tape, h.output, h.size, h.base, ?_, ?_⟩, ?_⟩
  · simp only [List.flatten_cons, List.map_append]
    refine List.nodup_append.2 ⟨hXn, h.nodup, ?_⟩
    intro a ha b hb hab
    obtain ⟨p, hp, rfl⟩ := List.mem_map.1 ha
    exact (hX p hp).2.1 (hab ▸ hb)
  · intro p hp
    rw [List.flatten_cons] at hp
    rcases List.mem_append.1 hp with hp | hp
    · exact ⟨(hX p hp).1, (hX p hp).2.2⟩
    · exact h.own p hp
  · intro w' h'
    refine ⟨h'.os.trans h.os.symm, h'.tape.trans h.tape.symm, h'.output.trans h.output.symm, ?_⟩
    intro k o hk
    have hlt : k < w.heap.size := (Array.getElem?_eq_some_iff.1 hk).1
    rcases Nat.lt_or_ge k W0.heap.size with hb | hb
    · rw [h'.base k hb, ← h.base k hb]; exact hk
    · by_cases hm : k ∈ C.flatten.map Prod.fst
      · obtain ⟨p, hp, rfl⟩ := List.mem_map.1 hm
        have h1 := (h.own p hp).2
        rw [h1] at hk
        rw [(h'.own p (by simp only [List.flatten_cons, List.mem_append]; exact .inr hp)).2]; exact hk
      · have hin : (k, (w.heap[k]?).getD default) ∈ X := by
          refine List.mem_map.2 ⟨k, ?_, rfl⟩
          rw [List.mem_filter, List.mem_range]
          refine ⟨hlt, ?_⟩
          simp only [Bool.and_eq_true, decide_eq_true_eq, Bool.not_eq_true', List.contains_eq_mem, decide_eq_false_iff_not]
          exact ⟨hb, hm⟩
        have h2 := (h'.own _ (by simp only [List.flatten_cons, List.mem_append]; exact .inl hin)).2
        simp only [hk, Option.getD_some] at h2
        exact h2
abbrev Env := List (Nat × Bool × Value)
def get : Env → Nat → Option (Bool × Value)
  | [], _ => none
  | (t, g, v) :: r, s => bif Nat.beq t s then some (g, v) else get r s
def look (e : Env) : Operand → Option (Bool × Value)
  | .tmp t => get e t
  | .const v => some (true, v)
  | .global g => some (true, .pointer (some ⟨g, 0, none⟩))
  | .func f => some (true, .func (.func f) #[] #[])
structure Has (n : Nat) (a : Act) (e : Env) : Prop where
  defers : a.defers = []
  size : a.tmps.size = n
  slot : ∀ t g v, get e t = some (g, v) → a.tmps[t]? = some (bif g then v else undef)
def ext (d : Option Nat) (g : Bool) (v : Value) (e : Env) : Env :=
  match d with
  | some d => (d, g, v) :: e
  | none => e
theorem Has.look {n : Nat} {a : Act} {e : Env} (h : Has n a e) {x : Operand} {v : Value} (hx : Eng.look e x = some (true, v)) : a.eval x = v := by
  cases x with
  | tmp t =>
    have := h.slot t true v hx
    simp [Act.eval, this]
  | const c => simpa [Eng.look, Act.eval] using hx
  | global g => simpa [Eng.look, Act.eval] using hx
  | func f => simpa [Eng.look, Act.eval] using hx
theorem Has.put {n : Nat} {a : Act} {e : Env} (h : Has n a e) {d : Option Nat} (hd : ∀ t, d = some t → t < n) {g : Bool} {v u : Value}
    (hu : u = bif g then v else undef) : Has n (a.put d u) (ext d g v e) := by
  cases d with
  | none => exact h
  | some d =>
    refine ⟨h.defers, by simp [Act.put, h.size], ?_⟩
    intro t g' v' ht
    simp only [ext, get] at ht
    by_cases hdt : d = t
    · subst hdt
      simp only [Nat.beq_refl, cond_true, Option.some.injEq, Prod.mk.injEq] at ht
      obtain ⟨rfl, rfl⟩ := ht
      have : d < a.tmps.size := by rw [h.size]; exact hd d rfl
      simp [Act.put, this, hu]
    · have hb : Nat.beq d t = false := by
        cases hbb : Nat.beq d t with
        | false => rfl
        | true => exact absurd (Nat.eq_of_beq_eq_true hbb) hdt
      simp only [hb, cond_false] at ht
      simp only [Act.put]
      rw [Array.getElem?_setIfInBounds_ne hdt]
      exact h.slot t g' v' ht
theorem get_ext_ne {d : Option Nat} {g : Bool} {v : Value} {e : Env} {t : Nat} (h : d ≠ some t) : get (ext d g v e) t = get e t := by
  cases d with
  | none => rfl
  | some d =>
    have hdt : d ≠ t := fun e => h (e ▸ rfl)
    have hb : Nat.beq d t = false := by
      cases hbb : Nat.beq d t with
      | false => rfl
      | true => exact absurd (Nat.eq_of_beq_eq_true hbb) hdt
    simp [ext, get, hb]
def val (e : Env) (t : Nat) : Option (Bool × Value) := (get e t).map fun p => (p.1, bif p.1 then p.2 else undef)
def Eqv (e e' : Env) : Prop := ∀ t, val e t = val e' t
theorem Eqv.refl (e : Env) : Eqv e e := fun _ => rfl
theorem Eqv.symm {e e' : Env} (h : Eqv e e') : Eqv e' e := fun t => (h t).symm
theorem Eqv.trans {a b c : Env} (h : Eqv a b) (k : Eqv b c) : Eqv a c := fun t => (h t).trans (k t)
theorem Has.eqv {n : Nat} {a : Act} {e e' : Env} (h : Has n a e) (k : Eqv e e') : Has n a e' := by
  refine ⟨h.defers, h.size, ?_⟩
  intro t g v ht
  have hk := k t
  simp only [val, ht, Option.map_some] at hk
  cases hg : get e t with
  | none => simp [hg] at hk
  | some p =>
    obtain ⟨g', v'⟩ := p
    simp only [hg, Option.map_some, Option.some.injEq, Prod.mk.injEq] at hk
    obtain ⟨rfl, hv⟩ := hk
    rw [h.slot t g' v' hg, hv]
theorem val_ext {d : Option Nat} {g : Bool} {v : Value} {e : Env} (t : Nat) :
    val (ext d g v e) t = if d = some t then some (g, bif g then v else undef) else val e t := by
  by_cases h : d = some t
  · subst h
    simp [val, ext, get]
  · simp [val, get_ext_ne h, h]
theorem Eqv.ext {e e' : Env} (h : Eqv e e') (d : Option Nat) (g : Bool) (v : Value) : Eqv (ext d g v e) (ext d g v e') := fun t => by
  rw [val_ext, val_ext, h t]
theorem Eqv.ext_comm (e : Env) {d d' : Option Nat} (h : ∀ t, d = some t → d' ≠ some t) (g g' : Bool) (v v' : Value) :
    Eqv (Eng.ext d g v (Eng.ext d' g' v' e)) (Eng.ext d' g' v' (Eng.ext d g v e)) := fun t => by
  simp only [val_ext]
  by_cases h1 : d = some t
  · have := h t h1
    simp [h1, this]
  · simp [h1]
theorem Eqv.ext_val (e : Env) (d : Option Nat) (g : Bool) {v v' : Value} (h : g = true → v = v') : Eqv (Eng.ext d g v e) (Eng.ext d g v' e) := fun t => by
  simp only [val_ext]
  cases g with
  | false => simp
  | true => simp [h rfl]
abbrev Lk := Operand → Option (Bool × Value)
def AgreeL (lk : Lk) (o : Oper) (ρ : Operand → Value) : Prop := ∀ x ∈ o.op.operands, ∀ v, lk x = some (true, v) → ρ x = v
abbrev Agree (e : Env) (o : Oper) (ρ : Operand → Value) : Prop := AgreeL (look e) o ρ
theorem Has.agree {n : Nat} {a : Act} {e : Env} (h : Has n a e) (o : Oper) : Agree e o a.eval := fun _ _ _ hx => h.look hx
def PureL (P : Program) (lk : Lk) (o : Oper) (v : Value) : Prop :=
  ∀ ρ, AgreeL lk o ρ → ∀ w, (execOp ρ o).run P w = .ok (.value v) w
abbrev PureV (P : Program) (e : Env) (o : Oper) (v : Value) : Prop := PureL P (look e) o v
def StabV (W0 : World) (P : Program) (e : Env) (D : Heap) (o : Oper) (v : Value) : Prop :=
  ∀ ρ, Agree e o ρ → ∀ w, Sat W0 w D → (execOp ρ o).run P w = .ok (.value v) w
def QuietV (W0 : World) (P : Program) (e : Env) (C : Heap) (o : Oper) (v : Value) : Prop :=
  ∀ a : Act, Agree e o a.eval → ∀ w (next : Act → World → Prop) (Q : Exit → Act → World → Prop), Sat W0 w C →
    (∀ w', Ext w w' → next (a.put o.dst v) w') → o.wp P a w next Q
def MV (W0 : World) (P : Program) (e : Env) (C : Heap) (o : Oper) (R : Value → Heap → Prop) : Prop :=
  ∀ (X : List Blk) (a : Act), Agree e o a.eval → ∀ w (next : Act → World → Prop) (Q : Exit → Act → World → Prop), Sat W0 w (X :: C) →
    (∀ v C' w', R v C' → Sat W0 w' (X :: C') → next (a.put o.dst v) w') → o.wp P a w next Q
def FreshV (P : Program) (e : Env) (o : Oper) (mk : Nat → Value) (ob : Obj) : Prop :=
  ∀ ρ, Agree e o ρ → ∀ w, (execOp ρ o).run P w = .ok (.value (mk w.heap.size)) (w.alloc ob)
def gslot (ops : Array Oper) (j : Nat) : Option Nat := (ops[j]?).bind (·.dst)
def guardOk (ops : Array Oper) (e : Env) (g : Option (Nat × Bool)) (G : Bool) : Prop :=
  match g with
  | none => G = true
  | some (j, want) => ∃ t gj v b, gslot ops j = some t ∧ get e t = some (gj, v) ∧ (gj = true → v = .bool b) ∧ G = (gj && (b == want))
theorem guard_wanted {n : Nat} {ops : Array Oper} {a : Act} {e : Env} {o : Oper} {G : Bool} (h : Has n a e) (hg : guardOk ops e o.guard G) :
    Region.wanted o (yielded ops a.tmps) = G := by
  unfold Region.wanted
  unfold guardOk at hg
  cases hgd : o.guard with
  | none => simp only [hgd] at hg ⊢; exact hg.symm
  | some p =>
    obtain ⟨j, want⟩ := p
    simp only [hgd] at hg ⊢
    obtain ⟨t, gj, v, b, h1, h2, h4, rfl⟩ := hg
    have h3 := h.slot t gj v h2
    unfold gslot at h1
    unfold yielded
    simp only [h1, Option.bind_some, h3]
    cases gj with
    | true => rw [h4 rfl]; cases b <;> cases want <;> rfl
    | false => cases b <;> cases want <;> simp [undef]
theorem guardOk_unique {ops : Array Oper} {e : Env} {g : Option (Nat × Bool)} {G G' : Bool} (h : guardOk ops e g G) (h' : guardOk ops e g G') : G = G' := by
  unfold guardOk at h h'
  cases g with
  | none => simp only at h h'; rw [h, h']
  | some p =>
    obtain ⟨j, want⟩ := p
    simp only at h h'
    obtain ⟨t, gj, v, b, h1, h2, h3, rfl⟩ := h
    obtain ⟨t', gj', v', b', h1', h2', h3', rfl⟩ := h'
    rw [h1] at h1'
    cases h1'
    rw [h2] at h2'
    cases h2'
    cases gj with
    | false => rfl
    | true =>
      have h5 := (h3 rfl).symm.trans (h3' rfl)
      cases h5
      rfl
inductive Kind where
  | pure | stable | quiet | fresh | m
  deriving DecidableEq, Repr
section
variable (W0 : World) (P : Program) (D : Heap) (ops : Array Oper) (k : Env → Heap → Prop)
inductive Run : List (Kind × Oper) → Env → Heap → Prop
  | nil {e C} : k e C → Run [] e C
  | pure {o rest e C} (G : Bool) (v : Value) : guardOk ops e o.guard G → (G = true → PureV P e o v) → Run rest (ext o.dst G v e) C → Run ((.pure, o) :: rest) e C
  | stable {o rest e C} (G : Bool) (v : Value) : guardOk ops e o.guard G → (G = true → StabV W0 P e D o v) → Run rest (ext o.dst G v e) C → Run ((.stable, o) :: rest) e C
  | quiet {o rest e C} (G : Bool) (v : Value) : guardOk ops e o.guard G → (G = true → QuietV W0 P e C o v) → Run rest (ext o.dst G v e) C → Run ((.quiet, o) :: rest) e C
  | fresh {o rest e C} (G : Bool) (mk : Nat → Value) (ob : Obj) : guardOk ops e o.guard G → (G = true → FreshV P e o mk ob) →
      (G = true → ∀ b, (∃ w, Sat W0 w ([(b, ob)] :: C)) → Run rest (ext o.dst true (mk b) e) ([(b, ob)] :: C)) →
      (G = false → Run rest (ext o.dst true undef e) C) → Run ((.fresh, o) :: rest) e C
  | m {o rest e C} (G : Bool) (R : Value → Heap → Prop) : guardOk ops e o.guard G → (G = true → MV W0 P e C o R) → (G = true → ∀ v C', R v C' → Weak C' D) →
      (G = true → ∀ v C', R v C' → (∃ w, Sat W0 w C') → Run rest (ext o.dst true v e) C') →
      (G = false → Run rest (ext o.dst true undef e) C) → Run ((.m, o) :: rest) e C
end
theorem look_eqv {e e' : Env} (h : Eqv e e') {x : Operand} {v : Value} (hx : look e' x = some (true, v)) : look e x = some (true, v) := by
  cases x with
  | tmp t =>
    have ht := h t
    simp only [look] at hx ⊢
    simp only [val, hx, Option.map_some, cond_true] at ht
    cases hg : get e t with
    | none => simp [hg] at ht
    | some p =>
      obtain ⟨g, u⟩ := p
      simp only [hg, Option.map_some, Option.some.injEq, Prod.mk.injEq] at ht
      obtain ⟨rfl, hu⟩ := ht
      simpa using hu
  | _ => exact hx
theorem Agree.eqv {e e' : Env} {o : Oper} {ρ : Operand → Value} (h : Agree e o ρ) (k : Eqv e e') : Agree e' o ρ :=
  fun x hx v hv => h x hx v (look_eqv k hv)
theorem guardOk.eqv {ops : Array Oper} {e e' : Env} {g : Option (Nat × Bool)} {G : Bool} (h : guardOk ops e g G) (k : Eqv e e') : guardOk ops e' g G := by
  unfold guardOk at h ⊢
  cases g with
  | none => exact h
  | some p =>
    obtain ⟨j, want⟩ := p
    simp only at h ⊢
    obtain ⟨t, gj, v, b, h1, h2, h3, rfl⟩ := h
    have ht := k t
    simp only [val, h2, Option.map_some] at ht
    cases hg : get e' t with
    | none => simp [hg] at ht
    | some p =>
      obtain ⟨g', u⟩ := p
      simp only [hg, Option.map_some, Option.some.injEq, Prod.mk.injEq] at ht
      obtain ⟨rfl, hu⟩ := ht
      refine ⟨t, gj, u, b, h1, hg, ?_, rfl⟩
      intro hgj
      subst hgj
      simp only [cond_true] at hu
      rw [← hu]; exact h3 rfl
theorem guardOk_ext {ops : Array Oper} {e : Env} {o : Oper} {G : Bool} {d : Option Nat} {g : Bool} {v : Value} (hd : ∀ t, d = some t → t ∉ o.looksAt ops) :
    guardOk ops (ext d g v e) o.guard G ↔ guardOk ops e o.guard G := by
  unfold guardOk
  cases hg : o.guard with
  | none => simp
  | some p =>
    obtain ⟨j, want⟩ := p
    simp only
    have hne : ∀ t, gslot ops j = some t → d ≠ some t := fun t ht hdt => hd t hdt (by
      unfold gslot at ht
      simp [Oper.looksAt, hg, ht])
    constructor
    · rintro ⟨t, gj, u, b, h1, h2, h3⟩
      exact ⟨t, gj, u, b, h1, by rwa [get_ext_ne (hne t h1)] at h2, h3⟩
    · rintro ⟨t, gj, u, b, h1, h2, h3⟩
      exact ⟨t, gj, u, b, h1, by rwa [get_ext_ne (hne t h1)], h3⟩
theorem agree_ext {ops : Array Oper} {e : Env} {o : Oper} {ρ : Operand → Value} {d : Option Nat} {g : Bool} {v : Value} (hd : ∀ t, d = some t → t ∉ o.looksAt ops) :
    Agree (ext d g v e) o ρ ↔ Agree e o ρ := by
  have key : ∀ x ∈ o.op.operands, look (ext d g v e) x = look e x := by
    intro x hx
    cases x with
    | tmp t =>
      refine get_ext_ne fun hdt => hd t hdt ?_
      exact List.mem_append_left _ (List.mem_filterMap.2 ⟨.tmp t, by simpa using hx, rfl⟩)
    | _ => rfl
  constructor
  · intro h x hx u hu
    exact h x hx u (by rw [key x hx]; exact hu)
  · intro h x hx u hu
    exact h x hx u (by rw [← key x hx]; exact hu)
theorem PureV.ext {P : Program} {ops : Array Oper} {e : Env} {o : Oper} {u : Value} {d : Option Nat} {g : Bool} {v : Value} (hd : ∀ t, d = some t → t ∉ o.looksAt ops) :
    PureV P (ext d g v e) o u ↔ PureV P e o u :=
  ⟨fun h ρ ha => h ρ ((agree_ext hd).2 ha), fun h ρ ha => h ρ ((agree_ext hd).1 ha)⟩
theorem StabV.ext {W0 : World} {P : Program} {ops : Array Oper} {e : Env} {D : Heap} {o : Oper} {u : Value} {d : Option Nat} {g : Bool} {v : Value} (hd : ∀ t, d = some t → t ∉ o.looksAt ops) :
    StabV W0 P (ext d g v e) D o u ↔ StabV W0 P e D o u :=
  ⟨fun h ρ ha => h ρ ((agree_ext hd).2 ha), fun h ρ ha => h ρ ((agree_ext hd).1 ha)⟩
theorem QuietV.ext {W0 : World} {P : Program} {ops : Array Oper} {e : Env} {C : Heap} {o : Oper} {u : Value} {d : Option Nat} {g : Bool} {v : Value} (hd : ∀ t, d = some t → t ∉ o.looksAt ops) :
    QuietV W0 P (ext d g v e) C o u ↔ QuietV W0 P e C o u :=
  ⟨fun h a ha => h a ((agree_ext hd).2 ha), fun h a ha => h a ((agree_ext hd).1 ha)⟩
theorem MV.ext {W0 : World} {P : Program} {ops : Array Oper} {e : Env} {C : Heap} {o : Oper} {R : Value → Heap → Prop} {d : Option Nat} {g : Bool} {v : Value} (hd : ∀ t, d = some t → t ∉ o.looksAt ops) :
    MV W0 P (ext d g v e) C o R ↔ MV W0 P e C o R :=
  ⟨fun h X a ha => h X a ((agree_ext hd).2 ha), fun h X a ha => h X a ((agree_ext hd).1 ha)⟩
theorem FreshV.ext {P : Program} {ops : Array Oper} {e : Env} {o : Oper} {mk : Nat → Value} {ob : Obj} {d : Option Nat} {g : Bool} {v : Value} (hd : ∀ t, d = some t → t ∉ o.looksAt ops) :
    FreshV P (ext d g v e) o mk ob ↔ FreshV P e o mk ob :=
  ⟨fun h ρ ha => h ρ ((agree_ext hd).2 ha), fun h ρ ha => h ρ ((agree_ext hd).1 ha)⟩
theorem PureV.eqv {P : Program} {e e' : Env} {o : Oper} {v : Value} (h : PureV P e o v) (k : Eqv e e') : PureV P e' o v := fun ρ ha => h ρ (Agree.eqv ha k.symm)
theorem StabV.eqv {W0 : World} {P : Program} {e e' : Env} {D : Heap} {o : Oper} {v : Value} (h : StabV W0 P e D o v) (k : Eqv e e') : StabV W0 P e' D o v := fun ρ ha => h ρ (Agree.eqv ha k.symm)
theorem QuietV.eqv {W0 : World} {P : Program} {e e' : Env} {C : Heap} {o : Oper} {v : Value} (h : QuietV W0 P e C o v) (k : Eqv e e') : QuietV W0 P e' C o v := fun a ha => h a (Agree.eqv ha k.symm)
theorem MV.eqv {W0 : World} {P : Program} {e e' : Env} {C : Heap} {o : Oper} {R : Value → Heap → Prop} (h : MV W0 P e C o R) (k : Eqv e e') : MV W0 P e' C o R := fun X a ha => h X a (Agree.eqv ha k.symm)
theorem FreshV.eqv {P : Program} {e e' : Env} {o : Oper} {mk : Nat → Value} {ob : Obj} (h : FreshV P e o mk ob) (k : Eqv e e') : FreshV P e' o mk ob := fun ρ ha => h ρ (Agree.eqv ha k.symm)
theorem MV.frame {W0 : World} {P : Program} {e : Env} {C : Heap} {o : Oper} {R : Value → Heap → Prop} (h : MV W0 P e C o R) (c : List Blk) : MV W0 P e (c :: C) o (fun v D => ∃ C', R v C' ∧ D = c :: C') := fun X a ha w next Q hw hn =>
  h (X ++ c) a ha w next Q (hw.weak (Weak.join X c C)) fun v C' w' hr hs => hn v (c :: C') w' ⟨C', hr, rfl⟩ (hs.weak (Weak.part X c C'))
theorem MV.weak {W0 : World} {P : Program} {e : Env} {C C' : Heap} {o : Oper} {R : Value → Heap → Prop} (h : MV W0 P e C' o R) (k : Weak C C') : MV W0 P e C o R := fun X a ha w next Q hw hn =>
  h X a ha w next Q (hw.weak (k.cons X)) hn
theorem QuietV.weak {W0 : World} {P : Program} {e : Env} {C C' : Heap} {o : Oper} {v : Value} (h : QuietV W0 P e C' o v) (k : Weak C C') : QuietV W0 P e C o v := fun a ha w next Q hw hn =>
  h a ha w next Q (hw.weak k) hn
section
variable {W0 : World} {P : Program} {D : Heap} {ops : Array Oper} {k : Env → Heap → Prop}
theorem Run.eqv (hk : ∀ e e' C, Eqv e e' → k e C → k e' C) {zs : List (Kind × Oper)} {e e' : Env} {C : Heap} (h : Run W0 P D ops k zs e C) (he : Eqv e e') : Run W0 P D ops k zs e' C := by
  induction h generalizing e' with
  | nil h => exact .nil (hk _ _ _ he h)
  | pure G v hg hv _ ih => exact .pure G v (hg.eqv he) (fun h => (hv h).eqv he) (ih (he.ext _ _ _))
  | stable G v hg hv _ ih => exact .stable G v (hg.eqv he) (fun h => (hv h).eqv he) (ih (he.ext _ _ _))
  | quiet G v hg hv _ ih => exact .quiet G v (hg.eqv he) (fun h => (hv h).eqv he) (ih (he.ext _ _ _))
  | fresh G mk ob hg hv _ _ ih1 ih2 => exact .fresh G mk ob (hg.eqv he) (fun h => (hv h).eqv he) (fun h b hw => ih1 h b hw (he.ext _ _ _)) (fun h => ih2 h (he.ext _ _ _))
  | m G R hg hv hD _ _ ih1 ih2 => exact .m G R (hg.eqv he) (fun h => (hv h).eqv he) hD (fun h v C' hr hw => ih1 h v C' hr hw (he.ext _ _ _)) (fun h => ih2 h (he.ext _ _ _))
theorem Run.weak (hk : ∀ e C C', k e C' → Weak C C' → k e C) {zs : List (Kind × Oper)} {e : Env} {C' : Heap} (h : Run W0 P D ops k zs e C') {C : Heap} (hC : Weak C C') : Run W0 P D ops k zs e C := by
  induction h generalizing C with
  | nil h => exact .nil (hk _ _ _ h hC)
  | pure G v hg hv _ ih => exact .pure G v hg hv (ih hC)
  | stable G v hg hv _ ih => exact .stable G v hg hv (ih hC)
  | quiet G v hg hv _ ih => exact .quiet G v hg (fun h => (hv h).weak hC) (ih hC)
  | fresh G mk ob hg hv _ _ ih1 ih2 => exact .fresh G mk ob hg hv (fun h b hw => ih1 h b (by obtain ⟨w, hw⟩ := hw; exact ⟨w, hw.weak (hC.cons _)⟩) (hC.cons _)) (fun h => ih2 h hC)
  | m G R hg hv hD h1 _ _ ih2 => exact .m G R hg (fun h => (hv h).weak hC) hD h1 (fun h => ih2 h hC)
def Cons (W0 : World) (n : Nat) (e : Env) (C : Heap) : Prop := ∃ a w, Has n a e ∧ Sat W0 w C
theorem wp_some {o : Oper} {a : Act} {w : World} {next : Act → World → Prop} (h : o.wp P a w next (fun _ _ _ => False)) : ∃ a' w', next a' w' := by
  unfold Oper.wp at h
  generalize (execOp a.eval o).run P w = r at h
  cases r with
  | ok n w' =>
    cases n <;> simp only [Oper.upon] at h <;> first
      | exact ⟨_, _, h⟩
      | (obtain ⟨e, w'', fr, hR, _⟩ := h []
         cases e with
         | returned v => exact ⟨_, _, hR⟩
         | panicked c => exact hR.elim
         | outgrown => obtain ⟨_, _, hf⟩ := hR; exact hf.elim)
      | (obtain ⟨v, w'', hR, _⟩ := h default []
         exact ⟨_, _, hR⟩)
  | halt x w' => cases x <;> simp only [Oper.upon] at h
theorem MV.some {n : Nat} {e : Env} {C : Heap} {o : Oper} {R : Value → Heap → Prop} (h : MV W0 P e C o R) {a : Act} (ha : Has n a e) {w : World} (hw : Sat W0 w C) :
    ∃ v C', R v C' ∧ ∃ w', Sat W0 w' C' := by
  have := h [] a (ha.agree o) w (fun _ _ => ∃ v C', R v C' ∧ ∃ w', Sat W0 w' C') (fun _ _ _ => False) (hw.weak (Weak.nil C)) (fun v C' w' hr hs => ⟨v, C', hr, w', hs.weak (Weak.skip _ _)⟩)
  obtain ⟨_, _, h⟩ := wp_some this
  exact h
def indep : Kind → Kind → Bool
  | .pure, _ => true
  | _, .pure => true
  | .stable, _ => true
  | _, .stable => true
  | .quiet, .quiet => true
  | _, .fresh => true
  | _, _ => false
theorem FreshV.unique {n : Nat} {e : Env} {o : Oper} {mk mk' : Nat → Value} {ob ob' : Obj} {a : Act} (ha : Has n a e) (h : FreshV P e o mk ob) (h' : FreshV P e o mk' ob') : ob = ob' ∧ ∀ b, mk b = mk' b := by
  have key : ∀ b, ob = ob' ∧ mk b = mk' b := fun b => by
    let w : World := { (default : World) with heap := Array.replicate b default }
    have h1 := h a.eval (ha.agree o) w
    have h2 := h' a.eval (ha.agree o) w
    rw [h1] at h2
    simp only [Result.ok.injEq, Next.value.injEq] at h2
    obtain ⟨h3, h4⟩ := h2
    have hs : w.heap.size = b := by simp [w]
    rw [hs] at h3
    refine ⟨?_, h3⟩
    have h5 : (w.alloc ob).heap[w.heap.size]? = (w.alloc ob').heap[w.heap.size]? := by rw [h4]
    rw [heap_alloc_new, heap_alloc_new] at h5
    exact Option.some.inj h5
  exact ⟨(key 0).1, fun b => (key b).2⟩
theorem PureV.unique {n : Nat} {e : Env} {o : Oper} {v v' : Value} {a : Act} (ha : Has n a e) (h : PureV P e o v) (h' : PureV P e o v') : v = v' := by
  have h1 := h a.eval (ha.agree o) default
  have h2 := h' a.eval (ha.agree o) default
  rw [h1] at h2
  cases h2
  rfl
theorem StabV.unique {n : Nat} {e : Env} {o : Oper} {v v' : Value} {a : Act} (ha : Has n a e) {w : World} (hw : Sat W0 w D) (h : StabV W0 P e D o v) (h' : StabV W0 P e D o v') : v = v' := by
  have h1 := h a.eval (ha.agree o) w hw
  have h2 := h' a.eval (ha.agree o) w hw
  rw [h1] at h2
  cases h2
  rfl
def Early (W0 : World) (P : Program) (D : Heap) (ops : Array Oper) (e : Env) (ky : Kind) (oy : Oper) : Prop :=
  (∃ Gy vy, guardOk ops e oy.guard Gy ∧ (Gy = true → PureV P e oy vy) ∧ ky = .pure) ∨ (∃ Gy vy, guardOk ops e oy.guard Gy ∧ (Gy = true → StabV W0 P e D oy vy) ∧ ky = .stable) ∨
    (∃ Gy mk ob, guardOk ops e oy.guard Gy ∧ (Gy = true → FreshV P e oy mk ob) ∧ ky = .fresh)
theorem Run.swap {n : Nat} (hk : ∀ e e' C, Eqv e e' → k e C → k e' C) (hkw : ∀ e C C', k e C' → Weak C C' → k e C) {kx ky : Kind} {ox oy : Oper} {rest : List (Kind × Oper)} {e : Env} {C : Heap}
    (hap : ox.apart ops oy = true) (hin : indep kx ky = true) (hc : Cons W0 n e C) (hD : Weak C D)
    (h : Run W0 P D ops k ((kx, ox) :: (ky, oy) :: rest) e C) : Run W0 P D ops k ((ky, oy) :: (kx, ox) :: rest) e C := by
  obtain ⟨hxy, hne, hyx⟩ := Oper.apart_spec hap
  have hcomm : ∀ (g g' : Bool) (v v' : Value) (e : Env), Eqv (Eng.ext oy.dst g' v' (Eng.ext ox.dst g v e)) (Eng.ext ox.dst g v (Eng.ext oy.dst g' v' e)) := fun g g' v v' e =>
    (Eqv.ext_comm e hne g g' v v').symm
  obtain ⟨a, w, ha, hw⟩ := hc
  have early : ∀ v C', (ky = .quiet → False) → (ky = .m → False) → Run W0 P D ops k ((ky, oy) :: rest) (Eng.ext ox.dst true v e) C' → Early W0 P D ops e ky oy := by
    intro v C' h1 h2 h
    cases h with
    | pure Gy vy hgy hvy hy => exact .inl ⟨Gy, vy, (guardOk_ext hxy).1 hgy, fun h => (PureV.ext hxy).1 (hvy h), rfl⟩
    | stable Gy vy hgy hvy hy => exact .inr (.inl ⟨Gy, vy, (guardOk_ext hxy).1 hgy, fun h => (StabV.ext hxy).1 (hvy h), rfl⟩)
    | fresh Gy mk ob hgy hvy hy1 hy2 => exact .inr (.inr ⟨Gy, mk, ob, (guardOk_ext hxy).1 hgy, fun h => (FreshV.ext hxy).1 (hvy h), rfl⟩)
    | quiet Gy vy hgy hvy hy => exact (h1 rfl).elim
    | m Gy R hgy hvy hDy hy1 hy2 => exact (h2 rfl).elim
  have stepP : ∀ {Gy : Bool} {vy : Value}, guardOk ops e oy.guard Gy → (Gy = true → PureV P e oy vy) → ∀ v C', Run W0 P D ops k ((.pure, oy) :: rest) (Eng.ext ox.dst true v e) C' → Run W0 P D ops k rest (Eng.ext ox.dst true v (Eng.ext oy.dst Gy vy e)) C' := by
    intro Gy vy hgy hvy v C' h
    cases h with
    | pure Gy' vy' hgy' hvy' hy =>
      have hG : Gy' = Gy := guardOk_unique ((guardOk_ext hxy).1 hgy') hgy
      subst hG
      have hvv : Gy' = true → vy' = vy := fun h => PureV.unique ha ((PureV.ext hxy).1 (hvy' h)) (hvy h)
      exact (hy.eqv hk (Eqv.ext_val _ _ _ hvv)).eqv hk (hcomm _ _ _ _ _)
  have stepS : ∀ {Gy : Bool} {vy : Value}, guardOk ops e oy.guard Gy → (Gy = true → StabV W0 P e D oy vy) → ∀ v C', Run W0 P D ops k ((.stable, oy) :: rest) (Eng.ext ox.dst true v e) C' → Run W0 P D ops k rest (Eng.ext ox.dst true v (Eng.ext oy.dst Gy vy e)) C' := by
    intro Gy vy hgy hvy v C' h
    cases h with
    | stable Gy' vy' hgy' hvy' hy =>
      have hG : Gy' = Gy := guardOk_unique ((guardOk_ext hxy).1 hgy') hgy
      subst hG
      have hvv : Gy' = true → vy' = vy := fun h => StabV.unique ha (hw.weak hD) ((StabV.ext hxy).1 (hvy' h)) (hvy h)
      exact (hy.eqv hk (Eqv.ext_val _ _ _ hvv)).eqv hk (hcomm _ _ _ _ _)
  have stepF : ∀ {Gy : Bool} {mk : Nat → Value} {ob : Obj}, guardOk ops e oy.guard Gy → (Gy = true → FreshV P e oy mk ob) → ∀ v C', Run W0 P D ops k ((.fresh, oy) :: rest) (Eng.ext ox.dst true v e) C' →
      (Gy = true → ∀ b, (∃ w, Sat W0 w ([(b, ob)] :: C')) → Run W0 P D ops k rest (Eng.ext ox.dst true v (Eng.ext oy.dst true (mk b) e)) ([(b, ob)] :: C')) ∧
      (Gy = false → Run W0 P D ops k rest (Eng.ext ox.dst true v (Eng.ext oy.dst true undef e)) C') := by
    intro Gy mk ob hgy hvy v C' h
    cases h with
    | fresh Gy' mk' ob' hgy' hvy' hy1 hy2 =>
      have hG : Gy' = Gy := guardOk_unique ((guardOk_ext hxy).1 hgy') hgy
      subst hG
      refine ⟨fun hG b hb => ?_, fun hG => (hy2 hG).eqv hk (hcomm _ _ _ _ _)⟩
      obtain ⟨rfl, hm⟩ := FreshV.unique ha ((FreshV.ext hxy).1 (hvy' hG)) (hvy hG)
      rw [← hm b]
      exact (hy1 hG b hb).eqv hk (hcomm _ _ _ _ _)
  cases h with
  | pure Gx vx hgx hvx hx =>
    cases hx with
    | pure Gy vy hgy hvy hy =>
      exact .pure Gy vy ((guardOk_ext hxy).1 hgy) (fun h => (PureV.ext hxy).1 (hvy h)) (.pure Gx vx ((guardOk_ext hyx).2 hgx) (fun h => (PureV.ext hyx).2 (hvx h)) (hy.eqv hk (hcomm _ _ _ _ _)))
    | stable Gy vy hgy hvy hy =>
      exact .stable Gy vy ((guardOk_ext hxy).1 hgy) (fun h => (StabV.ext hxy).1 (hvy h)) (.pure Gx vx ((guardOk_ext hyx).2 hgx) (fun h => (PureV.ext hyx).2 (hvx h)) (hy.eqv hk (hcomm _ _ _ _ _)))
    | quiet Gy vy hgy hvy hy =>
      exact .quiet Gy vy ((guardOk_ext hxy).1 hgy) (fun h => (QuietV.ext hxy).1 (hvy h)) (.pure Gx vx ((guardOk_ext hyx).2 hgx) (fun h => (PureV.ext hyx).2 (hvx h)) (hy.eqv hk (hcomm _ _ _ _ _)))
    | fresh Gy mk ob hgy hvy hy1 hy2 =>
      exact .fresh Gy mk ob ((guardOk_ext hxy).1 hgy) (fun h => (FreshV.ext hxy).1 (hvy h))
        (fun h b hb => .pure Gx vx ((guardOk_ext hyx).2 hgx) (fun h => (PureV.ext hyx).2 (hvx h)) ((hy1 h b hb).eqv hk (hcomm _ _ _ _ _)))
        (fun h => .pure Gx vx ((guardOk_ext hyx).2 hgx) (fun h => (PureV.ext hyx).2 (hvx h)) ((hy2 h).eqv hk (hcomm _ _ _ _ _)))
    | m Gy R hgy hvy hDy hy1 hy2 =>
      exact .m Gy R ((guardOk_ext hxy).1 hgy) (fun h => (MV.ext hxy).1 (hvy h)) hDy
        (fun h v C' hr hw => .pure Gx vx ((guardOk_ext hyx).2 hgx) (fun h => (PureV.ext hyx).2 (hvx h)) ((hy1 h v C' hr hw).eqv hk (hcomm _ _ _ _ _)))
        (fun h => .pure Gx vx ((guardOk_ext hyx).2 hgx) (fun h => (PureV.ext hyx).2 (hvx h)) ((hy2 h).eqv hk (hcomm _ _ _ _ _)))
  | stable Gx vx hgx hvx hx =>
    cases hx with
    | pure Gy vy hgy hvy hy =>
      exact .pure Gy vy ((guardOk_ext hxy).1 hgy) (fun h => (PureV.ext hxy).1 (hvy h)) (.stable Gx vx ((guardOk_ext hyx).2 hgx) (fun h => (StabV.ext hyx).2 (hvx h)) (hy.eqv hk (hcomm _ _ _ _ _)))
    | stable Gy vy hgy hvy hy =>
      exact .stable Gy vy ((guardOk_ext hxy).1 hgy) (fun h => (StabV.ext hxy).1 (hvy h)) (.stable Gx vx ((guardOk_ext hyx).2 hgx) (fun h => (StabV.ext hyx).2 (hvx h)) (hy.eqv hk (hcomm _ _ _ _ _)))
    | quiet Gy vy hgy hvy hy =>
      exact .quiet Gy vy ((guardOk_ext hxy).1 hgy) (fun h => (QuietV.ext hxy).1 (hvy h)) (.stable Gx vx ((guardOk_ext hyx).2 hgx) (fun h => (StabV.ext hyx).2 (hvx h)) (hy.eqv hk (hcomm _ _ _ _ _)))
    | fresh Gy mk ob hgy hvy hy1 hy2 =>
      exact .fresh Gy mk ob ((guardOk_ext hxy).1 hgy) (fun h => (FreshV.ext hxy).1 (hvy h))
        (fun h b hb => .stable Gx vx ((guardOk_ext hyx).2 hgx) (fun h => (StabV.ext hyx).2 (hvx h)) ((hy1 h b hb).eqv hk (hcomm _ _ _ _ _)))
        (fun h => .stable Gx vx ((guardOk_ext hyx).2 hgx) (fun h => (StabV.ext hyx).2 (hvx h)) ((hy2 h).eqv hk (hcomm _ _ _ _ _)))
    | m Gy R hgy hvy hDy hy1 hy2 =>
      exact .m Gy R ((guardOk_ext hxy).1 hgy) (fun h => (MV.ext hxy).1 (hvy h)) hDy
        (fun h v C' hr hw => .stable Gx vx ((guardOk_ext hyx).2 hgx) (fun h => (StabV.ext hyx).2 (hvx h)) ((hy1 h v C' hr hw).eqv hk (hcomm _ _ _ _ _)))
        (fun h => .stable Gx vx ((guardOk_ext hyx).2 hgx) (fun h => (StabV.ext hyx).2 (hvx h)) ((hy2 h).eqv hk (hcomm _ _ _ _ _)))
  | quiet Gx vx hgx hvx hx =>
    cases hx with
    | pure Gy vy hgy hvy hy =>
      exact .pure Gy vy ((guardOk_ext hxy).1 hgy) (fun h => (PureV.ext hxy).1 (hvy h)) (.quiet Gx vx ((guardOk_ext hyx).2 hgx) (fun h => (QuietV.ext hyx).2 (hvx h)) (hy.eqv hk (hcomm _ _ _ _ _)))
    | stable Gy vy hgy hvy hy =>
      exact .stable Gy vy ((guardOk_ext hxy).1 hgy) (fun h => (StabV.ext hxy).1 (hvy h)) (.quiet Gx vx ((guardOk_ext hyx).2 hgx) (fun h => (QuietV.ext hyx).2 (hvx h)) (hy.eqv hk (hcomm _ _ _ _ _)))
    | quiet Gy vy hgy hvy hy =>
      exact .quiet Gy vy ((guardOk_ext hxy).1 hgy) (fun h => (QuietV.ext hxy).1 (hvy h)) (.quiet Gx vx ((guardOk_ext hyx).2 hgx) (fun h => (QuietV.ext hyx).2 (hvx h)) (hy.eqv hk (hcomm _ _ _ _ _)))
    | fresh Gy mk ob hgy hvy hy1 hy2 =>
      exact .fresh Gy mk ob ((guardOk_ext hxy).1 hgy) (fun h => (FreshV.ext hxy).1 (hvy h))
        (fun h b hb => .quiet Gx vx ((guardOk_ext hyx).2 hgx) (fun h => (QuietV.ext hyx).2 ((hvx h).weak (Weak.skip _ _))) ((hy1 h b hb).eqv hk (hcomm _ _ _ _ _)))
        (fun h => .quiet Gx vx ((guardOk_ext hyx).2 hgx) (fun h => (QuietV.ext hyx).2 (hvx h)) ((hy2 h).eqv hk (hcomm _ _ _ _ _)))
    | m Gy R hgy hvy hDy hy1 hy2 => simp [indep] at hin
  | fresh Gx mkx obx hgx hvx hx1 hx2 =>
    have key : Early W0 P D ops e ky oy := by
      have h1 : ky = .quiet → False := by rintro rfl; simp [indep] at hin
      have h2 : ky = .m → False := by rintro rfl; simp [indep] at hin
      cases Gx with
      | true => exact early _ _ h1 h2 (hx1 rfl w.heap.size ⟨_, hw.alloc obx⟩)
      | false => exact early _ _ h1 h2 (hx2 rfl)
    rcases key with ⟨Gy, vy, hgy, hvy, rfl⟩ | ⟨Gy, vy, hgy, hvy, rfl⟩ | ⟨Gy, mk, ob, hgy, hvy, rfl⟩
    · exact .pure Gy vy hgy hvy (.fresh Gx mkx obx ((guardOk_ext hyx).2 hgx) (fun h => (FreshV.ext hyx).2 (hvx h)) (fun h b hb => stepP hgy hvy _ _ (hx1 h b hb)) (fun h => stepP hgy hvy _ _ (hx2 h)))
    · exact .stable Gy vy hgy hvy (.fresh Gx mkx obx ((guardOk_ext hyx).2 hgx) (fun h => (FreshV.ext hyx).2 (hvx h)) (fun h b hb => stepS hgy hvy _ _ (hx1 h b hb)) (fun h => stepS hgy hvy _ _ (hx2 h)))
    · refine .fresh Gy mk ob hgy hvy (fun hG b hb => ?_) (fun hG => ?_)
      · refine .fresh Gx mkx obx ((guardOk_ext hyx).2 hgx) (fun h => (FreshV.ext hyx).2 (hvx h)) (fun h b' hb' => ?_) (fun h => (stepF hgy hvy _ _ (hx2 h)).1 hG b hb)
        obtain ⟨w1, hw1⟩ := hb'
        have hsw := hw1.weak (Weak.swap _ _ _)
        exact ((stepF hgy hvy _ _ (hx1 h b' ⟨w1, hsw.weak (Weak.skip _ _)⟩)).1 hG b ⟨w1, hsw⟩).weak hkw (Weak.swap _ _ _)
      · exact .fresh Gx mkx obx ((guardOk_ext hyx).2 hgx) (fun h => (FreshV.ext hyx).2 (hvx h)) (fun h b' hb' => (stepF hgy hvy _ _ (hx1 h b' hb')).2 hG) (fun h => (stepF hgy hvy _ _ (hx2 h)).2 hG)
  | m Gx R hgx hvx hDx hx1 hx2 =>
    have key : Early W0 P D ops e ky oy := by
      have h1 : ky = .quiet → False := by rintro rfl; simp [indep] at hin
      have h2 : ky = .m → False := by rintro rfl; simp [indep] at hin
      cases Gx with
      | true =>
        obtain ⟨v, C', hr, hw'⟩ := (hvx rfl).some ha hw
        exact early _ _ h1 h2 (hx1 rfl v C' hr hw')
      | false => exact early _ _ h1 h2 (hx2 rfl)
    rcases key with ⟨Gy, vy, hgy, hvy, rfl⟩ | ⟨Gy, vy, hgy, hvy, rfl⟩ | ⟨Gy, mk, ob, hgy, hvy, rfl⟩
    · exact .pure Gy vy hgy hvy (.m Gx R ((guardOk_ext hyx).2 hgx) (fun h => (MV.ext hyx).2 (hvx h)) hDx (fun h v C' hr hw => stepP hgy hvy _ _ (hx1 h v C' hr hw)) (fun h => stepP hgy hvy _ _ (hx2 h)))
    · exact .stable Gy vy hgy hvy (.m Gx R ((guardOk_ext hyx).2 hgx) (fun h => (MV.ext hyx).2 (hvx h)) hDx (fun h v C' hr hw => stepS hgy hvy _ _ (hx1 h v C' hr hw)) (fun h => stepS hgy hvy _ _ (hx2 h)))
    · refine .fresh Gy mk ob hgy hvy (fun hG b hb => ?_) (fun hG => ?_)
      · refine .m Gx (fun v E => ∃ C', R v C' ∧ E = [(b, ob)] :: C') ((guardOk_ext hyx).2 hgx) (fun h => (MV.ext hyx).2 ((hvx h).frame _)) ?_ ?_ (fun h => (stepF hgy hvy _ _ (hx2 h)).1 hG b hb)
        · rintro h v _ ⟨C', hr, rfl⟩
          exact (hDx h v C' hr).drop
        · rintro h v _ ⟨C', hr, rfl⟩ ⟨w1, hw1⟩
          exact (stepF hgy hvy _ _ (hx1 h v C' hr ⟨w1, hw1.weak (Weak.skip _ _)⟩)).1 hG b ⟨w1, hw1⟩
      · exact .m Gx R ((guardOk_ext hyx).2 hgx) (fun h => (MV.ext hyx).2 (hvx h)) hDx (fun h v C' hr hw => (stepF hgy hvy _ _ (hx1 h v C' hr hw)).2 hG) (fun h => (stepF hgy hvy _ _ (hx2 h)).2 hG)
theorem Run.tail {n : Nat} {x : Kind × Oper} {A B : List (Kind × Oper)} {e : Env} {C : Heap} (hd : ∀ t, x.2.dst = some t → t < n) (hc : Cons W0 n e C) (hD : Weak C D)
    (hAB : ∀ e C, Cons W0 n e C → Weak C D → Run W0 P D ops k A e C → Run W0 P D ops k B e C) (h : Run W0 P D ops k (x :: A) e C) : Run W0 P D ops k (x :: B) e C := by
  obtain ⟨a, w, ha, hw⟩ := hc
  cases h with
  | pure G v hg hv hx => exact .pure G v hg hv (hAB _ _ ⟨a.put _ (bif G then v else undef), w, ha.put hd rfl, hw⟩ hD hx)
  | stable G v hg hv hx => exact .stable G v hg hv (hAB _ _ ⟨a.put _ (bif G then v else undef), w, ha.put hd rfl, hw⟩ hD hx)
  | quiet G v hg hv hx => exact .quiet G v hg hv (hAB _ _ ⟨a.put _ (bif G then v else undef), w, ha.put hd rfl, hw⟩ hD hx)
  | fresh G mk ob hg hv hx1 hx2 =>
    exact .fresh G mk ob hg hv (fun h b hw' => hAB _ _ (by obtain ⟨w', hs⟩ := hw'; exact ⟨a.put _ (mk b), w', ha.put hd rfl, hs⟩) hD.drop (hx1 h b hw'))
      (fun h => hAB _ _ ⟨a.put _ undef, w, ha.put hd rfl, hw⟩ hD (hx2 h))
  | m G R hg hv hDx hx1 hx2 =>
    exact .m G R hg hv hDx (fun h v C' hr hw' => hAB _ _ (by obtain ⟨w', hs⟩ := hw'; exact ⟨a.put _ v, w', ha.put hd rfl, hs⟩) (hDx h v C' hr) (hx1 h v C' hr hw'))
      (fun h => hAB _ _ ⟨a.put _ undef, w, ha.put hd rfl, hw⟩ hD (hx2 h))
theorem Run.bubble {n : Nat} (hk : ∀ e e' C, Eqv e e' → k e C → k e' C) (hkw : ∀ e C C', k e C' → Weak C C' → k e C) {i : Kind × Oper} {S2 : List (Kind × Oper)} :
    ∀ (S1 : List (Kind × Oper)) (e : Env) (C : Heap), (∀ x ∈ S1, (∀ t, x.2.dst = some t → t < n) ∧ x.2.apart ops i.2 = true ∧ indep x.1 i.1 = true) → Cons W0 n e C → Weak C D →
      Run W0 P D ops k (S1 ++ i :: S2) e C → Run W0 P D ops k (i :: (S1 ++ S2)) e C := by
  intro S1
  induction S1 with
  | nil => intro e C _ _ _ h; exact h
  | cons s S1 ih =>
    intro e C hS hc hD h
    have h1 := Run.tail (hS s (by simp)).1 hc hD (fun e C hc hD h => ih e C (fun x hx => hS x (by simp [hx])) hc hD h) h
    exact Run.swap hk hkw (hS s (by simp)).2.1 (hS s (by simp)).2.2 hc hD h1
theorem Run.head {n : Nat} {Q : Exit → Act → World → Prop} {K : Act → World → Prop} {x : Kind × Oper} {rest : List (Kind × Oper)} {e : Env} {C : Heap}
    (h : Run W0 P D ops k (x :: rest) e C) (hd : ∀ t, x.2.dst = some t → t < n) {X : List Blk} {a : Act} {w : World} (ha : Has n a e) (hw : Sat W0 w (X :: C)) (hD : Weak C D)
    (hK : ∀ e' C' a' w', Run W0 P D ops k rest e' C' → Has n a' e' → Sat W0 w' (X :: C') → Weak C' D → K a' w') :
    if Region.wanted x.2 (yielded ops a.tmps) then x.2.wp P a w K Q ∨ (x.2.asks P a w ∧ LetsOut Q) else K (a.put x.2.dst undef) w := by
  cases h with
  | @pure o _ _ _ G v hg hv hr =>
    simp only
    rw [guard_wanted ha hg]
    cases G with
    | true =>
      simp only [if_true]
      refine .inl ?_
      unfold Oper.wp
      rw [hv rfl a.eval (ha.agree o) w]
      exact hK _ _ _ _ hr (ha.put hd rfl) hw hD
    | false =>
      simp only [Bool.false_eq_true, if_false]
      exact hK _ _ _ _ hr (ha.put hd rfl) hw hD
  | @quiet o _ _ _ G v hg hv hr =>
    simp only
    rw [guard_wanted ha hg]
    cases G with
    | true =>
      simp only [if_true]
      exact .inl (hv rfl a (ha.agree o) w _ _ (hw.weak (Weak.skip X C)) fun w' hx => hK _ _ _ _ hr (ha.put hd rfl) (hw.ext hx) hD)
    | false =>
      simp only [Bool.false_eq_true, if_false]
      exact hK _ _ _ _ hr (ha.put hd rfl) hw hD
  | @stable o _ _ _ G v hg hv hr =>
    simp only
    rw [guard_wanted ha hg]
    cases G with
    | true =>
      simp only [if_true]
      refine .inl ?_
      unfold Oper.wp
      rw [hv rfl a.eval (ha.agree o) w ((hw.weak (Weak.skip X C)).weak hD)]
      exact hK _ _ _ _ hr (ha.put hd rfl) hw hD
    | false =>
      simp only [Bool.false_eq_true, if_false]
      exact hK _ _ _ _ hr (ha.put hd rfl) hw hD
  | @fresh o _ _ _ G mk ob hg hv hr1 hr2 =>
    simp only
    rw [guard_wanted ha hg]
    cases G with
    | true =>
      simp only [if_true]
      refine .inl ?_
      unfold Oper.wp
      rw [hv rfl a.eval (ha.agree o) w]
      have hs := (hw.alloc ob).weak (Weak.swap _ _ _)
      exact hK _ _ _ _ (hr1 rfl w.heap.size ⟨_, hs.weak (Weak.skip X _)⟩) (ha.put hd rfl) hs hD.drop
    | false =>
      simp only [Bool.false_eq_true, if_false]
      exact hK _ _ _ _ (hr2 rfl) (ha.put hd rfl) hw hD
  | @m o _ _ _ G R hg hv hDx hr1 hr2 =>
    simp only
    rw [guard_wanted ha hg]
    cases G with
    | true =>
      simp only [if_true]
      exact .inl (hv rfl X a (ha.agree o) w _ _ hw fun v C' w' hr hs => hK _ _ _ _ (hr1 rfl v C' hr ⟨w', hs.weak (Weak.skip X C')⟩) (ha.put hd rfl) hs (hDx rfl v C' hr))
    | false =>
      simp only [Bool.false_eq_true, if_false]
      exact hK _ _ _ _ (hr2 rfl) (ha.put hd rfl) hw hD
theorem Run.list {n : Nat} {X : List Blk} {Q : Exit → Act → World → Prop} (hk : ∀ e C a w, k e C → Has n a e → Sat W0 w (X :: C) → Q .normal a w) :
    ∀ (zs : List (Kind × Oper)) (e : Env) (C : Heap) (a : Act) (w : World), Run W0 P D ops k zs e C → (∀ x ∈ zs, ∀ t, x.2.dst = some t → t < n) →
      Has n a e → Sat W0 w (X :: C) → Weak C D → wpList P ops Q (zs.map Prod.snd) a w := by
  intro zs
  induction zs with
  | nil =>
    intro e C a w h _ ha hw _
    cases h with
    | nil h => exact hk _ _ a w h ha hw
  | cons x zs ih =>
    intro e C a w h hd ha hw hD
    have := h.head (Q := Q) (K := wpList P ops Q (zs.map Prod.snd)) (hd x (by simp)) ha hw hD (fun e' C' a' w' hr ha' hw' hD' => ih e' C' a' w' hr (fun y hy => hd y (by simp [hy])) ha' hw' hD')
    simpa only [List.map_cons, wpList] using this
def before (ops : Array Oper) : Nat → Nat → Nat → Bool
  | 0, _, _ => false
  | f + 1, x, i =>
    match ops[i]? with
    | none => false
    | some oi => oi.after.toList.any fun e => Region.binds .any e && (Nat.beq e.on x || (Nat.blt x e.on && before ops f x e.on))
theorem before_listed {p : Nat → Prop} (hcl : ∀ j oj, ops[j]? = some oj → p j → ∀ e ∈ oj.after, Region.binds .any e = true → p e.on) {x : Nat} :
    ∀ (f i : Nat) (oi : Oper), ops[i]? = some oi → (∀ e ∈ oi.after, Region.binds .any e = true → p e.on) → before ops f x i = true → p x := by
  intro f
  induction f with
  | zero => intro i oi _ _ h; cases h
  | succ f ih =>
    intro i oi hoi hall h
    unfold before at h
    rw [hoi] at h
    obtain ⟨e, he, hb⟩ := List.any_eq_true.1 h
    simp only [Bool.and_eq_true, Bool.or_eq_true] at hb
    have hp := hall e (by simpa using he) hb.1
    rcases hb.2 with h1 | h1
    · rw [← Nat.eq_of_beq_eq_true h1]; exact hp
    · cases hoe : ops[e.on]? with
      | none =>
        have h2 := h1.2
        cases f with
        | zero => cases h2
        | succ f => unfold before at h2; rw [hoe] at h2; cases h2
      | some oe => exact ih e.on oe hoe (fun e' he' hb' => hcl _ _ hoe hp e' he' hb') h1.2
def chk (n : Nat) (lab : List Kind) (ops : Array Oper) : Bool :=
  (List.range ops.size).all fun i =>
    match ops[i]? with
    | none => true
    | some oi =>
      (match oi.dst with | some d => Nat.blt d n | none => true) &&
      oi.after.toList.all (fun e => !Region.binds .any e || Nat.blt e.on i) &&
      (List.range i).all fun x =>
        oi.after.toList.any (fun e => Region.binds .any e && Nat.beq e.on x) ||
        (match ops[x]? with
         | some ox => ox.apart ops oi && indep (lab.getD x .m) (lab.getD i .m)
         | none => false) || before ops 12 x i
theorem chk_spec {n : Nat} {lab : List Kind} (h : chk n lab ops = true) {i : Nat} {oi : Oper} (hi : ops[i]? = some oi) :
    (∀ t, oi.dst = some t → t < n) ∧ (∀ e ∈ oi.after, Region.binds .any e = true → e.on < i) ∧
    ∀ x ox, x < i → ops[x]? = some ox → (∀ e ∈ oi.after, Region.binds .any e = true → e.on ≠ x) → before ops 12 x i ≠ true → ox.apart ops oi = true ∧ indep (lab.getD x .m) (lab.getD i .m) = true := by
  have hlt : i < ops.size := (Array.getElem?_eq_some_iff.1 hi).1
  have h1 := List.all_eq_true.1 h i (List.mem_range.2 hlt)
  simp only [hi, Bool.and_eq_true] at h1
  obtain ⟨⟨h2, h3⟩, h4⟩ := h1
  refine ⟨?_, ?_, ?_⟩
  · intro t ht
    rw [ht] at h2
    exact Nat.blt_eq.mp h2
  · intro e he hb
    have := List.all_eq_true.1 h3 e (by simpa using he)
    simp only [hb, Bool.not_true, Bool.false_or] at this
    exact Nat.blt_eq.mp this
  · intro x ox hx hox hno hnb
    have h5 := List.all_eq_true.1 h4 x (List.mem_range.2 hx)
    rw [Bool.or_eq_true, Bool.or_eq_true] at h5
    replace h5 := h5.resolve_right hnb
    rcases h5 with h5 | h5
    · obtain ⟨e, he, hb⟩ := List.any_eq_true.1 h5
      simp only [Bool.and_eq_true] at hb
      exact absurd (Nat.eq_of_beq_eq_true hb.2) (hno e (by simpa using he) hb.1)
    · simpa only [hox, Bool.and_eq_true] using h5
def opAt (lab : List Kind) (ops : Array Oper) (i : Nat) : Kind × Oper := (lab.getD i .m, (ops[i]?).getD default)
theorem Run.any {n : Nat} {X : List Blk} {Q : Exit → Act → World → Prop} (hk : ∀ e e' C, Eqv e e' → k e C → k e' C) (hkw : ∀ e C C', k e C' → Weak C C' → k e C) (hq : ∀ e C a w, k e C → Has n a e → Sat W0 w (X :: C) → Q .normal a w)
    {lab : List Kind} (hchk : chk n lab ops = true) :
    ∀ (fuel : Nat) (R : List Nat) (listed : Array Bool) (e : Env) (C : Heap) (a : Act) (w : World),
      listed.size = ops.size → (∀ j oj, ops[j]? = some oj → listed.getD j true = true → ∀ e ∈ oj.after, Region.binds .any e = true → listed.getD e.on true = true) →
      (∀ i, i ∈ R ↔ i < ops.size ∧ listed.getD i true = false) → R.Pairwise (· < ·) → R.length ≤ fuel →
      Run W0 P D ops k (R.map (opAt lab ops)) e C → Has n a e → Sat W0 w (X :: C) → Weak C D → wpAny P .any ops Q fuel listed a w := by
  intro fuel
  have hready : ∀ (R : List Nat) (listed : Array Bool), (∀ i, i ∈ R ↔ i < ops.size ∧ listed.getD i true = false) → ∀ i ∈ Region.ready .any ops listed, i ∈ R := by
    intro R listed hR i hi
    obtain ⟨h0, o, ho, _⟩ := mem_ready.1 hi
    exact (hR i).2 ⟨(Array.getElem?_eq_some_iff.1 ho).1, h0⟩
  induction fuel with
  | zero =>
    intro R listed e C a w hsz hcl hR hs hlen h ha hw hD
    have hnil : R = [] := List.eq_nil_of_length_eq_zero (by omega)
    subst hnil
    refine ⟨?_, ?_⟩
    · refine List.eq_nil_iff_forall_not_mem.2 fun i hi => ?_
      exact absurd (hready [] listed hR i hi) (by simp)
    · cases h with
      | nil h => exact hq _ _ _ _ h ha hw
  | succ fuel ih =>
    intro R listed e C a w hsz hcl hR hs hlen h ha hw hD
    refine ⟨?_, ?_⟩
    · intro hr
      cases R with
      | nil =>
        cases h with
        | nil h => exact hq _ _ _ _ h ha hw
      | cons i R =>
        exfalso
        obtain ⟨hi1, hi2⟩ := (hR i).1 (by simp)
        have hoi : ops[i]? = some ops[i] := Array.getElem?_eq_getElem hi1
        have hin : i ∈ Region.ready .any ops listed := by
          refine mem_ready.2 ⟨hi2, ops[i], hoi, fun e he hb => ?_⟩
          have hlt := (chk_spec hchk hoi).2.1 e he hb
          have hnot : e.on ∉ i :: R := by
            intro hm
            rcases List.mem_cons.1 hm with h1 | h1
            · omega
            · have := (List.pairwise_cons.1 hs).1 _ h1
              omega
          have h2 : ¬ (e.on < ops.size ∧ listed.getD e.on true = false) := fun h => hnot ((hR e.on).2 h)
          have h3 : e.on < listed.size := by omega
          simp only [Array.getD_eq_getD_getElem?, h3, Array.getElem?_eq_getElem, Option.getD_some, not_and, Bool.not_eq_false] at h2 ⊢
          exact h2 (by omega)
        rw [hr] at hin
        simp at hin
    · intro i hi
      have hiR := hready R listed hR i hi
      obtain ⟨S1, S2, rfl⟩ := List.append_of_mem hiR
      obtain ⟨h0, oi, hoi, hall⟩ := mem_ready.1 hi
      have hall' : ∀ e ∈ oi.after, Region.binds .any e = true → listed.getD e.on true = true := by
        intro e he hb
        have h3 := hall e he hb
        have hxs : e.on < listed.size := by
          have := (chk_spec hchk hoi).2.1 e he hb
          have := (Array.getElem?_eq_some_iff.1 hoi).1
          omega
        simp only [Array.getD_eq_getD_getElem?, hxs, Array.getElem?_eq_getElem, Option.getD_some] at h3 ⊢
        exact h3
      have hoat : opAt lab ops i = (lab.getD i .m, oi) := by simp [opAt, hoi]
      have hspec := chk_spec hchk hoi
      have hS1 : ∀ x ∈ S1, x < i := fun x hx => (List.pairwise_append.1 hs).2.2 x hx i (by simp)
      rw [List.map_append, List.map_cons] at h
      have hb := Run.bubble (n := n) hk hkw (i := opAt lab ops i) (S2 := S2.map (opAt lab ops)) (S1.map (opAt lab ops)) e C (by
        intro y hy
        obtain ⟨x, hx, rfl⟩ := List.mem_map.1 hy
        obtain ⟨hx1, hx2⟩ := (hR x).1 (by simp [hx])
        have hox : ops[x]? = some ops[x] := Array.getElem?_eq_getElem hx1
        have hxat : opAt lab ops x = (lab.getD x .m, ops[x]) := by simp [opAt, hox]
        rw [hxat, hoat]
        refine ⟨(chk_spec hchk hox).1, ?_⟩
        have := hspec.2.2 x ops[x] (hS1 x hx) hox (fun e he hb heq => by
          have h3 := hall e he hb
          have hxs : x < listed.size := by omega
          simp only [heq, Array.getD_eq_getD_getElem?, hxs, Array.getElem?_eq_getElem, Option.getD_some] at h3 hx2
          rw [hx2] at h3
          cases h3) (fun hbf => by
          have := before_listed (p := fun j => listed.getD j true = true) hcl 12 i oi hoi hall' hbf
          rw [hx2] at this
          cases this)
        exact this) ⟨a, w, ha, hw.weak (Weak.skip X C)⟩ hD h
      unfold wpOp
      simp only [hoi]
      have hh := hb.head (Q := Q) (K := wpAny P .any ops Q fuel (listed.setIfInBounds i true)) (by rw [hoat]; exact hspec.1) ha hw hD (by
        intro e' C' a' w' hr ha' hw' hD'
        rw [← List.map_append] at hr
        refine ih (S1 ++ S2) _ e' C' a' w' (by simpa using hsz) ?_ ?_ ?_ ?_ hr ha' hw' hD'
        · have hset : ∀ k, listed.getD k true = true → (listed.setIfInBounds i true).getD k true = true := by
            intro k hk
            by_cases hki : k = i
            · subst hki
              have hxs : k < listed.size := by have := ((hR k).1 hiR).1; omega
              simp [hxs]
            · rw [getD_set_ne true (Ne.symm hki)]; exact hk
          intro j oj hoj hj ed he hbb
          by_cases hji : j = i
          · subst hji
            rw [hoi] at hoj
            cases hoj
            exact hset _ (hall' ed he hbb)
          · rw [getD_set_ne true (Ne.symm hji)] at hj
            exact hset _ (hcl j oj hoj hj ed he hbb)
        · intro j
          have hj := hR j
          have hnd : i ∉ S1 ∧ i ∉ S2 := by
            refine ⟨fun h => absurd (hS1 i h) (by omega), fun h => ?_⟩
            have h4 := (List.pairwise_append.1 hs).2.1
            exact absurd ((List.pairwise_cons.1 h4).1 i h) (by omega)
          by_cases hji : j = i
          · subst hji
            have hxs : j < listed.size := by have := ((hR j).1 hiR).1; omega
            simp [hnd, hxs]
          · rw [getD_set_ne true (Ne.symm hji), ← hj]
            simp [hji]
        · have h4 := List.pairwise_append.1 hs
          refine List.pairwise_append.2 ⟨h4.1, (List.pairwise_cons.1 h4.2.1).2, fun x hx y hy => h4.2.2 x hx y (by simp [hy])⟩
        · simp only [List.length_append, List.length_cons] at hlen ⊢
          omega)
      rw [hoat] at hh
      exact hh
theorem Run.start {n : Nat} {X : List Blk} {Q : Exit → Act → World → Prop} (hk : ∀ e e' C, Eqv e e' → k e C → k e' C) (hkw : ∀ e C C', k e C' → Weak C C' → k e C) (hq : ∀ e C a w, k e C → Has n a e → Sat W0 w (X :: C) → Q .normal a w)
    {lab : List Kind} (hchk : chk n lab ops = true) {e : Env} {C : Heap} {a : Act} {w : World}
    (h : Run W0 P D ops k ((List.range ops.size).map (opAt lab ops)) e C) (ha : Has n a e) (hw : Sat W0 w (X :: C)) (hD : Weak C D) :
    wpAny P .any ops Q ops.size (Array.replicate ops.size false) a w := by
  refine Run.any hk hkw hq hchk ops.size (List.range ops.size) _ e C a w (by simp) ?_ ?_ List.pairwise_lt_range (by simp) h ha hw hD
  · intro j oj hoj hj
    have hlt := (Array.getElem?_eq_some_iff.1 hoj).1
    simp [hlt] at hj
  intro i
  simp only [List.mem_range]
  constructor
  · intro h; exact ⟨h, by simp [h]⟩
  · intro h; exact h.1
end
end Eng
namespace Eng
open Go
abbrev Kont := Exit → Env → Heap → Prop
section
variable (W0 : World) (P : Program) (n : Nat)
def lift (X : List Blk) (K : Kont) : Exit → Act → World → Prop := fun ex a w => ∃ e C, Has n a e ∧ Sat W0 w (X :: C) ∧ K ex e C
structure V (K : Kont) (c : Code) (e : Env) (C : Heap) : Prop where
  wp : ∀ X a w, Has n a e → Sat W0 w (X :: C) → c.wp P (lift W0 n X K) a w
def thenK (y : Code) (K : Kont) : Kont := fun ex e C =>
  match ex with
  | .normal => V W0 P n K y e C
  | ex => K ex e C
def blockK (id : Nat) (K : Kont) : Kont := fun ex e C =>
  match ex with
  | .exit id' => bif Nat.beq id' id then K .normal e C else K (.exit id') e C
  | ex => K ex e C
def Sub (e e' : Env) : Prop := ∀ t p, get e' t = some p → get e t = some p
def SubL (e : Env) : Env → Prop
  | [] => True
  | (t, p) :: r => get e t = some p ∧ SubL e r
def loopK {G : Type} (K : Kont) (E : G → Env) (H : G → Heap) (μ : G → Nat) (g : G) : Kont := fun ex e C =>
  match ex with
  | .normal => ∃ g', SubL e (E g') ∧ Weak C (H g') ∧ μ g' < μ g
  | ex => K ex e C
end
theorem SubL.sub {e : Env} : ∀ {e' : Env}, SubL e e' → Sub e e'
  | [], _ => fun t p h => by simp [get] at h
  | (s, p) :: r, h => fun t q hq => by
    obtain ⟨g, v⟩ := p
    simp only [get] at hq
    cases hb : Nat.beq s t with
    | true =>
      simp only [hb, cond_true, Option.some.injEq] at hq
      rw [← Nat.eq_of_beq_eq_true hb, ← hq]
      exact h.1
    | false =>
      simp only [hb, cond_false] at hq
      exact SubL.sub h.2 t q hq
theorem Has.sub {n : Nat} {a : Act} {e e' : Env} (h : Has n a e) (k : Sub e e') : Has n a e' :=
  ⟨h.defers, h.size, fun t g v ht => h.slot t g v (k t (g, v) ht)⟩
section
variable {W0 : World} {P : Program} {n : Nat} {K : Kont} {e : Env} {C : Heap}
theorem V.seq {x y : Code} (h : V W0 P n (thenK W0 P n y K) x e C) : V W0 P n K (.seq x y) e C :=
  ⟨fun X a w ha hw => wp_seq (wp_mono (h.wp X a w ha hw) fun ex a w hq => by
    obtain ⟨e, C, ha, hw, hk⟩ := hq
    cases ex with
    | normal => exact hk.wp X a w ha hw
    | _ => exact ⟨e, C, ha, hw, hk⟩)⟩
theorem V.skip (h : K .normal e C) : V W0 P n K .skip e C := ⟨fun _ _ _ ha hw => wp_skip ⟨e, C, ha, hw, h⟩⟩
theorem V.ret (h : K .ret e C) : V W0 P n K .ret e C := ⟨fun _ _ _ ha hw => wp_ret ⟨e, C, ha, hw, h⟩⟩
theorem V.exit {id : Nat} (h : K (.exit id) e C) : V W0 P n K (.exit id) e C := ⟨fun _ _ _ ha hw => wp_exit ⟨e, C, ha, hw, h⟩⟩
theorem V.cond {c : Operand} {x y : Code} {b : Bool} (hc : look e c = some (true, .bool b)) (hx : b = true → V W0 P n K x e C) (hy : b = false → V W0 P n K y e C) :
    V W0 P n K (.cond c x y) e C :=
  ⟨fun X a w ha hw => wp_cond_split (ha.look hc) (fun h => (hx h).wp X a w ha hw) (fun h => (hy h).wp X a w ha hw)⟩
theorem V.block {id : Nat} {c : Code} (h : V W0 P n (blockK id K) c e C) : V W0 P n K (.block id c) e C :=
  ⟨fun X a w ha hw => wp_block (wp_mono (h.wp X a w ha hw) fun ex a w hq => by
    obtain ⟨e, C, ha, hw, hk⟩ := hq
    cases ex with
    | exit id' =>
      simp only [blockK] at hk
      simp only [Exit.inBlock]
      by_cases hid : id' = id
      · subst hid
        simp only [Nat.beq_refl, cond_true] at hk
        simp only [if_true]
        exact ⟨e, C, ha, hw, hk⟩
      · have hb : Nat.beq id' id = false := by
          cases hbb : Nat.beq id' id with
          | false => rfl
          | true => exact absurd (Nat.eq_of_beq_eq_true hbb) hid
        simp only [hb, cond_false] at hk
        simp only [hid, if_false]
        exact ⟨e, C, ha, hw, hk⟩
    | _ => exact ⟨e, C, ha, hw, hk⟩)⟩
theorem V.loop {c : Code} {G : Type} (E : G → Env) (H : G → Heap) (μ : G → Nat) (g0 : G) (he : SubL e (E g0)) (hC : Weak C (H g0))
    (round : ∀ g, V W0 P n (loopK K E H μ g) c (E g) (H g)) : V W0 P n K (.loop c) e C :=
  ⟨fun X a w ha hw => by
    intro b k cs
    have key : ∀ m g a w, μ g = m → Has n a (E g) → Sat W0 w (X :: H g) →
        ∃ ex a' w', lift W0 n X K ex a' w' ∧ Arrives P (lone (b.at a (.code c :: .inLoop c :: k)) cs w) b k cs ex a' w' := by
      intro m
      induction m using Nat.strongRecOn with
      | _ m ih =>
        intro g a w hm ha hw
        have hr := (round g).wp X a w ha hw
        obtain ⟨ex, a₁, w₁, hq, harr⟩ := hr b (.inLoop c :: k) cs
        obtain ⟨e₁, C₁, ha₁, hw₁, hk⟩ := hq
        cases ex with
        | normal =>
          obtain ⟨g', hs, hC', hlt⟩ := hk
          obtain ⟨e₂, a₂, w₂, hq₂, harr₂⟩ := ih (μ g') (hm ▸ hlt) g' a₁ w₁ rfl (ha₁.sub hs.sub) (hw₁.weak (hC'.cons X))
          exact ⟨e₂, a₂, w₂, hq₂, .of_steps (Steps.trans harr (.one step_inLoop)) harr₂⟩
        | exit id => exact ⟨_, a₁, w₁, ⟨e₁, C₁, ha₁, hw₁, hk⟩, .pass (x := .inLoop c) rfl (fun _ _ => .inl (by simp)) harr⟩
        | goto l => exact ⟨_, a₁, w₁, ⟨e₁, C₁, ha₁, hw₁, hk⟩, .pass (x := .inLoop c) rfl (fun _ _ => .inl (by simp)) harr⟩
        | ret => exact ⟨_, a₁, w₁, ⟨e₁, C₁, ha₁, hw₁, hk⟩, .pass (x := .inLoop c) rfl (fun _ _ => .inl (by simp)) harr⟩
        | panic ch => exact ⟨_, a₁, w₁, ⟨e₁, C₁, ha₁, hw₁, hk⟩, .pass (x := .inLoop c) rfl (fun _ _ => .inl (by simp)) harr⟩
        | outgrown => exact ⟨_, a₁, w₁, ⟨e₁, C₁, ha₁, hw₁, hk⟩, .pass (x := .inLoop c) rfl (fun _ _ => .inl (by simp)) harr⟩
    obtain ⟨ex, a', w', hq, harr⟩ := key _ g0 a w rfl (ha.sub he.sub) (hw.weak (hC.cons X))
    exact ⟨ex, a', w', hq, .of_steps (.one step_loop) harr⟩⟩
theorem V.less {c : Code} {e' : Env} {C' : Heap} (h : V W0 P n K c e' C') (he : Sub e e') (hC : Weak C C') : V W0 P n K c e C :=
  ⟨fun X a w ha hw => h.wp X a w (ha.sub he) (hw.weak (hC.cons X))⟩
theorem thenK_normal {y : Code} (h : V W0 P n K y e C) : thenK W0 P n y K .normal e C := h
theorem thenK_ret {y : Code} (h : K .ret e C) : thenK W0 P n y K .ret e C := h
theorem thenK_exit {y : Code} {id : Nat} (h : K (.exit id) e C) : thenK W0 P n y K (.exit id) e C := h
theorem blockK_normal {id : Nat} (h : K .normal e C) : blockK id K .normal e C := h
theorem blockK_ret {id : Nat} (h : K .ret e C) : blockK id K .ret e C := h
theorem blockK_here {id : Nat} (h : K .normal e C) : blockK id K (.exit id) e C := by simpa [blockK] using h
theorem loopK_ret {G : Type} {E : G → Env} {H : G → Heap} {μ : G → Nat} {g : G} (h : K .ret e C) : loopK K E H μ g .ret e C := h
theorem loopK_exit {G : Type} {E : G → Env} {H : G → Heap} {μ : G → Nat} {g : G} {id : Nat} (h : K (.exit id) e C) : loopK K E H μ g (.exit id) e C := h
theorem loopK_again {G : Type} {E : G → Env} {H : G → Heap} {μ : G → Nat} {g : G} (g' : G) (h : SubL e (E g')) (hC : Weak C (H g')) (hlt : μ g' < μ g) : loopK K E H μ g .normal e C :=
  ⟨g', h, hC, hlt⟩
structure Cfg where
  qf : List Nat
  sb : List Nat
  D : Heap
def cfg0 : Cfg := ⟨[], [], []⟩
def klassOp (g : Cfg) (op : Op) : Kind :=
  match op with
  | .alloc .. | .box .. | .buildSlice .. | .makeSlice .. => .fresh
  | .move _ | .assign _ | .pick .. | .nilCheck _ | .unOp .. | .fieldAddr .. | .field .. | .indexAddr .. | .index .. | .extract .. | .slice .. | .build .. | .makeFunc .. => .pure
  | .binOp op _ x y _ => match op, x, y with
    | .eql, .const _, _ | .eql, _, .const _ | .neq, .const _, _ | .neq, _, .const _ => .pure
    | .eql, _, _ | .neq, _, _ => .quiet
    | _, _, _ => .pure
  | .load .. => .quiet
  | .call c => match c.callee with
    | .builtin .len | .builtin .cap | .builtin .max | .builtin .min => .pure
    | .value (.func f) => bif g.qf.any (Nat.beq f) then .quiet else .m
    | _ => .m
  | _ => .m
def klass (g : Cfg) (o : Oper) : Kind :=
  bif (match o.dst with | some d => g.sb.any (Nat.beq d) | none => false) then .stable else klassOp g o.op
structure Ops (W0 : World) (P : Program) (g : Cfg) (arr : Array Oper) (k : Env → Heap → Prop) (l : List Oper) (e : Env) (C : Heap) : Prop where
  run : Weak C g.D → Run W0 P g.D arr k (l.map fun o => (klass g o, o)) e C
theorem Run.mono {D : Heap} {arr : Array Oper} {k k' : Env → Heap → Prop} (hk : ∀ e C, k e C → k' e C) {zs : List (Kind × Oper)} {e : Env} {C : Heap} (h : Run W0 P D arr k zs e C) : Run W0 P D arr k' zs e C := by
  induction h with
  | nil h => exact .nil (hk _ _ h)
  | pure G v hg hv _ ih => exact .pure G v hg hv ih
  | stable G v hg hv _ ih => exact .stable G v hg hv ih
  | quiet G v hg hv _ ih => exact .quiet G v hg hv ih
  | fresh G mk ob hg hv _ _ ih1 ih2 => exact .fresh G mk ob hg hv ih1 ih2
  | m G R hg hv hD _ _ ih1 ih2 => exact .m G R hg hv hD ih1 ih2
def dstOk (n : Nat) (l : List Oper) : Bool := l.all fun o => match o.dst with | some d => Nat.blt d n | none => true
theorem V.regionQ (g : Cfg) {id : Nat} {l : List Oper} (hd : dstOk n l = true) (hD : Weak C g.D) (h : Ops W0 P g l.toArray (fun e C => K .normal e C) l e C) : V W0 P n K (.region id l.toArray false) e C :=
  ⟨fun X a w ha hw => by
    refine wp_region_list ?_
    have := Run.list (n := n) (X := X) (Q := lift W0 n X K) (fun e C a w hk ha hw => ⟨e, C, ha, hw, hk⟩) _ e C a w (h.run hD) (by
      intro x hx t ht
      obtain ⟨o, ho, rfl⟩ := List.mem_map.1 hx
      have h1 := List.all_eq_true.1 hd o ho
      simp only at ht
      rw [ht] at h1
      exact Nat.blt_eq.mp h1) ha hw hD
    simpa only [List.map_map, Function.comp_def, List.map_id'] using this⟩
theorem V.region {id : Nat} {l : List Oper} (hd : dstOk n l = true) (h : Ops W0 P cfg0 l.toArray (fun e C => K .normal e C) l e C) : V W0 P n K (.region id l.toArray false) e C :=
  V.regionQ cfg0 hd (Weak.all C) h
theorem V.draw (g : Cfg) {id : Nat} {l : List Oper} (hm : P.follows .mixedOrders = true) (hc : chk n (l.map (klass g)) l.toArray = true) (hD : Weak C g.D)
    (h : Ops W0 P g l.toArray (fun e C => K .normal e C) l e C) : V W0 P n K (.region id l.toArray true) e C :=
  ⟨fun X a w ha hw => by
    refine wp_region_any hm ?_
    have hw' : Sat W0 { w with drawn := w.drawn + 1 } (X :: C) := hw.ext (Ext.drew w)
    have h1 := Run.mono (k' := fun e C => ∃ e' C', Eqv e' e ∧ Weak C C' ∧ K .normal e' C') (fun e C hk => ⟨e, C, Eqv.refl e, Weak.refl C, hk⟩) (h.run hD)
    refine Run.start (k := fun e C => ∃ e' C', Eqv e' e ∧ Weak C C' ∧ K .normal e' C') (X := X) (Q := lift W0 n X K) ?_ ?_ ?_ hc ?_ ha hw' hD
    · rintro e e' C he ⟨e0, C0, h0, hC, hk⟩
      exact ⟨e0, C0, h0.trans he, hC, hk⟩
    · rintro e C C' ⟨e0, C0, h0, hC, hk⟩ hW
      exact ⟨e0, C0, h0, hW.trans hC, hk⟩
    · rintro e C a w ⟨e0, C0, h0, hC, hk⟩ ha hw
      exact ⟨e0, C0, ha.eqv h0.symm, hw.weak (hC.cons X), hk⟩
    · have hz : (List.range l.toArray.size).map (opAt (l.map (klass g)) l.toArray) = l.map fun o => (klass g o, o) := by
        refine List.ext_getElem (by simp) ?_
        intro i h1 h2
        have hi : i < l.length := by simpa using h1
        simp [opAt, hi]
      rw [hz]
      exact h1⟩
section
variable {cf : Cfg} {arr : Array Oper} {k : Env → Heap → Prop} {o : Oper} {rest : List Oper}
theorem Ops.nil (h : k e C) : Ops W0 P cf arr k [] e C := ⟨fun _ => .nil h⟩
theorem PureV.quiet {v : Value} (h : PureV P e o v) : QuietV W0 P e C o v := fun a ha w next Q _ hn => by
  unfold Oper.wp
  rw [h a.eval ha w]
  exact hn w (Ext.refl w)
theorem StabV.quiet {v : Value} {D : Heap} (h : StabV W0 P e D o v) (hD : Weak C D) : QuietV W0 P e C o v := fun a ha w next Q hw hn => by
  unfold Oper.wp
  rw [h a.eval ha w (hw.weak hD)]
  exact hn w (Ext.refl w)
theorem QuietV.m {v : Value} (h : QuietV W0 P e C o v) : MV W0 P e C o (fun v' C' => v' = v ∧ C' = C) := fun X a ha w next Q hs hn =>
  h a ha w next Q (hs.weak (Weak.skip X C)) fun w' hx => hn v C w' ⟨rfl, rfl⟩ (hs.ext hx)
def isFresh : Kind → Bool
  | .fresh => true
  | _ => false
theorem isFresh_eq {kd : Kind} (h : isFresh kd = true) : kd = .fresh := by cases kd <;> first | rfl | cases h
theorem isFresh_cond (b : Bool) (k : Kind) : isFresh (bif b then Kind.stable else k) = (!b && isFresh k) := by cases b <;> rfl
theorem klass_nofresh {g : Cfg} {o : Oper} (h : isFresh (klassOp g o.op) = false) : isFresh (klass g o) = false := by
  unfold klass
  rw [isFresh_cond, h, Bool.and_false]
theorem Ops.pure {v : Value} (hg : o.guard = none) (hkf : isFresh (klass cf o) = false) (hv : PureV P e o v) (h : Ops W0 P cf arr k rest (ext o.dst true v e) C) : Ops W0 P cf arr k (o :: rest) e C := by
  refine ⟨fun hD => ?_⟩
  have hgd : guardOk arr e o.guard true := by rw [hg]; rfl
  simp only [List.map_cons]
  cases hk : klass cf o with
  | pure => exact .pure true v hgd (fun _ => hv) (h.run hD)
  | stable => exact .stable true v hgd (fun _ ρ ha w _ => hv ρ ha w) (h.run hD)
  | quiet => exact .quiet true v hgd (fun _ => hv.quiet) (h.run hD)
  | fresh => rw [hk] at hkf; cases hkf
  | m => exact .m true _ hgd (fun _ => hv.quiet.m) (fun _ v' C' hr => by obtain ⟨rfl, rfl⟩ := hr; exact hD) (fun _ v' C' hr _ => by obtain ⟨rfl, rfl⟩ := hr; exact h.run hD) (fun h => by cases h)
theorem Ops.stab {v : Value} (hg : o.guard = none) (hk : klass cf o = .stable) (hv : StabV W0 P e cf.D o v) (h : Ops W0 P cf arr k rest (ext o.dst true v e) C) : Ops W0 P cf arr k (o :: rest) e C := by
  refine ⟨fun hD => ?_⟩
  have hgd : guardOk arr e o.guard true := by rw [hg]; rfl
  simp only [List.map_cons, hk]
  exact .stable true v hgd (fun _ => hv) (h.run hD)
def notPure : Kind → Bool
  | .pure => false
  | .stable => false
  | .fresh => false
  | _ => true
def isM : Kind → Bool
  | .m => true
  | _ => false
def isMF : Kind → Bool
  | .m => true
  | .fresh => true
  | _ => false
theorem Ops.quiet {v : Value} (hg : o.guard = none) (hk : notPure (klass cf o) = true) (hv : QuietV W0 P e C o v) (h : Ops W0 P cf arr k rest (ext o.dst true v e) C) : Ops W0 P cf arr k (o :: rest) e C := by
  refine ⟨fun hD => ?_⟩
  have hgd : guardOk arr e o.guard true := by rw [hg]; rfl
  simp only [List.map_cons]
  cases hk' : klass cf o with
  | pure => rw [hk'] at hk; cases hk
  | stable => rw [hk'] at hk; cases hk
  | fresh => rw [hk'] at hk; cases hk
  | quiet => exact .quiet true v hgd (fun _ => hv) (h.run hD)
  | m => exact .m true _ hgd (fun _ => hv.m) (fun _ v' C' hr => by obtain ⟨rfl, rfl⟩ := hr; exact hD) (fun _ v' C' hr _ => by obtain ⟨rfl, rfl⟩ := hr; exact h.run hD) (fun h => by cases h)
theorem isM_eq {kd : Kind} (h : isM kd = true) : kd = .m := by cases kd <;> first | rfl | cases h
theorem Ops.m {R : Value → Heap → Prop} (hg : o.guard = none) (hk : isM (klass cf o) = true) (hv : MV W0 P e C o R) (h : Weak C cf.D → ∀ v C', R v C' → Weak C' cf.D ∧ Ops W0 P cf arr k rest (ext o.dst true v e) C') : Ops W0 P cf arr k (o :: rest) e C := by
  refine ⟨fun hD => ?_⟩
  have hgd : guardOk arr e o.guard true := by rw [hg]; rfl
  simp only [List.map_cons, isM_eq hk]
  exact .m true R hgd (fun _ => hv) (fun _ v' C' hr => (h hD v' C' hr).1) (fun _ v' C' hr _ => (h hD v' C' hr).2.run (h hD v' C' hr).1) (fun h => by cases h)
theorem Ops.fresh {mk : Nat → Value} {ob : Obj} (hg : o.guard = none) (hk : isFresh (klass cf o) = true) (hv : FreshV P e o mk ob) (h : ∀ b, Ops W0 P cf arr k rest (ext o.dst true (mk b) e) ([(b, ob)] :: C)) : Ops W0 P cf arr k (o :: rest) e C := by
  refine ⟨fun hD => ?_⟩
  have hgd : guardOk arr e o.guard true := by rw [hg]; rfl
  simp only [List.map_cons, isFresh_eq hk]
  exact .fresh true mk ob hgd (fun _ => hv) (fun _ b _ => (h b).run hD.drop) (fun h => by cases h)
theorem Ops.gpure {v : Value} {G : Bool} (hg : guardOk arr e o.guard G) (hk : isMF (klass cf o) = false) (hv : G = true → PureV P e o v) (h : Ops W0 P cf arr k rest (ext o.dst G v e) C) : Ops W0 P cf arr k (o :: rest) e C := by
  refine ⟨fun hD => ?_⟩
  simp only [List.map_cons]
  cases hk' : klass cf o with
  | pure => exact .pure G v hg hv (h.run hD)
  | stable => exact .stable G v hg (fun h ρ ha w _ => hv h ρ ha w) (h.run hD)
  | quiet => exact .quiet G v hg (fun h => (hv h).quiet) (h.run hD)
  | fresh => rw [hk'] at hk; cases hk
  | m => rw [hk'] at hk; cases hk
theorem Ops.gquiet {v : Value} {G : Bool} (hg : guardOk arr e o.guard G) (hk : klass cf o = .quiet) (hv : G = true → QuietV W0 P e C o v) (h : Ops W0 P cf arr k rest (ext o.dst G v e) C) : Ops W0 P cf arr k (o :: rest) e C := by
  refine ⟨fun hD => ?_⟩
  simp only [List.map_cons, hk]
  exact .quiet G v hg hv (h.run hD)
end
structure Does (W0 : World) (P : Program) (f : FuncId) (args : Array Value) (C : Heap) (R : Value → Heap → Prop) : Prop where
  calls : ∀ X w, Sat W0 w (X :: C) → Calls P f args w fun e w' => ∃ v C', e = .returned v ∧ R v C' ∧ Sat W0 w' (X :: C')
structure Gives (W0 : World) (P : Program) (f : FuncId) (args : Array Value) (C : Heap) (v : Value) : Prop where
  calls : ∀ w, Sat W0 w C → Calls P f args w fun e w' => e = .returned v ∧ Ext w w'
theorem Gives.of {f : FuncId} {args : Array Value} {v : Value} (h : ∀ X, Does W0 P f args (X :: C) (fun v' C' => v' = v ∧ C' = X :: C)) : Gives W0 P f args C v := ⟨fun w hs => by
  obtain ⟨X, h1, h2⟩ := hs.full
  refine ((h X).calls [] w (h1.weak (Weak.nil _))).mono ?_
  rintro e w' ⟨v', C', rfl, ⟨rfl, rfl⟩, hs'⟩
  exact ⟨rfl, h2 w' (hs'.weak (Weak.skip _ _))⟩⟩
theorem Gives.spec {f : FuncId} {args : Array Value} {v : Value} (h : Gives W0 P f args C v) : Does W0 P f args C (fun v' C' => v' = v ∧ C' = C) := ⟨fun X w hs =>
  (h.calls w (hs.weak (Weak.skip X C))).mono (by rintro e w' ⟨rfl, hx⟩; exact ⟨v, C, rfl, ⟨rfl, rfl⟩, hs.ext hx⟩)⟩
theorem Does.mono {f : FuncId} {args : Array Value} {R R' : Value → Heap → Prop} (h : Does W0 P f args C R) (k : ∀ v C', R v C' → R' v C') : Does W0 P f args C R' := ⟨fun X w hs =>
  (h.calls X w hs).mono (by rintro e w' ⟨v, C', rfl, hr, hs'⟩; exact ⟨v, C', rfl, k v C' hr, hs'⟩)⟩
theorem Does.weak {f : FuncId} {args : Array Value} {C' : Heap} {R : Value → Heap → Prop} (k : Weak C C') (h : Does W0 P f args C' R) : Does W0 P f args C R := ⟨fun X w hs => h.calls X w (hs.weak (k.cons X))⟩
def tmpsOf (e : Env) : List ResultVar → Option (List Value)
  | [] => some []
  | .tmp t :: r => match get e t with
    | some (true, v) => match tmpsOf e r with
      | some vs => some (v :: vs)
      | none => none
    | _ => none
  | _ :: _ => none
def tup : List Value → Value
  | [v] => v
  | vs => .tuple vs.toArray
def ResOk (W0 : World) (P : Program) (e : Env) (C : Heap) (rs : List ResultVar) (v : Value) : Prop :=
  ∀ (m : Nat) (fn : Func) (a : Act) (w : World), fn.results = rs.toArray → Has m a e → Sat W0 w C → (results fn a.tmps).run P w = .ok v w
def retK (W0 : World) (P : Program) (rs : List ResultVar) (R : Value → Heap → Prop) : Kont := fun ex e C =>
  match ex with
  | .normal | .ret => ∃ v C', ResOk W0 P e C rs v ∧ Weak C C' ∧ R v C'
  | _ => False
def slotsL : List Nat := [0, 1, 2, 3, 4, 5, 6, 7, 8, 9, 10, 11, 12, 13, 14, 15, 16, 17, 18, 19, 20, 21, 22, 23]
def zipE : List Nat → List Value → Env
  | i :: r, v :: l => (i, true, v) :: zipE r l
  | _, _ => []
def enterEnv (l : List Value) : Env := zipE slotsL l
theorem get_zipE : ∀ (ns : List Nat) (l : List Value) (t : Nat) (g : Bool) (v : Value), get (zipE ns l) t = some (g, v) → g = true ∧ ∃ j : Nat, ns[j]? = some t ∧ l[j]? = some v
  | [], l, t, g, v, h => by simp [zipE, get] at h
  | i :: ns, [], t, g, v, h => by simp [zipE, get] at h
  | i :: ns, u :: l, t, g, v, h => by
    simp only [zipE, get] at h
    cases hb : Nat.beq i t with
    | true =>
      have := Nat.eq_of_beq_eq_true hb
      subst this
      simp only [Nat.beq_refl, cond_true, Option.some.injEq, Prod.mk.injEq] at h
      obtain ⟨rfl, rfl⟩ := h
      exact ⟨rfl, 0, by simp, by simp⟩
    | false =>
      simp only [hb, cond_false] at h
      obtain ⟨h1, j, h2, h3⟩ := get_zipE ns l t g v h
      exact ⟨h1, j + 1, by simpa using h2, by simpa using h3⟩
theorem slotsL_get : ∀ (j t : Nat), slotsL[j]? = some t → j = t := by
  intro j t h
  have hj : j < slotsL.length := (List.getElem?_eq_some_iff.1 h).1
  have : ∀ j : Nat, j < 24 → slotsL[j]? = some j := by decide
  rw [this j hj] at h
  simpa using h
theorem get_enterEnv (l : List Value) (t : Nat) (g : Bool) (v : Value) (h : get (enterEnv l) t = some (g, v)) : g = true ∧ l[t]? = some v := by
  obtain ⟨h1, j, h2, h3⟩ := get_zipE _ _ _ _ _ h
  rw [slotsL_get j t h2] at h3
  exact ⟨h1, h3⟩
theorem has_enter {l : List Value} {m : Nat} (h : l.length ≤ m) : Has m { tmps := l.toArray ++ Array.replicate (m - l.toArray.size) undef, defers := [] } (enterEnv l) := by
  refine ⟨rfl, by simp; omega, ?_⟩
  intro t g v ht
  obtain ⟨rfl, h3⟩ := get_enterEnv l t g v ht
  have hlt : t < l.length := (List.getElem?_eq_some_iff.1 h3).1
  simp only [cond_true]
  rw [Array.getElem?_append_left (by simpa using hlt)]
  simpa using h3
theorem run_results {m : Nat} {fn : Func} {a : Act} {w : World} {rs : List ResultVar} {vs : List Value} (hr : fn.results = rs.toArray) (ha : Has m a e) (h : tmpsOf e rs = some vs) (hlen : rs.length ≤ 4) :
    (results fn a.tmps).run P w = .ok (tup vs) w := by
  have get1 : ∀ t v, get e t = some (true, v) → a.tmps.getD t undef = v := fun t v ht => by
    have := ha.slot t true v ht
    simp [this]
  have head : ∀ (x : ResultVar) (r : List ResultVar) (vs : List Value), tmpsOf e (x :: r) = some vs → ∃ t v us, x = .tmp t ∧ get e t = some (true, v) ∧ tmpsOf e r = some us ∧ vs = v :: us := by
    intro x r vs h
    cases x with
    | cell a t => simp [tmpsOf] at h
    | tmp t =>
      simp only [tmpsOf] at h
      split at h
      · rename_i v hv
        split at h
        · rename_i us hus
          exact ⟨t, v, us, rfl, hv, hus, by simpa using h.symm⟩
        · simp at h
      · simp at h
  match rs, hlen with
  | [], _ =>
    simp only [tmpsOf, Option.some.injEq] at h
    subst h
    simp [results, hr, tup]
  | [x], _ =>
    obtain ⟨t, v, us, rfl, hv, hus, rfl⟩ := head _ _ _ h
    simp only [tmpsOf, Option.some.injEq] at hus
    subst hus
    have := get1 t v hv
    simp at this
    simp [results, hr, tup, this]
  | [x, y], _ =>
    obtain ⟨t, v, us, rfl, hv, hus, rfl⟩ := head _ _ _ h
    obtain ⟨t2, v2, us2, rfl, hv2, hus2, rfl⟩ := head _ _ _ hus
    simp only [tmpsOf, Option.some.injEq] at hus2
    subst hus2
    have h1 := get1 t v hv
    have h2 := get1 t2 v2 hv2
    simp at h1 h2
    simp [results, hr, tup, h1, h2]
  | [x, y, z], _ =>
    obtain ⟨t, v, us, rfl, hv, hus, rfl⟩ := head _ _ _ h
    obtain ⟨t2, v2, us2, rfl, hv2, hus2, rfl⟩ := head _ _ _ hus
    obtain ⟨t3, v3, us3, rfl, hv3, hus3, rfl⟩ := head _ _ _ hus2
    simp only [tmpsOf, Option.some.injEq] at hus3
    subst hus3
    have h1 := get1 t v hv
    have h2 := get1 t2 v2 hv2
    have h3 := get1 t3 v3 hv3
    simp at h1 h2 h3
    simp [results, hr, tup, h1, h2, h3]
  | [x, y, z, u], _ =>
    obtain ⟨t, v, us, rfl, hv, hus, rfl⟩ := head _ _ _ h
    obtain ⟨t2, v2, us2, rfl, hv2, hus2, rfl⟩ := head _ _ _ hus
    obtain ⟨t3, v3, us3, rfl, hv3, hus3, rfl⟩ := head _ _ _ hus2
    obtain ⟨t4, v4, us4, rfl, hv4, hus4, rfl⟩ := head _ _ _ hus3
    simp only [tmpsOf, Option.some.injEq] at hus4
    subst hus4
    have h1 := get1 t v hv
    have h2 := get1 t2 v2 hv2
    have h3 := get1 t3 v3 hv3
    have h4 := get1 t4 v4 hv4
    simp at h1 h2 h3 h4
    simp [results, hr, tup, h1, h2, h3, h4]
theorem Does.enter {f : FuncId} {l : List Value} {R : Value → Heap → Prop} {fn : Func} {c : Code} {rs : List ResultVar} {m : Nat} (hf : P.funcs[f]? = some fn) (hb : fn.body = some c) (hr : fn.results = rs.toArray)
    (hm : fn.ntmps = m) (hl : Nat.ble l.length m = true) (_hrl : Nat.ble rs.length 4 = true) (h : V W0 P m (retK W0 P rs R) c (enterEnv l) C) : Does W0 P f l.toArray C R := ⟨fun X w hw => by
  refine calls_of_wp hf hb ?_
  rw [hm]
  refine wp_mono (h.wp X _ w (has_enter (Nat.le_of_ble_eq_true hl)) hw) ?_
  rintro ex a w' ⟨e, C, ha, hs, hk⟩
  cases ex with
  | normal =>
    obtain ⟨v, C', h1, h2, h3⟩ := hk
    exact ⟨ha.defers, v, h1 _ _ a w' hr ha (hs.weak (Weak.skip X C)), v, C', rfl, h3, hs.weak (h2.cons X)⟩
  | ret =>
    obtain ⟨v, C', h1, h2, h3⟩ := hk
    exact ⟨ha.defers, v, h1 _ _ a w' hr ha (hs.weak (Weak.skip X C)), v, C', rfl, h3, hs.weak (h2.cons X)⟩
  | exit id => exact hk.elim
  | goto l => exact hk.elim
  | panic ch => exact hk.elim
  | outgrown => exact hk.elim⟩
theorem ResOk.tmps {rs : List ResultVar} {vs : List Value} (h : tmpsOf e rs = some vs) (hrl : Nat.ble rs.length 4 = true) : ResOk W0 P e C rs (tup vs) :=
  fun _ _ _ _ hr ha _ => run_results hr ha h (Nat.le_of_ble_eq_true hrl)
theorem retK_ret {rs : List ResultVar} {R : Value → Heap → Prop} {vs : List Value} {C' : Heap} (h : tmpsOf e rs = some vs) (hw : Weak C C') (hr : R (tup vs) C') (hrl : Nat.ble rs.length 4 = true := by rfl) : retK W0 P rs R .ret e C := ⟨_, C', ResOk.tmps h hrl, hw, hr⟩
end
end Eng
