/-
  The rules as they are called: each goes on with what can be reckoned.
-/
import Derived.Test.YtofcmcgopdhfeaaEng5
namespace Eng
open Go

/-- Bool into Prop: all at one go. -/
theorem bs : (∀ a b : Bool, ((a || b) = true) = (a = true ∨ b = true)) ∧ (∀ a b : Bool, ((a && b) = true) = (a = true ∧ b = true)) ∧ (∀ a : Bool, ((!a) = true) = (a = false)) ∧ (∀ a : Bool, ((!a) = false) = (a = true)) ∧
    (∀ a b : Bool, ((a || b) = false) = (a = false ∧ b = false)) ∧ (∀ a b : Bool, ((a && b) = false) = (a = false ∨ b = false)) ∧ (∀ (p : Prop) [Decidable p], (decide p = true) = p) ∧ (∀ (p : Prop) [Decidable p], (decide p = false) = ¬ p) ∧
    ((true = false) = False) ∧ ((false = true) = False) ∧ (∀ p : Prop, (p ∨ False) = p) ∧ (∀ p : Prop, (False ∨ p) = p) ∧ (∀ p : Prop, (p ∧ True) = p) ∧ (∀ p : Prop, (True ∧ p) = p) ∧ ((¬ True) = False) ∧ ((¬ False) = True) ∧ (∀ p : Prop, (p ∧ False) = False) ∧ (∀ p : Prop, (False ∧ p) = False) ∧
    (∀ a b : Bool, ((a == b) = true) = (a = b)) ∧ (∀ a b : Bool, ((a == b) = false) = ¬ (a = b)) ∧ ((true = true) = True) ∧ ((false = false) = True) ∧ (∀ (p : Prop) [Decidable p], (false = decide p) = ¬ p) ∧ (∀ (p : Prop) [Decidable p], (true = decide p) = p) ∧ (∀ a : Bool, (false = !a) = (a = true)) ∧ (∀ a : Bool, (true = !a) = (a = false)) ∧
    (∀ a b : Bool, (false = (a && b)) = (a = false ∨ b = false)) ∧ (∀ a b : Bool, (true = (a && b)) = (a = true ∧ b = true)) ∧ (∀ a b : Bool, (false = (a || b)) = (a = false ∧ b = false)) ∧ (∀ a b : Bool, (true = (a || b)) = (a = true ∨ b = true)) ∧ (∀ p : Prop, (p ∨ True) = True) ∧ (∀ p : Prop, (True ∨ p) = True) := by
  refine ⟨?_, ?_, ?_, ?_, ?_, ?_, ?_, ?_, ?_, ?_, ?_, ?_, ?_, ?_, ?_, ?_, ?_, ?_, ?_, ?_, ?_, ?_, ?_, ?_, ?_, ?_, ?_, ?_, ?_, ?_, ?_, ?_⟩ <;> first | (simp; done) | (intro a b; cases a <;> cases b <;> simp)
/-! ### Where memory is -/

inductive Pick (c : List Blk) : Heap → Heap → Prop
  | here {C} : Pick c (c :: C) C
  | skip {c0 C C'} : Pick c C C' → Pick c (c0 :: C) (c0 :: C')

theorem Pick.weak {c : List Blk} {C C' : Heap} (h : Pick c C C') : Weak C (c :: C') := by
  induction h with
  | here => exact Weak.refl _
  | skip _ ih => exact (ih.cons _).trans (Weak.swap _ _ _)
theorem Weak.pick {c : List Blk} {C C' D : Heap} (h : Pick c C C') (k : Weak C' D) : Weak C (c :: D) := h.weak.trans (k.cons c)

section
variable {W0 : World} {P : Program} {T : Tab} {e : Env} {C : Heap} {d : Nat} {ty : TypeId} {p : String} {af : Array Edge} {cf : Cfg} {arr : Array Oper} {k : Env → Heap → Prop} {rest : List Oper}

theorem Ops.load (hT : TabOk P T) {t : TypeId} {x : Operand} {a : Addr} {v : Value} {i : TyI} (ht : T.find t = some i) (hs : (i.d.known && !i.d.agg) = true) (hx : look e x = some (true, .pointer (some a))) (hr : Rd W0 C a v) (hk : notPure (klass cf ⟨some d, .load t x, ty, p, af, none⟩) = true)
    (h : Eng.pex T rest ((d, true, v) :: e) (fun l e => Ops W0 P cf arr k l e C)) : Ops W0 P cf arr k (⟨some d, .load t x, ty, p, af, none⟩ :: rest) e C :=
  Ops.quiet rfl hk (quiet_load hT ht hs hx hr) (Ops.pex hT h)

theorem stab_load {T : Tab} (hT : TabOk P T) {D : Heap} {dd : Option Nat} {g : Option (Nat × Bool)} {t : TypeId} {x : Operand} {a : Addr} {v : Value} {i : TyI} (ht : T.find t = some i) (hs : (i.d.known && !i.d.agg) = true)
    (hx : look e x = some (true, .pointer (some a))) (hr : Rd W0 D a v) : StabV W0 P e D ⟨dd, .load t x, ty, p, af, g⟩ v := fun ρ ha w hw => by
  have h1 := ha x (by simp [Op.operands]) _ hx
  have ho : i.d ≠ .other := by intro h; rw [h] at hs; cases hs
  have hs : i.d.agg = false := by cases h : i.d.agg with | false => rfl | true => rw [h] at hs; simp at hs
  have : execOp ρ ⟨dd, .load t x, ty, p, af, g⟩ = (do pure (.value (← Instr.loadAt t (ρ x)))) := rfl
  rw [this, h1]
  simp [Instr.loadAt, Instr.sureAddr, loadVar, hT.isAgg ht ho, hs, load, Sem.run, hr w hw]

theorem Ops.loadS (hT : TabOk P T) {t : TypeId} {x : Operand} {a : Addr} {v : Value} {i : TyI} (ht : T.find t = some i) (hs : (i.d.known && !i.d.agg) = true) (hx : look e x = some (true, .pointer (some a))) (hr : Rd W0 cf.D a v) (hk : klass cf ⟨some d, .load t x, ty, p, af, none⟩ = .stable)
    (h : Eng.pex T rest ((d, true, v) :: e) (fun l e => Ops W0 P cf arr k l e C)) : Ops W0 P cf arr k (⟨some d, .load t x, ty, p, af, none⟩ :: rest) e C :=
  Ops.stab rfl hk (stab_load hT ht hs hx hr) (Ops.pex hT h)

theorem Ops.loadN (hT : TabOk P T) {t : TypeId} {x : Operand} {b off : Nat} {vs : List Value} {i : TyI} (ht : T.find t = some i) (hs : i.d.agg = true) (hx : look e x = some (true, .pointer (some ⟨b, off, none⟩))) (hl : vs.length = i.size) (hr : RdL W0 C b off vs) (hk : notPure (klass cf ⟨some d, .load t x, ty, p, af, none⟩) = true)
    (h : Eng.pex T rest ((d, true, .agg vs.toArray) :: e) (fun l e => Ops W0 P cf arr k l e C)) : Ops W0 P cf arr k (⟨some d, .load t x, ty, p, af, none⟩ :: rest) e C :=
  Ops.quiet rfl hk (quiet_loadN hT ht hs hl hx hr) (Ops.pex hT h)

theorem Ops.or {c b : Operand} {x y F : Bool} (hT : TabOk P T) (hc : look e c = some (true, .bool x)) (hb : look e b = some (F, .bool y)) (hF : F = !x)
    (h : Eng.pex T rest ((d, true, .bool (x || y)) :: e) (fun l e => Ops W0 P cf arr k l e C)) : Ops W0 P cf arr k (⟨some d, .pick c (.const (.bool true)) b, ty, p, af, none⟩ :: rest) e C := by
  subst hF
  exact Ops.pure rfl (klass_nofresh rfl) (pure_or hc hb) (Ops.pex hT h)
theorem Ops.and {c b : Operand} {x y F : Bool} (hT : TabOk P T) (hc : look e c = some (true, .bool x)) (hb : look e b = some (F, .bool y)) (hF : F = x)
    (h : Eng.pex T rest ((d, true, .bool (x && y)) :: e) (fun l e => Ops W0 P cf arr k l e C)) : Ops W0 P cf arr k (⟨some d, .pick c b (.const (.bool false)), ty, p, af, none⟩ :: rest) e C := by
  subst hF
  exact Ops.pure rfl (klass_nofresh rfl) (pure_and hc hb) (Ops.pex hT h)

/-- One of a list is set. -/
inductive SetL (v : Value) : Nat → List Value → List Value → Prop
  | here {x l} : SetL v 0 (x :: l) (v :: l)
  | there {n x l l'} : SetL v n l l' → SetL v (n + 1) (x :: l) (x :: l')

theorem SetL.eq {v : Value} {n : Nat} {l l' : List Value} (h : SetL v n l l') : l' = l.set n v ∧ n < l.length := by
  induction h with
  | here => simp
  | there _ ih => simp [ih.1, ih.2]

theorem Ops.store (hT : TabOk P T) {t : TypeId} {x y : Operand} {b off : Nat} {l l' : List Value} {bt : TypeId} {v : Value} {C' : Heap} {i : TyI} (ht : T.find t = some i) (hs : Nat.beq i.size 1 = true)
    (hx : look e x = some (true, .pointer (some ⟨b, off, none⟩))) (hy : look e y = some (true, v)) (hv : v.oneCell' = true)
    (u : Upd C b (.cells l.toArray bt (0, 0)) (.cells l'.toArray bt (0, 0)) C') (hl : SetL v off l l') (hD : Weak C' cf.D) (h : Eng.pex T rest e (fun l e => Ops W0 P cf arr k l e C')) :
    Ops W0 P cf arr k (⟨none, .store t x y, ty, p, af, none⟩ :: rest) e C := by
  obtain ⟨rfl, hoff⟩ := hl.eq
  exact Ops.m rfl rfl (m_store hT ht hs hx hy hv hoff u) (by rintro _ v C' ⟨rfl, rfl⟩; exact ⟨hD, Ops.pex hT h⟩)
/-- .. at a place that is reckoned. -/
theorem Ops.storeI (hT : TabOk P T) {t : TypeId} {x y : Operand} {b off : Nat} {l : List Value} {bt : TypeId} {v : Value} {C' : Heap} {i : TyI} (ht : T.find t = some i) (hs : Nat.beq i.size 1 = true)
    (hx : look e x = some (true, .pointer (some ⟨b, off, none⟩))) (hy : look e y = some (true, v)) (hv : v.oneCell' = true)
    (u : Upd C b (.cells l.toArray bt (0, 0)) (.cells (l.set off v).toArray bt (0, 0)) C') (hoff : off < l.length) (hD : Weak C' cf.D) (h : Eng.pex T rest e (fun l e => Ops W0 P cf arr k l e C')) :
    Ops W0 P cf arr k (⟨none, .store t x y, ty, p, af, none⟩ :: rest) e C :=
  Ops.m rfl rfl (m_store hT ht hs hx hy hv hoff u) (by rintro _ v C' ⟨rfl, rfl⟩; exact ⟨hD, Ops.pex hT h⟩)

theorem Ops.boxN (hT : TabOk P T) {t : TypeId} {x : Operand} {vs : List Value} (hx : look e x = some (true, .agg vs.toArray)) (hk : isFresh (klass cf ⟨some d, .box t x, ty, p, af, none⟩) = true)
    (h : ∀ b, Eng.pex T rest ((d, true, .pointer (some ⟨b, 0, none⟩)) :: e) (fun l e => Ops W0 P cf arr k l e ([(b, .cells vs.toArray t (0, 0))] :: C))) : Ops W0 P cf arr k (⟨some d, .box t x, ty, p, af, none⟩ :: rest) e C :=
  Ops.fresh rfl hk (fresh_boxN hx) (fun b => Ops.pex hT (h b))
theorem Ops.box (hT : TabOk P T) {t : TypeId} {x : Operand} {v : Value} (hx : look e x = some (true, v)) (hv : v.oneCell' = true) (hk : isFresh (klass cf ⟨some d, .box t x, ty, p, af, none⟩) = true)
    (h : ∀ b, Eng.pex T rest ((d, true, .pointer (some ⟨b, 0, none⟩)) :: e) (fun l e => Ops W0 P cf arr k l e ([(b, .cells [v].toArray t (0, 0))] :: C))) : Ops W0 P cf arr k (⟨some d, .box t x, ty, p, af, none⟩ :: rest) e C :=
  Ops.fresh rfl hk (fresh_box hx hv) (fun b => Ops.pex hT (h b))
theorem Ops.alloc (hT : TabOk P T) {t : TypeId} {zs : List Value} (hz : zeroC T zeroFuel t = some zs) (hk : isFresh (klass cf ⟨some d, .alloc t, ty, p, af, none⟩) = true)
    (h : ∀ b, Eng.pex T rest ((d, true, .pointer (some ⟨b, 0, none⟩)) :: e) (fun l e => Ops W0 P cf arr k l e ([(b, .cells zs.toArray t (0, 0))] :: C))) : Ops W0 P cf arr k (⟨some d, .alloc t, ty, p, af, none⟩ :: rest) e C :=
  Ops.fresh rfl hk (fresh_alloc hT hz) (fun b => Ops.pex hT (h b))

/-- A call. -/
theorem Ops.call (hT : TabOk P T) {l : List Operand} {vs : List Value} {ts : Array TypeId} {f : FuncId} {R : Value → Heap → Prop} (hk : isM (klass cf ⟨some d, .call { callee := .value (.func f), args := l.toArray, argTypes := ts }, ty, p, af, none⟩) = true)
    (hl : Looks e l vs) (hc : callable P f = true) (hs : Does W0 P f vs.toArray C R)
    (h : ∀ v C', R v C' → Weak C' cf.D ∧ Eng.pex T rest ((d, true, v) :: e) (fun l e => Ops W0 P cf arr k l e C')) : Ops W0 P cf arr k (⟨some d, .call { callee := .value (.func f), args := l.toArray, argTypes := ts }, ty, p, af, none⟩ :: rest) e C :=
  Ops.m rfl hk (m_call (fs := []) (cs := []) hc rfl hl (by simpa using hs)) (fun _ v C' hr => ⟨(h v C' hr).1, Ops.pex hT (h v C' hr).2⟩)
theorem Ops.callQ (hT : TabOk P T) {l : List Operand} {vs : List Value} {ts : Array TypeId} {f : FuncId} {v : Value} (hk : notPure (klass cf ⟨some d, .call { callee := .value (.func f), args := l.toArray, argTypes := ts }, ty, p, af, none⟩) = true) (hl : Looks e l vs) (hc : callable P f = true) (hs : Gives W0 P f vs.toArray C v)
    (h : Eng.pex T rest ((d, true, v) :: e) (fun l e => Ops W0 P cf arr k l e C)) : Ops W0 P cf arr k (⟨some d, .call { callee := .value (.func f), args := l.toArray, argTypes := ts }, ty, p, af, none⟩ :: rest) e C :=
  Ops.quiet rfl hk (quiet_call (fs := []) (cs := []) hc rfl hl (by simpa using hs)) (Ops.pex hT h)
/-- Of a function value. -/
theorem Ops.callV (hT : TabOk P T) {x : Nat} {l : List Operand} {vs as : List Value} {ts : Array TypeId} {f : FuncId} {fs cs : List Value} {R : Value → Heap → Prop} (hk : isM (klass cf ⟨some d, .call { callee := .value (.tmp x), args := l.toArray, argTypes := ts }, ty, p, af, none⟩) = true)
    (hx : look e (.tmp x) = some (true, .func (.func f) fs.toArray cs.toArray)) (hl : Looks e l vs) (ha : fs ++ vs ++ cs = as) (hc : callable P f = true) (hs : Does W0 P f as.toArray C R)
    (h : ∀ v C', R v C' → Weak C' cf.D ∧ Eng.pex T rest ((d, true, v) :: e) (fun l e => Ops W0 P cf arr k l e C')) : Ops W0 P cf arr k (⟨some d, .call { callee := .value (.tmp x), args := l.toArray, argTypes := ts }, ty, p, af, none⟩ :: rest) e C :=
  Ops.m rfl hk (m_call hc hx hl (by rw [ha]; exact hs)) (fun _ v C' hr => ⟨(h v C' hr).1, Ops.pex hT (h v C' hr).2⟩)
theorem Ops.callVQ (hT : TabOk P T) {x : Nat} {l : List Operand} {vs as : List Value} {ts : Array TypeId} {f : FuncId} {fs cs : List Value} {v : Value} (hk : notPure (klass cf ⟨some d, .call { callee := .value (.tmp x), args := l.toArray, argTypes := ts }, ty, p, af, none⟩) = true)
    (hx : look e (.tmp x) = some (true, .func (.func f) fs.toArray cs.toArray)) (hl : Looks e l vs) (ha : fs ++ vs ++ cs = as) (hc : callable P f = true) (hs : Gives W0 P f as.toArray C v)
    (h : Eng.pex T rest ((d, true, v) :: e) (fun l e => Ops W0 P cf arr k l e C)) : Ops W0 P cf arr k (⟨some d, .call { callee := .value (.tmp x), args := l.toArray, argTypes := ts }, ty, p, af, none⟩ :: rest) e C :=
  Ops.quiet rfl hk (quiet_call hc hx hl (by rw [ha]; exact hs)) (Ops.pex hT h)

/-- append. -/
theorem Ops.append (hT : TabOk P T) {t el : TypeId} {s0 b0 sz bt : Nat} {ie : TyI} {zs : List Value} {x y : Operand} {C0 : Heap} {s : Value} {n : Nat} {xs : List Value} {c : List Blk} {sa : Addr} {m cap : Nat} {ys : List Value}
    (hs : Slc el sz s n xs c) (hC : Pick c C C0) (hr : RdA W0 (c :: C0) sa ys)
    (ht : T.find t = some ⟨.slice el, s0, b0⟩) (he : T.find el = some ie) (hsz : ie.size = sz) (hbt : ie.bytes = bt) (hz : zeroC T zeroFuel el = some zs) (hzl : zs.length = sz)
    (hx : look e x = some (true, s)) (hy : look e y = some (true, .slice (some sa) m cap)) (hl : ys.length = m * sz) (h1 : ys.all (·.oneCell') = true)
    (hn : n + m ≤ 9223372036854775807) (hb : (n + m) * bt ≤ 140737488355328)
    (hk : isM (klass cf ⟨some d, .call { callee := .builtin .append, args := #[x, y], argTypes := #[t, t] }, ty, p, af, none⟩) = true) (h : ∀ v c', Slc el sz v (n + m) (xs ++ ys) c' → Weak (c' :: C0) cf.D ∧ Eng.pex T rest ((d, true, v) :: e) (fun l e => Ops W0 P cf arr k l e (c' :: C0))) : Ops W0 P cf arr k (⟨some d, .call { callee := .builtin .append, args := #[x, y], argTypes := #[t, t] }, ty, p, af, none⟩ :: rest) e C := by
  subst hsz; subst hbt
  exact Ops.m rfl hk (m_append hT hx hy hC.weak hs hr hl h1 (by simpa only [maxLen] using hn) hb ht he hz hzl) (by rintro _ v C' ⟨c', hs', rfl⟩; exact ⟨(h v c' hs').1, Ops.pex hT (h v c' hs').2⟩)

/-! ### Guards -/

theorem guard_yes {j t : Nat} {b : Bool} (h1 : gslot arr j = some t) (h2 : get e t = some (true, .bool b)) : guardOk arr e (some (j, true)) b := ⟨t, true, _, b, h1, h2, fun _ => rfl, by simp⟩
theorem guard_no {j t : Nat} {b : Bool} (h1 : gslot arr j = some t) (h2 : get e t = some (true, .bool b)) : guardOk arr e (some (j, false)) (!b) := ⟨t, true, _, b, h1, h2, fun _ => rfl, by cases b <;> rfl⟩
theorem guard_yes' {j t : Nat} {b G : Bool} (h1 : gslot arr j = some t) (h2 : get e t = some (G, .bool b)) : guardOk arr e (some (j, true)) (G && b) := ⟨t, G, _, b, h1, h2, fun _ => rfl, by cases b <;> cases G <;> rfl⟩
theorem guard_no' {j t : Nat} {b G : Bool} (h1 : gslot arr j = some t) (h2 : get e t = some (G, .bool b)) : guardOk arr e (some (j, false)) (G && !b) := ⟨t, G, _, b, h1, h2, fun _ => rfl, by cases b <;> cases G <;> rfl⟩

def St.value : St → Option (Value × Prop)
  | .val v => some (v, True)
  | .cond c v => some (v, c)
  | .stop => none

theorem PureL.step {lk : Lk} (hT : TabOk P T) {o : Oper} {v : Value} {c : Prop} (h : (Eng.step T { o with guard := none } lk).value = some (v, c)) (hc : c) : PureL P lk o v := by
  have hok := step_ok (P := P) (lk := lk) hT { o with guard := none }
  cases hst : Eng.step T { o with guard := none } lk with
  | stop => rw [hst] at h; simp [St.value] at h
  | val u =>
    rw [hst] at h hok
    simp only [St.value, Option.some.injEq, Prod.mk.injEq] at h
    obtain ⟨rfl, rfl⟩ := h
    exact hok
  | cond c' u =>
    rw [hst] at h hok
    simp only [St.value, Option.some.injEq, Prod.mk.injEq] at h
    obtain ⟨rfl, rfl⟩ := h
    exact hok hc

/-- What an operand holds if it holds anything. -/
def lookU (e : Env) : Lk := fun x => match look e x with
  | some (_, v) => some (true, v)
  | none => none

/-- Under G all operands hold what they may hold. -/
def flagsOk (G : Bool) (e : Env) : List Operand → Prop
  | [] => True
  | x :: r => match look e x with
    | some (g, _) => (G = true → g = true) ∧ flagsOk G e r
    | none => flagsOk G e r

theorem flagsOk_mem {G : Bool} (hG : G = true) : ∀ (l : List Operand), flagsOk G e l → ∀ x ∈ l, ∀ g v, look e x = some (g, v) → g = true
  | [], _, x, hx, _, _, _ => by cases hx
  | y :: r, h, x, hx, g, v, hg => by
    simp only [flagsOk] at h
    rcases List.mem_cons.1 hx with rfl | hx
    · rw [hg] at h
      exact h.1 hG
    · split at h
      · exact flagsOk_mem hG r h.2 x hx g v hg
      · exact flagsOk_mem hG r h x hx g v hg

theorem agreeU {G : Bool} (hG : G = true) {o : Oper} {ρ : Operand → Value} (hf : flagsOk G e o.op.operands.toList) (ha : Agree e o ρ) : AgreeL (lookU e) o ρ := fun x hx v hv => by
  unfold lookU at hv
  cases hl : look e x with
  | none => simp [hl] at hv
  | some q =>
    obtain ⟨g, u⟩ := q
    simp only [hl, Option.some.injEq, Prod.mk.injEq, true_and] at hv
    subst hv
    have := flagsOk_mem hG _ hf x (by simpa using hx) g u hl
    subst this
    exact ha x hx u hl

theorem Ops.gstep (hT : TabOk P T) {op : Op} {j : Nat} {want G : Bool} {v : Value} {c : Prop} (hk : isMF (klass cf ⟨some d, op, ty, p, af, some (j, want)⟩) = false) (hg : guardOk arr e (some (j, want)) G)
    (hst : (Eng.step T ⟨some d, op, ty, p, af, none⟩ (lookU e)).value = some (v, c)) (hf : flagsOk G e op.operands.toList) (hc : G = true → c)
    (h : Eng.pex T rest ((d, G, v) :: e) (fun l e => Ops W0 P cf arr k l e C)) : Ops W0 P cf arr k (⟨some d, op, ty, p, af, some (j, want)⟩ :: rest) e C :=
  Ops.gpure hg hk (fun hG ρ ha => PureL.step (lk := lookU e) hT (o := ⟨some d, op, ty, p, af, some (j, want)⟩) hst (hc hG) ρ (agreeU hG hf ha)) (Ops.pex hT h)

theorem lookU_look {G : Bool} (hG : G = true) {x : Operand} {v : Value} (hf : flagsOk G e [x]) (hx : lookU e x = some (true, v)) : look e x = some (true, v) := by
  unfold lookU at hx
  cases hl : look e x with
  | none => simp [hl] at hx
  | some q =>
    obtain ⟨g, u⟩ := q
    simp only [hl, Option.some.injEq, Prod.mk.injEq, true_and] at hx
    subst hx
    have := flagsOk_mem hG _ hf x (by simp) g _ hl
    subst this
    rfl

theorem Ops.gload (hT : TabOk P T) {t : TypeId} {x : Operand} {j : Nat} {want G : Bool} {a : Addr} {v : Value} {i : TyI} (hg : guardOk arr e (some (j, want)) G) (ht : T.find t = some i) (hs : (i.d.known && !i.d.agg) = true) (hx : lookU e x = some (true, .pointer (some a)))
    (hf : flagsOk G e [x]) (hr : G = true → Rd W0 C a v) (hk : klass cf ⟨some d, .load t x, ty, p, af, some (j, want)⟩ = .quiet)
    (h : Eng.pex T rest ((d, G, v) :: e) (fun l e => Ops W0 P cf arr k l e C)) : Ops W0 P cf arr k (⟨some d, .load t x, ty, p, af, some (j, want)⟩ :: rest) e C :=
  Ops.gquiet hg hk (fun hG => quiet_load hT ht hs (lookU_look hG hf hx) (hr hG)) (Ops.pex hT h)

theorem Ops.gloadS (hT : TabOk P T) {t : TypeId} {x : Operand} {j : Nat} {want G : Bool} {a : Addr} {v : Value} {i : TyI} (hg : guardOk arr e (some (j, want)) G) (ht : T.find t = some i) (hs : (i.d.known && !i.d.agg) = true) (hx : lookU e x = some (true, .pointer (some a)))
    (hf : flagsOk G e [x]) (hr : G = true → Rd W0 cf.D a v) (hk : klass cf ⟨some d, .load t x, ty, p, af, some (j, want)⟩ = .stable)
    (h : Eng.pex T rest ((d, G, v) :: e) (fun l e => Ops W0 P cf arr k l e C)) : Ops W0 P cf arr k (⟨some d, .load t x, ty, p, af, some (j, want)⟩ :: rest) e C :=
  Ops.gstab hg hk (fun hG => stab_load hT ht hs (lookU_look hG hf hx) (hr hG)) (Ops.pex hT h)

end

/-! ### Code -/
section
variable {W0 : World} {P : Program} {n : Nat} {K : Kont} {e : Env} {C : Heap}

theorem V.condT {c : Operand} {x y : Code} {b : Bool} (hc : look e c = some (true, .bool b)) (hb : b = true) (hx : V W0 P n K x e C) : V W0 P n K (.cond c x y) e C :=
  V.cond hc (fun _ => hx) (fun h => by rw [hb] at h; cases h)
theorem V.condF {c : Operand} {x y : Code} {b : Bool} (hc : look e c = some (true, .bool b)) (hb : b = false) (hy : V W0 P n K y e C) : V W0 P n K (.cond c x y) e C :=
  V.cond hc (fun h => by rw [hb] at h; cases h) (fun _ => hy)

end
end Eng
