/- A part of the engine: rules for code that is walked with memory as a list of chunks. -/
import Derived.Test.YtofcmcgopdhfeaaEng7

set_option maxRecDepth 100000
namespace Eng
open Go
section
variable {W0 : World} {P : Program} {T : Tab} {cf : Cfg} {arr : Array Oper} {k : Env → Heap → Prop} {rest : List Oper} {e : Env} {C : Heap}
variable {dd : Option Nat} {op : Op} {ty : TypeId} {p : _} {af : _}

theorem Ops.open0 {g : Option (Nat × Bool)} (hg : guardOk arr e g true) (h : Ops W0 P cf arr k (⟨dd, op, ty, p, af, none⟩ :: rest) e C) : Ops W0 P cf arr k (⟨dd, op, ty, p, af, g⟩ :: rest) e C := by
  refine ⟨fun hD => ?_⟩
  have hr := h.run hD
  have hkl : klass cf ⟨dd, op, ty, p, af, g⟩ = klass cf ⟨dd, op, ty, p, af, none⟩ := rfl
  simp only [List.map_cons, hkl] at hr ⊢
  cases hk : klass cf ⟨dd, op, ty, p, af, none⟩ with
  | pure =>
    rw [hk] at hr
    cases hr with
    | pure G v h1 h2 h3 =>
      have : G = true := h1
      subst this
      exact .pure true v hg h2 h3
  | stable =>
    rw [hk] at hr
    cases hr with
    | stable G v h1 h2 h3 =>
      have : G = true := h1
      subst this
      exact .stable true v hg h2 h3
  | quiet =>
    rw [hk] at hr
    cases hr with
    | quiet G v h1 h2 h3 =>
      have : G = true := h1
      subst this
      exact .quiet true v hg h2 h3
  | fresh =>
    rw [hk] at hr
    cases hr with
    | fresh G mk ob h1 h2 h3 h4 =>
      have : G = true := h1
      subst this
      exact .fresh true mk ob hg h2 h3 (fun h => by cases h)
  | m =>
    rw [hk] at hr
    cases hr with
    | m G R h1 h2 h3 h4 h5 =>
      have : G = true := h1
      subst this
      exact .m true R hg h2 h3 h4 (fun h => by cases h)

theorem guard_off {j t : Nat} {b : Bool} {v : Value} (h1 : gslot arr j = some t) (h2 : get e t = some (false, v)) : guardOk arr e (some (j, b)) false := ⟨t, false, v, b, h1, h2, (fun h => by cases h), rfl⟩
theorem guard_yt {j t : Nat} (h1 : gslot arr j = some t) (h2 : get e t = some (true, .bool true)) : guardOk arr e (some (j, true)) true := guard_yes h1 h2
theorem guard_nt {j t : Nat} (h1 : gslot arr j = some t) (h2 : get e t = some (true, .bool false)) : guardOk arr e (some (j, false)) true := guard_no h1 h2
theorem guard_yf {j t : Nat} (h1 : gslot arr j = some t) (h2 : get e t = some (true, .bool false)) : guardOk arr e (some (j, true)) false := guard_yes h1 h2
theorem guard_nf {j t : Nat} (h1 : gslot arr j = some t) (h2 : get e t = some (true, .bool true)) : guardOk arr e (some (j, false)) false := guard_no h1 h2

theorem guard_yp {j t : Nat} {b : Bool} (h1 : gslot arr j = some t) (h2 : get e t = some (true, .bool b)) (hb : b = true) : guardOk arr e (some (j, true)) true := guard_yes h1 (hb ▸ h2)
theorem guard_np {j t : Nat} {b : Bool} (h1 : gslot arr j = some t) (h2 : get e t = some (true, .bool b)) (hb : b = false) : guardOk arr e (some (j, false)) true := guard_no h1 (hb ▸ h2)
theorem guard_yq {j t : Nat} {b : Bool} (h1 : gslot arr j = some t) (h2 : get e t = some (true, .bool b)) (hb : b = false) : guardOk arr e (some (j, true)) false := guard_yes h1 (hb ▸ h2)
theorem guard_nq {j t : Nat} {b : Bool} (h1 : gslot arr j = some t) (h2 : get e t = some (true, .bool b)) (hb : b = true) : guardOk arr e (some (j, false)) false := guard_no h1 (hb ▸ h2)

/-- A guard that is known to hold. -/
theorem Ops.gopen (hT : TabOk P T) {g : Nat × Bool} (hg : guardOk arr e (some g) true) (h : Eng.pex T (⟨dd, op, ty, p, af, none⟩ :: rest) e (fun l e => Ops W0 P cf arr k l e C)) : Ops W0 P cf arr k (⟨dd, op, ty, p, af, some g⟩ :: rest) e C :=
  Ops.open0 hg (Ops.pex hT h)

/-- .. or not to. -/
theorem Ops.gshut (hT : TabOk P T) {g : Nat × Bool} (hg : guardOk arr e (some g) false)
    (h : Eng.pex T rest (ext dd (isMF (klass cf ⟨dd, op, ty, p, af, none⟩)) undef e) (fun l e => Ops W0 P cf arr k l e C)) : Ops W0 P cf arr k (⟨dd, op, ty, p, af, some g⟩ :: rest) e C := by
  refine ⟨fun hD => ?_⟩
  have hkl : klass cf ⟨dd, op, ty, p, af, some g⟩ = klass cf ⟨dd, op, ty, p, af, none⟩ := rfl
  have h' := Ops.pex hT h
  simp only [List.map_cons, hkl]
  cases hk : klass cf ⟨dd, op, ty, p, af, none⟩ with
  | pure => rw [hk] at h'; exact .pure false undef hg (fun h => by cases h) (h'.run hD)
  | stable => rw [hk] at h'; exact .stable false undef hg (fun h => by cases h) (h'.run hD)
  | quiet => rw [hk] at h'; exact .quiet false undef hg (fun h => by cases h) (h'.run hD)
  | fresh =>
    rw [hk] at h'
    exact .fresh false (fun _ => undef) default hg (fun h => by cases h) (fun h => by cases h) (fun _ => h'.run hD)
  | m =>
    rw [hk] at h'
    exact .m false (fun _ _ => True) hg (fun h => by cases h) (fun h => by cases h) (fun h => by cases h) (fun _ => h'.run hD)

theorem Ops.gshutP {d : Nat} (hT : TabOk P T) {g : Nat × Bool} (hg : guardOk arr e (some g) false) (hk : isMF (klass cf ⟨some d, op, ty, p, af, none⟩) = false)
    (h : Eng.pex T rest ((d, false, undef) :: e) (fun l e => Ops W0 P cf arr k l e C)) : Ops W0 P cf arr k (⟨some d, op, ty, p, af, some g⟩ :: rest) e C :=
  Ops.gshut hT hg (by rw [hk]; exact h)
theorem Ops.gshutM {d : Nat} (hT : TabOk P T) {g : Nat × Bool} (hg : guardOk arr e (some g) false) (hk : isMF (klass cf ⟨some d, op, ty, p, af, none⟩) = true)
    (h : Eng.pex T rest ((d, true, undef) :: e) (fun l e => Ops W0 P cf arr k l e C)) : Ops W0 P cf arr k (⟨some d, op, ty, p, af, some g⟩ :: rest) e C :=
  Ops.gshut hT hg (by rw [hk]; exact h)
theorem Ops.gshutN (hT : TabOk P T) {g : Nat × Bool} (hg : guardOk arr e (some g) false)
    (h : Eng.pex T rest e (fun l e => Ops W0 P cf arr k l e C)) : Ops W0 P cf arr k (⟨none, op, ty, p, af, some g⟩ :: rest) e C :=
  Ops.gshut hT hg h

theorem PureV.m {o : Oper} {v : Value} {C' : Heap} (h : PureV P e o v) (hC : Weak C C') : MV W0 P e C o (fun u D => u = v ∧ D = C') := fun X a ha w next Q hw hn => by
  unfold Oper.wp
  rw [h a.eval ha w]
  exact hn v C' w ⟨rfl, rfl⟩ (hw.weak (hC.cons X))

theorem pure_append_nil2 (hT : TabOk P T) {d : Option Nat} {g : Option (Nat × Bool)} {t el : TypeId} {s0 b0 : Nat} {ie : TyI} {x y : Operand} {a : Option Addr} {n cap c2 : Nat} (ht : T.find t = some ⟨.slice el, s0, b0⟩) (he : T.find el = some ie)
    (hx : look e x = some (true, .slice a n cap)) (hy : look e y = some (true, .slice none 0 c2)) (hn : n ≤ cap) : PureV P e ⟨d, .call { callee := .builtin .append, args := #[x, y], argTypes := #[t, t] }, ty, p, af, g⟩ (.slice a n cap) := fun ρ ha w => by
  have h3 := ha x (by simp [Op.operands, Call.operands]) _ hx
  have h4 := ha y (by simp [Op.operands, Call.operands]) _ hy
  obtain ⟨pi, pd, hpi, hpd, hsz, hby, hdo⟩ := hT.info he
  have hx : execOp ρ ⟨d, .call { callee := .builtin .append, args := #[x, y], argTypes := #[t, t] }, ty, p, af, g⟩ = (do let d ← resolve ρ { callee := .builtin .append, args := #[x, y], argTypes := #[t, t] } ty; invoke d.target d.args) := rfl
  rw [hx]
  cases a with
  | none => simp [resolve, invoke, builtin, h3, h4, Builtin.append_, run_underlying (hT.slice ht), Go.sizeOf, typeInfo, hpi, Builtin.lenOf, Builtin.firstCells, hn]
  | some a => simp [resolve, invoke, builtin, h3, h4, Builtin.append_, run_underlying (hT.slice ht), Go.sizeOf, typeInfo, hpi, Builtin.lenOf, Builtin.firstCells, hn, storeCells]

/-- Elements of any slice that can be read, behind one's own. -/
theorem Ops.appendS {d : Nat} (hT : TabOk P T) {t el : TypeId} {s0 b0 sz bt : Nat} {ie : TyI} {zs : List Value} {x y : Operand} {C0 : Heap} {s : Value} {n : Nat} {xs : List Value} {c : List Blk} {sv : Value} {m : Nat} {ys : List Value}
    (hs : Slc el sz s n xs c) (hC : Weak C (c :: C0)) (hr : RdS W0 (c :: C0) sz sv m ys)
    (ht : T.find t = some ⟨.slice el, s0, b0⟩) (he : T.find el = some ie) (hsz : ie.size = sz) (hbt : ie.bytes = bt) (hz : zeroC T zeroFuel el = some zs) (hzl : zs.length = sz)
    (hx : look e x = some (true, s)) (hy : look e y = some (true, sv)) (h1 : ys.all (·.oneCell') = true)
    (hn : n + m ≤ 9223372036854775807) (hb : (n + m) * bt ≤ 140737488355328)
    (hk : isM (klass cf ⟨some d, .call { callee := .builtin .append, args := #[x, y], argTypes := #[t, t] }, ty, p, af, none⟩) = true) (h : ∀ v c', Slc el sz v (n + m) (xs ++ ys) c' → Weak (c' :: C0) cf.D ∧ Eng.pex T rest ((d, true, v) :: e) (fun l e => Ops W0 P cf arr k l e (c' :: C0))) : Ops W0 P cf arr k (⟨some d, .call { callee := .builtin .append, args := #[x, y], argTypes := #[t, t] }, ty, p, af, none⟩ :: rest) e C := by
  subst hsz; subst hbt
  obtain ⟨ao, cap, rfl, hmc, hrr⟩ := hr.form
  cases ao with
  | none =>
    have h0 : m = 0 := by
      rcases Nat.eq_zero_or_pos m with h | h
      · exact h
      · obtain ⟨b, off, h, _⟩ := hrr h; cases h
    subst h0
    have hys : ys = [] := List.eq_nil_of_length_eq_zero (by have := hr.len; omega)
    subst hys
    have hs' : Slc el ie.size s (n + 0) (xs ++ []) c := by simpa using hs
    obtain ⟨a, cp, rfl, hle⟩ := hs.len
    refine Ops.m rfl hk ((pure_append_nil2 hT ht he hx hy hle).m hC) ?_
    rintro _ v C' ⟨rfl, rfl⟩
    exact ⟨(h _ c hs').1, Ops.pex hT (h _ c hs').2⟩
  | some a =>
    exact Ops.m rfl hk (m_append hT hx hy hC hs hr.rda hr.len h1 (by simpa only [maxLen] using hn) hb ht he hz hzl) (by rintro _ v C' ⟨c', hs', rfl⟩; exact ⟨(h v c' hs').1, Ops.pex hT (h v c' hs').2⟩)
end
end Eng
