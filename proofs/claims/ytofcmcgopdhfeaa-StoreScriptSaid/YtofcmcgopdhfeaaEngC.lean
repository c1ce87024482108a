/- A part of the engine: elements of slices that are read whole, whole structs written into a block that is known cell by cell. -/
import Derived.Test.YtofcmcgopdhfeaaEngB
set_option maxRecDepth 100000
namespace Eng
open Go

theorem flat_at {α : Type} {f : α → List Value} {sz : Nat} (hf : ∀ x, (f x).length = sz) : ∀ (l : List α) (k j : Nat) (hk : k < l.length), j < sz → (l.map f).flatten[k * sz + j]? = (f l[k])[j]?
  | [], k, j, hk, hj => by simp at hk
  | a :: r, 0, j, hk, hj => by
    simp only [List.map_cons, List.flatten_cons, Nat.zero_mul, Nat.zero_add, List.getElem_cons_zero]
    rw [List.getElem?_append_left (by rw [hf]; exact hj)]
  | a :: r, k + 1, j, hk, hj => by
    simp only [List.map_cons, List.flatten_cons, List.getElem_cons_succ]
    rw [List.getElem?_append_right (by rw [hf, Nat.add_mul]; omega), hf]
    have := flat_at hf r k j (by simpa using hk) hj
    rw [← this]
    congr 1
    rw [Nat.add_mul]; omega

theorem flat_length {α : Type} {f : α → List Value} {sz : Nat} (hf : ∀ x, (f x).length = sz) : ∀ (l : List α), (l.map f).flatten.length = l.length * sz
  | [] => by simp
  | a :: r => by
    simp only [List.map_cons, List.flatten_cons, List.length_append, hf, flat_length hf r, List.length_cons, Nat.add_mul]
    omega

section
variable {W0 : World} {P : Program} {T : Tab} {cf : Cfg} {arr : Array Oper} {k : Env → Heap → Prop} {rest : List Oper} {e : Env} {C : Heap} {d : Nat} {ty : TypeId} {p : String} {af : Array Edge}

/-- Element k of a slice of structs, all its cells. -/
theorem RdL.elem {α : Type} {f : α → List Value} {sz : Nat} (hf : ∀ x, (f x).length = sz) {b off : Nat} {l : List α} (h : RdL W0 C b off (l.map f).flatten) {i : Nat} (hk : i < l.length) : RdL W0 C b (off + (i : Int).toNat * sz) (f l[i]) := fun j u hj => by
  have hlt : j < sz := by rw [← hf l[i]]; exact (List.getElem?_eq_some_iff.1 hj).1
  have h1 := h (i * sz + j) u (by rw [flat_at hf l i j hk hlt]; exact hj)
  rw [Int.toNat_natCast, Nat.add_assoc]
  exact h1

/-- One cell of a row. -/
theorem RdL.cell {b off j : Nat} {l : List Value} {u : Value} (h : RdL W0 C b off l) (hj : l[j]? = some u) : Rd W0 C ⟨b, off + j, none⟩ u := h j u hj

/-- A whole struct of what is read. -/
theorem Ops.loadE (hT : TabOk P T) {t : TypeId} {x : Operand} {b off : Nat} {vs : List Value} {i : TyI} (ht : T.find t = some i) (hs : i.d.agg = true) (hx : look e x = some (true, .pointer (some ⟨b, off, none⟩))) (hr : RdL W0 C b off vs) (hl : vs.length = i.size) (hk : notPure (klass cf ⟨some d, .load t x, ty, p, af, none⟩) = true)
    (h : Eng.pex T rest ((d, true, .agg vs.toArray) :: e) (fun l e => Ops W0 P cf arr k l e C)) : Ops W0 P cf arr k (⟨some d, .load t x, ty, p, af, none⟩ :: rest) e C :=
  Ops.loadN hT ht hs hx hl hr hk h

theorem all1_nil : ([] : List Value).all (·.oneCell') = true := rfl
theorem all1_cons {v : Value} {vs : List Value} (h : v.oneCell' = true) (hs : vs.all (·.oneCell') = true) : (v :: vs).all (·.oneCell') = true := by simp [h, hs]

/-- Some cells are written over. -/
inductive PutL : Nat → List Value → List Value → List Value → Prop
  | nil {l} : PutL 0 [] l l
  | cons {v vs x l l'} : PutL 0 vs l l' → PutL 0 (v :: vs) (x :: l) (v :: l')
  | skip {n vs x l l'} : PutL n vs l l' → PutL (n + 1) vs (x :: l) (x :: l')

theorem PutL.eq {n : Nat} {vs l l' : List Value} (h : PutL n vs l l') : l' = l.take n ++ vs ++ l.drop (n + vs.length) ∧ n + vs.length ≤ l.length := by
  induction h with
  | nil => simp
  | cons _ ih =>
    obtain ⟨h1, h2⟩ := ih
    constructor
    · simpa using h1
    · simp only [List.length_cons] at h2 ⊢; omega
  | @skip n vs x l l' _ ih =>
    obtain ⟨h1, h2⟩ := ih
    constructor
    · rw [show n + 1 + vs.length = (n + vs.length) + 1 by omega]; simpa using h1
    · simp only [List.length_cons]; omega

theorem Ops.storeL (hT : TabOk P T) {t : TypeId} {x y : Operand} {b off : Nat} {l l' : List Value} {bt : TypeId} {vs : List Value} {C' : Heap} {i : TyI} (ht : T.find t = some i) (hx : look e x = some (true, .pointer (some ⟨b, off, none⟩))) (hy : look e y = some (true, .agg vs.toArray)) (hs : i.size = vs.length)
    (hv : vs.all (·.oneCell') = true) (u : Upd C b (.cells l.toArray bt (0, 0)) (.cells l'.toArray bt (0, 0)) C') (hp : PutL off vs l l') (hD : Weak C' cf.D) (h : Eng.pex T rest e (fun l e => Ops W0 P cf arr k l e C')) :
    Ops W0 P cf arr k (⟨none, .store t x y, ty, p, af, none⟩ :: rest) e C := by
  obtain ⟨rfl, hoff⟩ := hp.eq
  exact Ops.storeN hT ht hs hx hy hv u hoff hD h

theorem Does.post {f : FuncId} {args : Array Value} {R R' : Value → Heap → Prop} (h : Does W0 P f args C R) (k : ∀ v C', R v C' → ∃ C'', Weak C' C'' ∧ R' v C'') : Does W0 P f args C R' := ⟨fun X w hs =>
  (h.calls X w hs).mono (by
    rintro en w' ⟨v, C', rfl, hr, hs'⟩
    obtain ⟨C'', hw, hr'⟩ := k v C' hr
    exact ⟨v, C'', rfl, hr', hs'.weak (hw.cons X)⟩)⟩

theorem Slc.zero {t sz : Nat} {s : Value} {xs : List Value} {c : List Blk} (h : Slc t sz s 0 xs c) : RdS W0 C sz s 0 [] := by
  obtain ⟨a, cap, rfl, hc⟩ := h.len
  exact ⟨⟨a, cap, rfl, hc, fun h => absurd h (by omega)⟩, by simp⟩

/-! ### One's own slice: shorter; an element written -/

theorem Slc.shrink {t sz : Nat} {a : Option Addr} {n cap k : Nat} {xs : List Value} {c : List Blk} (h : Slc t sz (.slice a n cap) n xs c) (hk : k ≤ n) : Slc t sz (.slice a k cap) k (xs.take (k * sz)) c := by
  have hl := h.1
  have hmul : k * sz ≤ n * sz := Nat.mul_le_mul_right sz hk
  refine ⟨by rw [List.length_take, hl]; omega, ?_⟩
  rcases h.2 with ⟨hs, rfl, rfl⟩ | ⟨b, cap', rest, hs, rfl, hn, hc, hlen⟩
  · cases hs
    have : k = 0 := by omega
    subst this
    exact .inl ⟨rfl, rfl, rfl⟩
  · cases hs
    refine .inr ⟨b, cap, xs.drop (k * sz) ++ rest, rfl, ?_, by omega, hc, ?_⟩
    · rw [← List.append_assoc, List.take_append_drop]
    · rw [← List.append_assoc, List.take_append_drop]; exact hlen

/-- An element of one cell. -/
theorem Ops.storeS (hT : TabOk P T) {t el : TypeId} {x y : Operand} {ao : Option Addr} {b off n cap : Nat} {xs : List Value} {c : List Blk} {C0 : Heap} {v : Value} {i : TyI} (hs : Slc el 1 (.slice ao n cap) n xs c) (hj : off < n) (ht : T.find t = some i) (h1 : Nat.beq i.size 1 = true)
    (hx : look e x = some (true, .pointer (some ⟨b, off, none⟩))) (hao : ao = some ⟨b, 0, none⟩) (hy : look e y = some (true, v)) (hv : v.oneCell' = true) (hC : Pick c C C0)
    (h : ∀ c', Slc el 1 (.slice ao n cap) n (xs.set off v) c' → Weak (c' :: C0) cf.D ∧ Eng.pex T rest e (fun l e => Ops W0 P cf arr k l e (c' :: C0))) :
    Ops W0 P cf arr k (⟨none, .store t x y, ty, p, af, none⟩ :: rest) e C := by
  subst hao
  rcases hs.2 with ⟨hs', _, _⟩ | ⟨b', cap', rest', hs', rfl, hn, hc, hlen⟩
  · cases hs'
  · cases hs'
    have hxl : xs.length = n := by simpa using hs.1
    have hset : (xs ++ rest').set off v = xs.set off v ++ rest' := List.set_append_left _ _ (by omega)
    have u : Upd ([(b, Obj.cells (xs ++ rest').toArray el (0, 0))] :: C0) b (.cells (xs ++ rest').toArray el (0, 0)) (.cells ((xs ++ rest').set off v).toArray el (0, 0)) ([(b, Obj.cells ((xs ++ rest').set off v).toArray el (0, 0))] :: C0) := Upd.here
    have hm := (m_store (W0 := W0) (e := e) (ty := ty) (p := p) (af := af) (g := none) hT ht h1 hx hy hv (by simp; omega) u).weak hC.weak
    refine Ops.m rfl rfl hm ?_
    rintro _ v' C' ⟨rfl, rfl⟩
    have := h [(b, Obj.cells ((xs ++ rest').set off v).toArray el (0, 0))] ⟨by simpa using hs.1, .inr ⟨b, cap, rest', rfl, by rw [hset], hn, hc, by simpa using hlen⟩⟩
    exact ⟨this.1, Ops.pex hT this.2⟩

/-- A whole row of cells at a place that is reckoned. -/
theorem Ops.storeM (hT : TabOk P T) {t : TypeId} {x y : Operand} {b off : Nat} {l : List Value} {bt : TypeId} {vs : List Value} {C' : Heap} {i : TyI} (ht : T.find t = some i) (hx : look e x = some (true, .pointer (some ⟨b, off, none⟩))) (hy : look e y = some (true, .agg vs.toArray)) (hs : i.size = vs.length)
    (hv : vs.all (·.oneCell') = true) (u : Upd C b (.cells l.toArray bt (0, 0)) (.cells (l.take off ++ vs ++ l.drop (off + vs.length)).toArray bt (0, 0)) C') (hoff : off + vs.length ≤ l.length) (hD : Weak C' cf.D) (h : Eng.pex T rest e (fun l e => Ops W0 P cf arr k l e C')) :
    Ops W0 P cf arr k (⟨none, .store t x y, ty, p, af, none⟩ :: rest) e C := Ops.storeN hT ht hs hx hy hv u hoff hD h

/-! ### append where there is room: in place -/

theorem m_appendR (hT : TabOk P T) {g : Option (Nat × Bool)} {d : Option Nat} {t el : TypeId} {s0 b0 : Nat} {ie : TyI} {x y : Operand} {C0 : Heap} {b n gcap : Nat} {xs rs : List Value} {sa : Addr} {m cap : Nat} {ys : List Value}
    (hx : look e x = some (true, .slice (some ⟨b, 0, none⟩) n gcap)) (hy : look e y = some (true, .slice (some sa) m cap)) (hC : Weak C ([(b, .cells (xs ++ rs).toArray el (0, 0))] :: C0)) (hr : RdA W0 ([(b, .cells (xs ++ rs).toArray el (0, 0))] :: C0) sa ys) (hl : ys.length = m * ie.size) (h1 : ys.all (·.oneCell') = true)
    (hxl : xs.length = n * ie.size) (hgl : (xs ++ rs).length = gcap * ie.size) (hroom : n + m ≤ gcap)
    (ht : T.find t = some ⟨.slice el, s0, b0⟩) (he : T.find el = some ie) :
    MV W0 P e C ⟨d, .call { callee := .builtin .append, args := #[x, y], argTypes := #[t, t] }, ty, p, af, g⟩ (fun v C' => v = .slice (some ⟨b, 0, none⟩) (n + m) gcap ∧ C' = [(b, .cells (xs ++ ys ++ rs.drop ys.length).toArray el (0, 0))] :: C0) := fun X ac ha w next Q hw hnx => by
  have h3 := ha x (by simp [Op.operands, Call.operands]) _ hx
  have h4 := ha y (by simp [Op.operands, Call.operands]) _ hy
  have hw2 := hw.weak ((hC.cons X).trans (Weak.swap X _ C0))
  obtain ⟨pi, pd, hpi, hpd, hsz, hby, hdo⟩ := hT.info he
  have hcells := cells_at hw2 (hr.mono ((Weak.skip X C0).cons _))
  have h1' : ∀ u ∈ ys, u.oneCell' = true := List.all_eq_true.1 h1
  rw [← hsz] at hl hxl hgl
  have hg := (hw2.own (b, .cells (xs ++ rs).toArray el (0, 0)) (by simp)).2
  simp only at hg
  have hfit : n * pi.size + ys.length ≤ (xs ++ rs).toArray.size := by
    simp only [List.size_toArray]
    rw [hl, hgl, ← Nat.add_mul]
    exact Nat.mul_le_mul_right _ hroom
  have hrun := run_append_room (P := P) w t ty el pi (hT.slice ht) hpi b n gcap (xs ++ rs).toArray hg sa m cap ys hl hcells h1' hroom hfit
  have hcat : ((xs ++ rs).toArray.toList.take (n * pi.size) ++ ys ++ (xs ++ rs).toArray.toList.drop (n * pi.size + ys.length)).toArray = (xs ++ ys ++ rs.drop ys.length).toArray := by
    congr 1
    simp only [← hxl]
    simp [List.drop_append]
  rw [hcat] at hrun
  have hsat := hw2.setRow (cs' := (xs ++ ys ++ rs.drop ys.length).toArray) .here
  refine exec_value ?_ (hnx _ _ _ ⟨rfl, rfl⟩ (hsat.weak (Weak.swap _ X C0)))
  have hx : execOp ac.eval ⟨d, .call { callee := .builtin .append, args := #[x, y], argTypes := #[t, t] }, ty, p, af, g⟩ = (do let d ← resolve ac.eval { callee := .builtin .append, args := #[x, y], argTypes := #[t, t] } ty; invoke d.target d.args) := rfl
  rw [hx]
  simp [resolve, invoke, builtin, h3, h4, hrun]

theorem Ops.appendR (hT : TabOk P T) {t el : TypeId} {s0 b0 sz : Nat} {ie : TyI} {x y : Operand} {C0 : Heap} {b n gcap : Nat} {xs rs : List Value} {sv : Value} {m : Nat} {ys : List Value}
    (hC : Weak C ([(b, .cells (xs ++ rs).toArray el (0, 0))] :: C0)) (hr : RdS W0 ([(b, .cells (xs ++ rs).toArray el (0, 0))] :: C0) sz sv m ys) (hgl : (xs ++ rs).length = gcap * sz ∧ xs.length = n * sz) (hroom : n + m ≤ gcap)
    (ht : T.find t = some ⟨.slice el, s0, b0⟩) (he : T.find el = some ie) (hsz : ie.size = sz)
    (hx : look e x = some (true, .slice (some ⟨b, 0, none⟩) n gcap)) (hy : look e y = some (true, sv)) (h1 : ys.all (·.oneCell') = true)
    (hk : isM (klass cf ⟨some d, .call { callee := .builtin .append, args := #[x, y], argTypes := #[t, t] }, ty, p, af, none⟩) = true)
    (h : Weak ([(b, .cells (xs ++ ys ++ rs.drop ys.length).toArray el (0, 0))] :: C0) cf.D ∧ Eng.pex T rest ((d, true, .slice (some ⟨b, 0, none⟩) (n + m) gcap) :: e) (fun l e => Ops W0 P cf arr k l e ([(b, .cells (xs ++ ys ++ rs.drop ys.length).toArray el (0, 0))] :: C0))) :
    Ops W0 P cf arr k (⟨some d, .call { callee := .builtin .append, args := #[x, y], argTypes := #[t, t] }, ty, p, af, none⟩ :: rest) e C := by
  subst hsz
  obtain ⟨ao, cap, rfl, hc, h2⟩ := hr.form
  rcases Nat.eq_zero_or_pos m with hm | hm
  · subst hm
    have hy0 : ys = [] := List.eq_nil_of_length_eq_zero (by simpa using hr.len)
    subst hy0
    cases ao with
    | none =>
      simp only [List.length_nil, List.drop_zero, List.append_nil, Nat.add_zero] at h
      exact Ops.m rfl hk ((pure_append_nil2 hT ht he hx hy (by omega)).m hC) (by rintro _ v C' ⟨rfl, rfl⟩; exact ⟨h.1, Ops.pex hT h.2⟩)
    | some sa =>
      exact Ops.m rfl hk (m_appendR hT hx hy hC RdA.nil (by simp) rfl hgl.2 hgl.1 hroom ht he) (by rintro _ v C' ⟨rfl, rfl⟩; exact ⟨h.1, Ops.pex hT h.2⟩)
  · obtain ⟨b2, off, rfl, r⟩ := h2 hm
    exact Ops.m rfl hk (m_appendR hT hx hy hC r.a hr.len h1 hgl.2 hgl.1 hroom ht he) (by rintro _ v C' ⟨rfl, rfl⟩; exact ⟨h.1, Ops.pex hT h.2⟩)

/-! ### copy -/

theorem m_copy (hT : TabOk P T) {dd : Option Nat} {g : Option (Nat × Bool)} {t el sz : Nat} {s0 b0 : Nat} {i : TyI} {x y : Operand} {b off dl dc : Nat} {l : List Value} {bt : TypeId} {sv : Value} {m : Nat} {ys : List Value} {C' : Heap} (ht : T.find t = some ⟨.slice el, s0, b0⟩) (he : T.find el = some i) (hsz : i.size = sz)
    (hx : look e x = some (true, .slice (some ⟨b, off, none⟩) dl dc)) (hy : look e y = some (true, sv)) (hr : RdS W0 C sz sv m ys) (hm : m ≤ dl) (hv : ∀ v ∈ ys, v.oneCell' = true) (hoff : off + ys.length ≤ l.length)
    (u : Upd C b (.cells l.toArray bt (0, 0)) (.cells (l.take off ++ ys ++ l.drop (off + ys.length)).toArray bt (0, 0)) C') :
    MV W0 P e C ⟨dd, .call { callee := .builtin .copy, args := #[x, y], argTypes := #[t, t] }, ty, p, af, g⟩ (fun v C'' => v = .int .i64 m ∧ C'' = C') := fun X ac ha w next Q hw hn => by
  have h3 := ha x (by simp [Op.operands, Call.operands]) _ hx
  have h4 := ha y (by simp [Op.operands, Call.operands]) _ hy
  subst hsz
  obtain ⟨ao, cap, rfl, hmc, hrr⟩ := hr.form
  have hb := (Upd.skip (c := X) u).at_ w hw
  have hst := run_storeCells_at P b off bt ys 0 l.toArray w hb (by simpa using hoff) hv
  simp only [Nat.add_zero] at hst
  have hmin : Nat.min m dl = m := Nat.min_eq_left hm
  have hfirst : (Builtin.firstCells i.size m (.slice ao m cap)).run P w = .ok ys.toArray w := by
    cases ao with
    | none =>
      have h0 : m = 0 := by
        rcases Nat.eq_zero_or_pos m with h | h
        · exact h
        · obtain ⟨b', off', h, _⟩ := hrr h; cases h
      have hys : ys = [] := List.eq_nil_of_length_eq_zero (by rw [hr.len, h0]; simp)
      subst hys
      simp [Builtin.firstCells]
    | some a =>
      have hc := run_loadCells_list (P := P) w a ys (cells_at (hw.weak (Weak.skip X C)) hr.rda)
      rw [hr.len] at hc
      simp [Builtin.firstCells, hc]
  refine exec_value (w' := w.setRow b (l.take off ++ ys ++ l.drop (off + ys.length)).toArray) (v := .int .i64 m) ?_ (hn _ C' _ ⟨rfl, rfl⟩ (hw.setRow (Upd.skip u)))
  have hx : execOp ac.eval ⟨dd, .call { callee := .builtin .copy, args := #[x, y], argTypes := #[t, t] }, ty, p, af, g⟩ = (do let d ← resolve ac.eval { callee := .builtin .copy, args := #[x, y], argTypes := #[t, t] } ty; invoke d.target d.args) := rfl
  rw [hx]
  have hlen : (Builtin.lenOf (.slice ao m cap)).run P w = .ok m w := by simp [Builtin.lenOf]
  simp [resolve, invoke, builtin, h3, h4, Builtin.copy_, run_underlying (hT.slice ht), hlen, hmin, hT.size he, hfirst, hst, goInt]

theorem Ops.copy (hT : TabOk P T) {t el sz : Nat} {s0 b0 : Nat} {i : TyI} {x y : Operand} {b off dl dc : Nat} {l : List Value} {bt : TypeId} {sv : Value} {m : Nat} {ys : List Value} {C' : Heap} (hr : RdS W0 C sz sv m ys) (ht : T.find t = some ⟨.slice el, s0, b0⟩) (he : T.find el = some i) (hsz : i.size = sz)
    (hx : look e x = some (true, .slice (some ⟨b, off, none⟩) dl dc)) (hy : look e y = some (true, sv)) (hm : m ≤ dl) (hv : ys.all (·.oneCell') = true)
    (u : Upd C b (.cells l.toArray bt (0, 0)) (.cells (l.take off ++ ys ++ l.drop (off + ys.length)).toArray bt (0, 0)) C') (hoff : off + ys.length ≤ l.length) (hk : isM (klass cf ⟨some d, .call { callee := .builtin .copy, args := #[x, y], argTypes := #[t, t] }, ty, p, af, none⟩) = true) (hD : Weak C' cf.D)
    (h : Eng.pex T rest ((d, true, .int .i64 m) :: e) (fun l e => Ops W0 P cf arr k l e C')) : Ops W0 P cf arr k (⟨some d, .call { callee := .builtin .copy, args := #[x, y], argTypes := #[t, t] }, ty, p, af, none⟩ :: rest) e C :=
  Ops.m rfl hk (m_copy hT ht he hsz hx hy hr hm (List.all_eq_true.1 hv) hoff u) (by rintro _ v C' ⟨rfl, rfl⟩; exact ⟨hD, Ops.pex hT h⟩)

/-! ### Whole structs of what stays -/

theorem stab_loadN (hT : TabOk P T) {D : Heap} {dd : Option Nat} {g : Option (Nat × Bool)} {t : TypeId} {x : Operand} {b off : Nat} {vs : List Value} {i : TyI} (ht : T.find t = some i) (hs : i.d.agg = true) (hl : vs.length = i.size)
    (hx : look e x = some (true, .pointer (some ⟨b, off, none⟩))) (hr : RdL W0 D b off vs) : StabV W0 P e D ⟨dd, .load t x, ty, p, af, g⟩ (.agg vs.toArray) := fun ρ ha w hw => by
  have h1 := ha x (by simp [Op.operands]) _ hx
  have : execOp ρ ⟨dd, .load t x, ty, p, af, g⟩ = (do pure (.value (← Instr.loadAt t (ρ x)))) := rfl
  rw [this, h1]
  have ho : i.d ≠ .other := by intro h; rw [h] at hs; cases hs
  have hc := run_loadCells_list (P := P) w ⟨b, off, none⟩ vs (fun j u hj => by rw [addr_add]; exact hr j u hj w hw)
  rw [hl] at hc
  simp [Instr.loadAt, Instr.sureAddr, loadVar, hT.isAgg ht ho, hs, hT.size ht, hc]

theorem Ops.loadLS (hT : TabOk P T) {t : TypeId} {x : Operand} {b off : Nat} {l vs : List Value} {bt : TypeId} {fr : Nat × Nat} {i : TyI} (hk : klass cf ⟨some d, .load t x, ty, p, af, none⟩ = .stable) (ht : T.find t = some i) (hs : i.d.agg = true) (hx : look e x = some (true, .pointer (some ⟨b, off, none⟩))) (hr : At W0 cf.D b (.cells l.toArray bt fr)) (hl : TakeL off i.size l vs)
    (h : Eng.pex T rest ((d, true, .agg vs.toArray) :: e) (fun l e => Ops W0 P cf arr k l e C)) : Ops W0 P cf arr k (⟨some d, .load t x, ty, p, af, none⟩ :: rest) e C :=
  Ops.stab rfl hk (stab_loadN hT ht hs hl.eq.2.1 hx (RdL.lit hr hl)) (Ops.pex hT h)

theorem Ops.loadES (hT : TabOk P T) {t : TypeId} {x : Operand} {b off : Nat} {vs : List Value} {i : TyI} (hk : klass cf ⟨some d, .load t x, ty, p, af, none⟩ = .stable) (ht : T.find t = some i) (hs : i.d.agg = true) (hx : look e x = some (true, .pointer (some ⟨b, off, none⟩))) (hr : RdL W0 cf.D b off vs) (hl : vs.length = i.size)
    (h : Eng.pex T rest ((d, true, .agg vs.toArray) :: e) (fun l e => Ops W0 P cf arr k l e C)) : Ops W0 P cf arr k (⟨some d, .load t x, ty, p, af, none⟩ :: rest) e C :=
  Ops.stab rfl hk (stab_loadN hT ht hs hl hx hr) (Ops.pex hT h)

/-- Whole structs, read under a guard. -/
theorem Ops.gloadL (hT : TabOk P T) {t : TypeId} {x : Operand} {j : Nat} {want G : Bool} {b off : Nat} {l vs : List Value} {bt : TypeId} {fr : Nat × Nat} {i : TyI} (hg : guardOk arr e (some (j, want)) G) (ht : T.find t = some i) (hs : i.d.agg = true) (hx : lookU e x = some (true, .pointer (some ⟨b, off, none⟩)))
    (hf : flagsOk G e [x]) (hr : At W0 C b (.cells l.toArray bt fr)) (hl : TakeL off i.size l vs) (hk : klass cf ⟨some d, .load t x, ty, p, af, some (j, want)⟩ = .quiet)
    (h : Eng.pex T rest ((d, G, .agg vs.toArray) :: e) (fun l e => Ops W0 P cf arr k l e C)) : Ops W0 P cf arr k (⟨some d, .load t x, ty, p, af, some (j, want)⟩ :: rest) e C :=
  Ops.gquiet hg hk (fun hG => quiet_loadN hT ht hs hl.eq.2.1 (lookU_look hG hf hx) (RdL.lit hr hl)) (Ops.pex hT h)

theorem Ops.gloadE (hT : TabOk P T) {t : TypeId} {x : Operand} {j : Nat} {want G : Bool} {b off : Nat} {vs : List Value} {i : TyI} (hg : guardOk arr e (some (j, want)) G) (ht : T.find t = some i) (hs : i.d.agg = true) (hx : lookU e x = some (true, .pointer (some ⟨b, off, none⟩)))
    (hf : flagsOk G e [x]) (hr : RdL W0 C b off vs) (hl : vs.length = i.size) (hk : klass cf ⟨some d, .load t x, ty, p, af, some (j, want)⟩ = .quiet)
    (h : Eng.pex T rest ((d, G, .agg vs.toArray) :: e) (fun l e => Ops W0 P cf arr k l e C)) : Ops W0 P cf arr k (⟨some d, .load t x, ty, p, af, some (j, want)⟩ :: rest) e C :=
  Ops.gquiet hg hk (fun hG => quiet_loadN hT ht hs hl (lookU_look hG hf hx) hr) (Ops.pex hT h)

theorem Ops.gloadLS (hT : TabOk P T) {t : TypeId} {x : Operand} {j : Nat} {want G : Bool} {b off : Nat} {l vs : List Value} {bt : TypeId} {fr : Nat × Nat} {i : TyI} (hk : klass cf ⟨some d, .load t x, ty, p, af, some (j, want)⟩ = .stable) (hg : guardOk arr e (some (j, want)) G) (ht : T.find t = some i) (hs : i.d.agg = true) (hx : lookU e x = some (true, .pointer (some ⟨b, off, none⟩)))
    (hf : flagsOk G e [x]) (hr : At W0 cf.D b (.cells l.toArray bt fr)) (hl : TakeL off i.size l vs)
    (h : Eng.pex T rest ((d, G, .agg vs.toArray) :: e) (fun l e => Ops W0 P cf arr k l e C)) : Ops W0 P cf arr k (⟨some d, .load t x, ty, p, af, some (j, want)⟩ :: rest) e C :=
  Ops.gstab hg hk (fun hG => stab_loadN hT ht hs hl.eq.2.1 (lookU_look hG hf hx) (RdL.lit hr hl)) (Ops.pex hT h)

theorem Ops.gloadES (hT : TabOk P T) {t : TypeId} {x : Operand} {j : Nat} {want G : Bool} {b off : Nat} {vs : List Value} {i : TyI} (hk : klass cf ⟨some d, .load t x, ty, p, af, some (j, want)⟩ = .stable) (hg : guardOk arr e (some (j, want)) G) (ht : T.find t = some i) (hs : i.d.agg = true) (hx : lookU e x = some (true, .pointer (some ⟨b, off, none⟩)))
    (hf : flagsOk G e [x]) (hr : RdL W0 cf.D b off vs) (hl : vs.length = i.size)
    (h : Eng.pex T rest ((d, G, .agg vs.toArray) :: e) (fun l e => Ops W0 P cf arr k l e C)) : Ops W0 P cf arr k (⟨some d, .load t x, ty, p, af, some (j, want)⟩ :: rest) e C :=
  Ops.gstab hg hk (fun hG => stab_loadN hT ht hs hl (lookU_look hG hf hx) hr) (Ops.pex hT h)

/-- One operation that is reckoned; a sum that may run over. -/
theorem Ops.one (hT : TabOk P T) {o : Oper} {v : Value} {c : Prop} (hg : o.guard = none) (h : (Eng.step T o (look e)).value = some (v, c)) (hc : c) (hk : isFresh (klass cf o) = false)
    (hn : Ops W0 P cf arr k rest (ext o.dst true v e) C) : Ops W0 P cf arr k (o :: rest) e C := by
  refine Ops.pure hg hk (PureL.step hT ?_ hc) hn
  obtain ⟨d, op, ty, p, af, g⟩ := o
  simp only at hg
  subst hg
  exact h
theorem Ops.wrapAdd (hT : TabOk P T) {xt yt : TypeId} {x y : Operand} {kd : IntKind} {a b : Int} (hx : look e x = some (true, .int kd a)) (hy : look e y = some (true, .int kd b))
    (hk : isFresh (klass cf ⟨some d, .binOp .add xt x y yt, ty, p, af, none⟩) = false)
    (hn : Eng.pex T rest ((d, true, .int kd (kd.wrap (a + b))) :: e) (fun l e => Ops W0 P cf arr k l e C)) : Ops W0 P cf arr k (⟨some d, .binOp .add xt x y yt, ty, p, af, none⟩ :: rest) e C :=
  Ops.pure rfl hk (pure_wrap hx hy (.inl ⟨rfl, rfl⟩)) (Ops.pex hT hn)

/-! ### Results that lie in memory -/

inductive Res (T : Tab) (W0 : World) (e : Env) (C : Heap) : List ResultVar → List Value → Prop
  | nil : Res T W0 e C [] []
  | tmp {t v rs vs} : get e t = some (true, v) → Res T W0 e C rs vs → Res T W0 e C (.tmp t :: rs) (v :: vs)
  | cell {a t ad v rs vs i} : get e a = some (true, .pointer (some ad)) → T.find t = some i → (i.d.known && !i.d.agg) = true → Rd W0 C ad v → Res T W0 e C rs vs → Res T W0 e C (.cell a t :: rs) (v :: vs)
  | cells {a t b off l rs vs i} : get e a = some (true, .pointer (some ⟨b, off, none⟩)) → T.find t = some i → i.d.agg = true → RdL W0 C b off l → l.length = i.size → Res T W0 e C rs vs → Res T W0 e C (.cell a t :: rs) (.agg l.toArray :: vs)

theorem mapM_cons_ok {α : Type} {f : α → Sem Value} {x : α} {l : List α} {v : Value} {vs : List Value} {w : World} (h : (f x).run P w = .ok v w) (h2 : (l.mapM f).run P w = .ok vs w) : ((x :: l).mapM f).run P w = .ok (v :: vs) w := by
  rw [List.mapM_cons]
  simp only [Sem.run_bind, h, Result.andThen_ok, h2, Sem.run_pure]

/-- One result. -/
def resOne (a : Act) : ResultVar → Sem Value
  | .tmp t => pure (a.tmps.getD t undef)
  | .cell c t => do loadVar t (← asAddr (a.tmps.getD c undef))

theorem Res.run (hT : TabOk P T) {rs : List ResultVar} {vs : List Value} (h : Res T W0 e C rs vs) {m : Nat} {a : Act} {w : World} (ha : Has m a e) (hw : Sat W0 w C) :
    (rs.mapM (resOne a)).run P w = .ok vs w := by
  induction h with
  | nil => simp
  | @tmp t v rs vs hg _ ih =>
    have := ha.slot t true v hg
    refine mapM_cons_ok ?_ ih
    simp [resOne, this]
  | @cell c t ad v rs vs i hg ht hs hr _ ih =>
    have h1 := ha.slot c true _ hg
    have ho : i.d ≠ .other := by intro h; rw [h] at hs; cases hs
    have hs : i.d.agg = false := by cases h : i.d.agg with | false => rfl | true => rw [h] at hs; simp at hs
    refine mapM_cons_ok ?_ ih
    simp [resOne, h1, asAddr, loadVar, hT.isAgg ht ho, hs, load, Sem.run, hr w hw]
  | @cells c t b off l rs vs i hg ht hs hr hl _ ih =>
    have h1 := ha.slot c true _ hg
    have ho : i.d ≠ .other := by intro h; rw [h] at hs; cases hs
    have hc := run_loadCells_list (P := P) w ⟨b, off, none⟩ l (fun j u hj => by rw [addr_add]; exact hr j u hj w hw)
    rw [hl] at hc
    refine mapM_cons_ok ?_ ih
    simp [resOne, h1, asAddr, loadVar, hT.isAgg ht ho, hs, hT.size ht, hc]

theorem Res.ok (hT : TabOk P T) {rs : List ResultVar} {vs : List Value} (h : Res T W0 e C rs vs) : ResOk W0 P e C rs (tup vs) := fun m fn a w hr ha hw => by
  have h1 := h.run hT ha hw
  have h2 : results fn a.tmps = (do let vs ← fn.results.mapM (resOne a); pure (if h : vs.size = 1 then vs[0] else .tuple vs)) := rfl
  rw [h2, hr]
  simp only [Sem.run_bind, Array.mapM_eq_mapM_toList, Sem.run_map]
  rw [h1]
  match vs with
  | [] => simp [tup]
  | [v] => simp [tup]
  | v :: u :: vs => simp [tup]

theorem retR_ret (hT : TabOk P T) {rs : List ResultVar} {R : Value → Heap → Prop} {vs : List Value} {C' : Heap} (h : Res T W0 e C rs vs) (hw : Weak C C') (hr : R (tup vs) C') : retK W0 P rs R .ret e C := ⟨_, C', h.ok hT, hw, hr⟩
theorem retR_end (hT : TabOk P T) {rs : List ResultVar} {R : Value → Heap → Prop} {vs : List Value} {C' : Heap} (h : Res T W0 e C rs vs) (hw : Weak C C') (hr : R (tup vs) C') : retK W0 P rs R .normal e C := ⟨_, C', h.ok hT, hw, hr⟩

end
end Eng
