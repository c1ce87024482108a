/-
  The engine: calls, structs, maps, drawn regions, ranges over maps. No conditions but those that each theorem names.
-/
import Derived.Test.YtfmjehkohlbebaaGreatDoorE3
import Derived.MapKept
import Derived.Maps.RangeRun
set_option maxRecDepth 100000
namespace Eng
open Go
section
variable {W0 : World} {P : Program} {T : Tab} {cf : Cfg} {arr : Array Oper} {k : Env → Heap → Prop} {rest : List Oper} {e : Env} {C : Heap} {d : Nat} {ty : TypeId} {p : String} {af : Array Edge}
end
end Eng
set_option maxRecDepth 100000
namespace Eng
open Go
section
variable {W0 : World} {P : Program} {T : Tab} {cf : Cfg} {arr : Array Oper} {k : Env → Heap → Prop} {rest : List Oper} {e : Env} {C : Heap} {d : Nat} {ty : TypeId} {p : String} {af : Array Edge}
theorem Ops.loadE (hT : TabOk P T) {t : TypeId} {x : Operand} {b off : Nat} {vs : List Value} {i : TyI} (ht : T.find t = some i) (hs : i.d.agg = true) (hx : look e x = some (true, .pointer (some ⟨b, off, none⟩))) (hr : RdL W0 C b off vs) (hl : vs.length = i.size) (hk : notPure (klass cf ⟨some d, .load t x, ty, p, af, none⟩) = true)
    (h : Eng.pex T rest ((d, true, .agg vs.toArray) :: e) (fun l e => Ops W0 P cf arr k l e C)) : Ops W0 P cf arr k (⟨some d, .load t x, ty, p, af, none⟩ :: rest) e C :=
  Ops.loadN hT ht hs hx hl hr hk h
theorem all1_nil : ([] : List Value).all (·.oneCell') = true := rfl
theorem all1_cons {v : Value} {vs : List Value} (h : v.oneCell' = true) (hs : vs.all (·.oneCell') = true) : (v :: vs).all (·.oneCell') = true := by simp [h, hs]
inductive PutL : Nat → List Value → List Value → List Value → Prop
  | nil {l} : PutL 0 [] l l
  | cons {v vs x l l'} : PutL 0 vs l l' → PutL 0 (v :: vs) (x :: l) (v :: l')
  | skip {n vs x l l'} : PutL n vs l l' → PutL (n + 1) vs (x :: l) (x :: l')
theorem PutL.eq {n : Nat} {vs l l' : List Value} (h : PutL n vs l l') : l' = l.take n ++ vs ++ l.drop (n + vs.length) ∧ n + vs.length ≤ l.length := by
  induction h with
  | nil => simp
  | cons _ ih =>
    obtain ⟨h1, h2⟩ := ih
    constructor
    · simpa using h1
    · simp only [List.length_cons] at h2 ⊢; omega
  | @skip n vs x l l' _ ih =>
    obtain ⟨h1, h2⟩ := ih
    constructor
    · rw [show n + 1 + vs.length = (n + vs.length) + 1 by omega]; simpa using h1
    · simp only [List.length_cons]; omega
theorem Ops.storeL (hT : TabOk P T) {t : TypeId} {x y : Operand} {b off : Nat} {l l' : List Value} {bt : TypeId} {vs : List Value} {C' : Heap} {i : TyI} (ht : T.find t = some i) (hx : look e x = some (true, .pointer (some ⟨b, off, none⟩))) (hy : look e y = some (true, .agg vs.toArray)) (hs : i.size = vs.length)
    (hv : vs.all (·.oneCell') = true) (u : Upd C b (.cells l.toArray bt (0, 0)) (.cells l'.toArray bt (0, 0)) C') (hp : PutL off vs l l') (hD : Weak C' cf.D) (h : Eng.pex T rest e (fun l e => Ops W0 P cf arr k l e C')) :
    Ops W0 P cf arr k (⟨none, .store t x y, ty, p, af, none⟩ :: rest) e C := by
  obtain ⟨rfl, hoff⟩ := hp.eq
  exact Ops.storeN hT ht hs hx hy hv u hoff hD h
theorem m_copy (hT : TabOk P T) {dd : Option Nat} {g : Option (Nat × Bool)} {t el sz : Nat} {s0 b0 : Nat} {i : TyI} {x y : Operand} {b off dl dc : Nat} {l : List Value} {bt : TypeId} {sv : Value} {m : Nat} {ys : List Value} {C' : Heap} (ht : T.find t = some ⟨.slice el, s0, b0⟩) (he : T.find el = some i) (hsz : i.size = sz)
    (hx : look e x = some (true, .slice (some ⟨b, off, none⟩) dl dc)) (hy : look e y = some (true, sv)) (hr : RdS W0 C sz sv m ys) (hm : m ≤ dl) (hv : ∀ v ∈ ys, v.oneCell' = true) (hoff : off + ys.length ≤ l.length)
    (u : Upd C b (.cells l.toArray bt (0, 0)) (.cells (l.take off ++ ys ++ l.drop (off + ys.length)).toArray bt (0, 0)) C') :
    MV W0 P e C ⟨dd, .call { callee := .builtin .copy, args := #[x, y], argTypes := #[t, t] }, ty, p, af, g⟩ (fun v C'' => v = .int .i64 m ∧ C'' = C') := fun X ac ha w next Q hw hn => by
  have h3 := ha x (by simp [Op.operands, Call.operands]) _ hx
  have h4 := ha y (by simp [Op.operands, Call.operands]) _ hy
  subst hsz
  obtain ⟨ao, cap, rfl, hmc, hrr⟩ := hr.form
  have hb := (Upd.skip (c := X) u).at_ w hw
  have hst := run_storeCells_at P b off bt ys 0 l.toArray w hb (by simpa using hoff) hv
  simp only [Nat.add_zero] at hst
  have hmin : Nat.min m dl = m := Nat.min_eq_left hm
  have hfirst : (Builtin.firstCells i.size m (.slice ao m cap)).run P w = .ok ys.toArray w := by
    cases ao with
    | none =>
      have h0 : m = 0 := by
        rcases Nat.eq_zero_or_pos m with h | h
        · exact h
        · obtain ⟨b', off', h, _⟩ := hrr h; cases h
      have hys : ys = [] := List.eq_nil_of_length_eq_zero (by rw [hr.len, h0]; simp)
      subst hys
      simp [Builtin.firstCells]
    | some a =>
      have hc := run_loadCells_list (P := P) w a ys (cells_at (hw.weak (Weak.skip X C)) hr.rda)
      rw [hr.len] at hc
      simp [Builtin.firstCells, hc]
  refine exec_value (w' := w.setRow b (l.take off ++ ys ++ l.drop (off + ys.length)).toArray) (v := .int .i64 m) ?_ (hn _ C' _ ⟨rfl, rfl⟩ (hw.setRow (Upd.skip u)))
  have hx : execOp ac.eval ⟨dd, .call { callee := .builtin .copy, args := #[x, y], argTypes := #[t, t] }, ty, p, af, g⟩ = (do let d ← resolve ac.eval { callee := .builtin .copy, args := #[x, y], argTypes := #[t, t] } ty; invoke d.target d.args) := rfl
  rw [hx]
  have hlen : (Builtin.lenOf (.slice ao m cap)).run P w = .ok m w := by simp [Builtin.lenOf]
  simp [resolve, invoke, builtin, h3, h4, Builtin.copy_, run_underlying (hT.slice ht), hlen, hmin, hT.size he, hfirst, hst, goInt]
theorem stab_loadN (hT : TabOk P T) {D : Heap} {dd : Option Nat} {g : Option (Nat × Bool)} {t : TypeId} {x : Operand} {b off : Nat} {vs : List Value} {i : TyI} (ht : T.find t = some i) (hs : i.d.agg = true) (hl : vs.length = i.size)
    (hx : look e x = some (true, .pointer (some ⟨b, off, none⟩))) (hr : RdL W0 D b off vs) : StabV W0 P e D ⟨dd, .load t x, ty, p, af, g⟩ (.agg vs.toArray) := fun ρ ha w hw => by
  have h1 := ha x (by simp [Op.operands]) _ hx
  have : execOp ρ ⟨dd, .load t x, ty, p, af, g⟩ = (do pure (.value (← Instr.loadAt t (ρ x)))) := rfl
  rw [this, h1]
  have ho : i.d ≠ .other := by intro h; rw [h] at hs; cases hs
  have hc := run_loadCells_list (P := P) w ⟨b, off, none⟩ vs (fun j u hj => by rw [addr_add]; exact hr j u hj w hw)
  rw [hl] at hc
  simp [Instr.loadAt, Instr.sureAddr, loadVar, hT.isAgg ht ho, hs, hT.size ht, hc]
inductive Res (T : Tab) (W0 : World) (e : Env) (C : Heap) : List ResultVar → List Value → Prop
  | nil : Res T W0 e C [] []
  | tmp {t v rs vs} : get e t = some (true, v) → Res T W0 e C rs vs → Res T W0 e C (.tmp t :: rs) (v :: vs)
  | cell {a t ad v rs vs i} : get e a = some (true, .pointer (some ad)) → T.find t = some i → (i.d.known && !i.d.agg) = true → Rd W0 C ad v → Res T W0 e C rs vs → Res T W0 e C (.cell a t :: rs) (v :: vs)
  | cells {a t b off l rs vs i} : get e a = some (true, .pointer (some ⟨b, off, none⟩)) → T.find t = some i → i.d.agg = true → RdL W0 C b off l → l.length = i.size → Res T W0 e C rs vs → Res T W0 e C (.cell a t :: rs) (.agg l.toArray :: vs)
theorem mapM_cons_ok {α : Type} {f : α → Sem Value} {x : α} {l : List α} {v : Value} {vs : List Value} {w : World} (h : (f x).run P w = .ok v w) (h2 : (l.mapM f).run P w = .ok vs w) : ((x :: l).mapM f).run P w = .ok (v :: vs) w := by
  rw [List.mapM_cons]
  simp only [Sem.run_bind, h, Result.andThen_ok, h2, Sem.run_pure]
def resOne (a : Act) : ResultVar → Sem Value
  | .tmp t => pure (a.tmps.getD t undef)
  | .cell c t => do loadVar t (← asAddr (a.tmps.getD c undef))
theorem Res.run (hT : TabOk P T) {rs : List ResultVar} {vs : List Value} (h : Res T W0 e C rs vs) {m : Nat} {a : Act} {w : World} (ha : Has m a e) (hw : Sat W0 w C) :
    (rs.mapM (resOne a)).run P w = .ok vs w := by
  induction h with
  | nil => simp
  | @tmp t v rs vs hg _ ih =>
    have := ha.slot t true v hg
    refine mapM_cons_ok ?_ ih
    simp [resOne, this]
  | @cell c t ad v rs vs i hg ht hs hr _ ih =>
    have h1 := ha.slot c true _ hg
    have ho : i.d ≠ .other := by intro h; rw [h] at hs; cases hs
    have hs : i.d.agg = false := by cases h : i.d.agg with | false => rfl | true => rw [h] at hs; simp at hs
    refine mapM_cons_ok ?_ ih
    simp [resOne, h1, asAddr, loadVar, hT.isAgg ht ho, hs, load, Sem.run, hr w hw]
  | @cells c t b off l rs vs i hg ht hs hr hl _ ih =>
    have h1 := ha.slot c true _ hg
    have ho : i.d ≠ .other := by intro h; rw [h] at hs; cases hs
    have hc := run_loadCells_list (P := P) w ⟨b, off, none⟩ l (fun j u hj => by rw [addr_add]; exact hr j u hj w hw)
    rw [hl] at hc
    refine mapM_cons_ok ?_ ih
    simp [resOne, h1, asAddr, loadVar, hT.isAgg ht ho, hs, hT.size ht, hc]
theorem Res.ok (hT : TabOk P T) {rs : List ResultVar} {vs : List Value} (h : Res T W0 e C rs vs) : ResOk W0 P e C rs (tup vs) := fun m fn a w hr ha hw => by
  have h1 := h.run hT ha hw
  have h2 : results fn a.tmps = (do let vs ← fn.results.mapM (resOne a); pure (if h : vs.size = 1 then vs[0] else .tuple vs)) := rfl
  rw [h2, hr]
  simp only [Sem.run_bind, Array.mapM_eq_mapM_toList, Sem.run_map]
  rw [h1]
  match vs with
  | [] => simp [tup]
  | [v] => simp [tup]
  | v :: u :: vs => simp [tup]
theorem retR_ret (hT : TabOk P T) {rs : List ResultVar} {R : Value → Heap → Prop} {vs : List Value} {C' : Heap} (h : Res T W0 e C rs vs) (hw : Weak C C') (hr : R (tup vs) C') : retK W0 P rs R .ret e C := ⟨_, C', h.ok hT, hw, hr⟩
theorem retR_end (hT : TabOk P T) {rs : List ResultVar} {R : Value → Heap → Prop} {vs : List Value} {C' : Heap} (h : Res T W0 e C rs vs) (hw : Weak C C') (hr : R (tup vs) C') : retK W0 P rs R .normal e C := ⟨_, C', h.ok hT, hw, hr⟩
end
end Eng
set_option maxRecDepth 100000
namespace Eng
open Go
abbrev Ent := Int × Value × Nat
def entE (p : Ent) : MapEntry := ⟨.int .i64 p.1, p.2.1, p.2.2⟩
@[reducible] def mapO (E : List Ent) (clock : Nat) : Obj := .map (E.map entE).toArray clock
@[reducible] def mapC (m : Nat) (E : List Ent) (clock : Nat) : List Blk := [(m, mapO E clock)]
def mfind (k : Int) : List Ent → Nat → Option (Nat × Value)
  | [], _ => none
  | p :: r, i => if k = p.1 then some (i, p.2.1) else mfind k r (i + 1)
def mval (k : Int) (E : List Ent) : Option Value := (mfind k E 0).map (·.2)
def mdel (k : Int) : List Ent → List Ent
  | [] => []
  | p :: r => if k = p.1 then r else p :: mdel k r
theorem findNow_ent (k : Int) : ∀ (E : List Ent) (i : Nat), Instr.findNow (.int .i64) (.int .i64 k) (E.map entE) i = some (mfind k E i)
  | [], i => rfl
  | p :: r, i => by
    simp only [List.map_cons, Instr.findNow, entE, Instr.sameNow, mfind]
    by_cases h : k = p.1
    · simp [h]
    · have hb : (k == p.1) = false := by simpa using h
      simp only [hb, h, if_false]
      simpa using findNow_ent k r (i + 1)
theorem mfind_some (k : Int) : ∀ (E : List Ent) (i j : Nat) (v : Value), mfind k E i = some (j, v) → i ≤ j ∧ E.eraseIdx (j - i) = mdel k E ∧ j - i < E.length
  | [], i, j, v, h => by cases h
  | p :: r, i, j, v, h => by
    unfold mfind at h
    unfold mdel
    by_cases hk : k = p.1
    · rw [if_pos hk] at h
      simp only [Option.some.injEq, Prod.mk.injEq] at h
      obtain ⟨rfl, _⟩ := h
      rw [if_pos hk]
      simp
    · rw [if_neg hk] at h
      rw [if_neg hk]
      obtain ⟨h1, h2, h3⟩ := mfind_some k r (i + 1) j v h
      refine ⟨by omega, ?_, by simp only [List.length_cons]; omega⟩
      rw [show j - i = (j - (i + 1)) + 1 by omega, List.eraseIdx_cons_succ, h2]
theorem mfind_none (k : Int) : ∀ (E : List Ent) (i : Nat), mfind k E i = none → mdel k E = E
  | [], _, _ => rfl
  | p :: r, i, h => by
    unfold mfind at h
    unfold mdel
    by_cases hk : k = p.1
    · rw [if_pos hk] at h; cases h
    · rw [if_neg hk] at h ⊢
      rw [mfind_none k r (i + 1) h]
theorem map_erase {α β : Type} (f : α → β) : ∀ (l : List α) (i : Nat), (l.map f).eraseIdx i = (l.eraseIdx i).map f
  | [], _ => rfl
  | _ :: _, 0 => rfl
  | a :: r, i + 1 => by simp only [List.map_cons, List.eraseIdx_cons_succ, map_erase f r i]
section
variable {W0 : World} {P : Program} {T : Tab} {cf : Cfg} {arr : Array Oper} {k : Env → Heap → Prop} {rest : List Oper} {e : Env} {C : Heap} {d : Nat} {ty : TypeId} {p : String} {af : Array Edge}
theorem m_makeMap {dd : Option Nat} {g : Option (Nat × Bool)} {t : TypeId} : MV W0 P e C ⟨dd, .makeMap t none, ty, p, af, g⟩ (fun v C' => ∃ m, v = .map (some m) ∧ C' = mapC m [] 0 :: C) := fun X ac ha w next Q hw hn => by
  refine exec_value (w' := w.alloc (.map #[] 0)) (v := .map (some w.heap.size)) ?_ (hn _ _ _ ⟨w.heap.size, rfl, rfl⟩ ((hw.alloc (.map #[] 0)).weak (Weak.swap _ X C)))
  have : execOp ac.eval ⟨dd, .makeMap t none, ty, p, af, g⟩ = (do pure (.value (← Instr.makeMap t none))) := rfl
  rw [this]
  have h : (Instr.makeMap t none).run P w = .ok (.map (some w.heap.size)) (w.alloc (.map #[] 0)) := rfl
  simp [h]
theorem Sat.setObj {w : World} {C' : Heap} {b : Nat} {o o' : Obj} (h : Sat W0 w C) (u : Upd C b o o' C') : Sat W0 { w with heap := w.heap.setIfInBounds b o' } C' := by
  obtain ⟨l, r, h1, h2⟩ := u.split
  have hb : w.heap[b]? = some o := (h.own (b, o) (by rw [h1]; simp)).2
  have hs := MapKept.heap_set (o' := o') hb
  exact h.upd u rfl rfl rfl (by simp) hs.1 (fun k hk _ => hs.2 k hk)
theorem m_mapPush (hT : TabOk P T) {g : Option (Nat × Bool)} {t key elem : TypeId} {s0 b0 : Nat} {s1 b1 : Nat} {x y z : Operand} {m clock : Nat} {E : List Ent} {n : Int} {v : Value} {C0 : Heap} (ht : T.find t = some ⟨.map key elem, s0, b0⟩) (hki : T.find key = some ⟨.int .i64, s1, b1⟩)
    (hx : look e x = some (true, .map (some m))) (hy : look e y = some (true, .int .i64 n)) (hzz : look e z = some (true, v)) (hC : Weak C (mapC m E clock :: C0)) (hn : mval n E = none) :
    MV W0 P e C ⟨none, .mapUpdate t x y z, ty, p, af, g⟩ (fun v' C' => v' = undef ∧ C' = mapC m (E ++ [(n, v, clock)]) (clock + 1) :: C0) := fun X ac ha w next Q hw hnx => by
  have h1 := ha x (by simp [Op.operands]) _ hx
  have h2 := ha y (by simp [Op.operands]) _ hy
  have h3 := ha z (by simp [Op.operands]) _ hzz
  have hw2 := hw.weak ((hC.cons X).trans (Weak.swap X _ C0))
  have hb := (hw2.own (m, mapO E clock) (by simp)).2
  simp only at hb
  have hd := hT.int hki
  have hck := fun em => MapKept.run_checkKey (w := w) (k := .int .i64 n) hd (by simp [MapKept.IsKey]) em 9999
  have hm0 : mfind n E 0 = none := by
    unfold mval at hn
    cases hm : mfind n E 0 with
    | none => rfl
    | some q => rw [hm] at hn; cases hn
  have hf := MapKept.run_findKey (w := w) hd (findNow_ent n E 0)
  rw [hm0] at hf
  have hpush : (Array.push (E.map entE).toArray { key := .int .i64 n, val := v, born := clock }) = ((E ++ [(n, v, clock)]).map entE).toArray := by simp [entE]
  have hsat := hw2.setObj (b := m) (o := mapO E clock) (o' := mapO (E ++ [(n, v, clock)]) (clock + 1)) Upd.here
  refine exec_skip (w' := { w with heap := w.heap.setIfInBounds m (mapO (E ++ [(n, v, clock)]) (clock + 1)) }) ?_ (hnx _ _ _ ⟨rfl, rfl⟩ (hsat.weak (Weak.swap _ X C0)))
  have : execOp ac.eval ⟨none, .mapUpdate t x y z, ty, p, af, g⟩ = (do Instr.mapUpdate t (ac.eval x) (ac.eval y) (ac.eval z); pure .skip) := rfl
  rw [this, h1, h2, h3]
  simp only [Sem.run_bind, Instr.mapUpdate, run_underlying (hT.map ht), MapKept.run_getObj_map hb, hck, hf, hpush, Result.andThen]
  rw [MapKept.run_setObj_map _ hb]
  rfl
theorem m_mapDel (hT : TabOk P T) {dd : Option Nat} {g : Option (Nat × Bool)} {t key elem kt : TypeId} {s0 b0 : Nat} {s1 b1 : Nat} {x y : Operand} {m clock : Nat} {E : List Ent} {n : Int} {C0 : Heap} (ht : T.find t = some ⟨.map key elem, s0, b0⟩) (hki : T.find key = some ⟨.int .i64, s1, b1⟩)
    (hx : look e x = some (true, .map (some m))) (hy : look e y = some (true, .int .i64 n)) (hC : Weak C (mapC m E clock :: C0)) :
    MV W0 P e C ⟨dd, .call { callee := .builtin .delete, args := #[x, y], argTypes := #[t, kt] }, ty, p, af, g⟩ (fun v' C' => v' = .tuple #[] ∧ C' = mapC m (mdel n E) clock :: C0) := fun X ac ha w next Q hw hnx => by
  have h1 := ha x (by simp [Op.operands, Call.operands]) _ hx
  have h2 := ha y (by simp [Op.operands, Call.operands]) _ hy
  have hw2 := hw.weak ((hC.cons X).trans (Weak.swap X _ C0))
  have hb := (hw2.own (m, mapO E clock) (by simp)).2
  simp only at hb
  have hd := hT.int hki
  have hck := fun em => MapKept.run_checkKey (w := w) (k := .int .i64 n) hd (by simp [MapKept.IsKey]) em 9999
  have hf := MapKept.run_findKey (w := w) hd (findNow_ent n E 0)
  have hsat := hw2.setObj (b := m) (o := mapO E clock) (o' := mapO (mdel n E) clock) Upd.here
  refine exec_value (w' := { w with heap := w.heap.setIfInBounds m (mapO (mdel n E) clock) }) (v := .tuple #[]) ?_ (hnx _ _ _ ⟨rfl, rfl⟩ (hsat.weak (Weak.swap _ X C0)))
  have hxx : execOp ac.eval ⟨dd, .call { callee := .builtin .delete, args := #[x, y], argTypes := #[t, kt] }, ty, p, af, g⟩ = (do let d ← resolve ac.eval { callee := .builtin .delete, args := #[x, y], argTypes := #[t, kt] } ty; invoke d.target d.args) := rfl
  rw [hxx]
  cases hm : mfind n E 0 with
  | none =>
    rw [hm] at hf
    rw [mfind_none n E 0 hm]
    simp [resolve, invoke, builtin, h1, h2, Builtin.delete_, run_underlying (hT.map ht), MapKept.run_getObj_map hb, hck, hf, MapKept.run_setObj_map _ hb]
  | some q =>
    obtain ⟨i, u⟩ := q
    rw [hm] at hf
    obtain ⟨_, he, _⟩ := mfind_some n E 0 i u hm
    rw [Nat.sub_zero] at he
    have hl : (E.map entE).eraseIdx i = (mdel n E).map entE := by rw [← he]; exact map_erase entE E i
    simp [resolve, invoke, builtin, h1, h2, Builtin.delete_, run_underlying (hT.map ht), MapKept.run_getObj_map hb, hck, hf, MapKept.run_setObj_map _ hb, hl]
end
end Eng
set_option maxRecDepth 100000
namespace Eng
open Go
section
variable {W0 : World} {P : Program} {D : Heap} {ops : Array Oper} {k : Env → Heap → Prop}
def lastOk (ops : Array Oper) : Bool := (List.range (ops.size - 1)).all fun x => before ops 12 x (ops.size - 1)
theorem wpAny_done {Q : Exit → Act → World → Prop} {listed : Array Bool} (hr : Region.ready .any ops listed = []) : ∀ (fuel : Nat) (a : Act) (w : World), Q .normal a w → wpAny P .any ops Q fuel listed a w
  | 0, _, _, h => ⟨hr, h⟩
  | _ + 1, _, _, h => ⟨fun _ => h, fun i hi => by rw [hr] at hi; cases hi⟩
theorem Run.anyL {n : Nat} {X : List Blk} {Q : Exit → Act → World → Prop} (hk : ∀ e e' C, Eqv e e' → k e C → k e' C) (hkw : ∀ e C C', k e C' → Weak C C' → k e C) {ol : Oper} (hol : ops[ops.size - 1]? = some ol) (hbl : lastOk ops = true)
    (hq : ∀ e C a w (Z : Act → World → Prop), k e C → Has n a e → Sat W0 w (X :: C) → (∀ a w, Q .normal a w → Z a w) → if Region.wanted ol (yielded ops a.tmps) then ol.wp P a w Z Q ∨ (ol.asks P a w ∧ LetsOut Q) else Z (a.put ol.dst undef) w)
    {lab : List Kind} (hchk : chk n lab ops = true) :
    ∀ (fuel : Nat) (R : List Nat) (listed : Array Bool) (e : Env) (C : Heap) (a : Act) (w : World),
      listed.size = ops.size → (∀ j oj, ops[j]? = some oj → listed.getD j true = true → ∀ e ∈ oj.after, Region.binds .any e = true → listed.getD e.on true = true) →
      (∀ i, i ∈ R ↔ i < ops.size - 1 ∧ listed.getD i true = false) → listed.getD (ops.size - 1) true = false → R.Pairwise (· < ·) → R.length + 1 ≤ fuel →
      Run W0 P D ops k (R.map (opAt lab ops)) e C → Has n a e → Sat W0 w (X :: C) → Weak C D → wpAny P .any ops Q fuel listed a w := by
  intro fuel
  have hls : ops.size - 1 < ops.size := (Array.getElem?_eq_some_iff.1 hol).1
  have hin : ∀ (R : List Nat) (listed : Array Bool), listed.size = ops.size → (∀ i, i ∈ R ↔ i < ops.size - 1 ∧ listed.getD i true = false) → ∀ i, i < ops.size → listed.getD i true = false → (∀ j, j < i → j ∉ R) → i ∈ Region.ready .any ops listed := by
    intro R listed hsz hR i hi hi2 hs
    have hoi : ops[i]? = some ops[i] := Array.getElem?_eq_getElem hi
    refine mem_ready.2 ⟨hi2, ops[i], hoi, fun e he hb => ?_⟩
    have hlt := (chk_spec hchk hoi).2.1 e he hb
    have h2 : ¬ (e.on < ops.size - 1 ∧ listed.getD e.on true = false) := fun h => hs e.on hlt ((hR e.on).2 h)
    have h3 : e.on < listed.size := by omega
    simp only [Array.getD_eq_getD_getElem?, h3, Array.getElem?_eq_getElem, Option.getD_some, not_and, Bool.not_eq_false] at h2 ⊢
    exact h2 (by omega)
  have hall : ∀ (listed : Array Bool), listed.size = ops.size → ∀ i ∈ Region.ready .any ops listed, ∃ oi, ops[i]? = some oi ∧ listed.getD i true = false ∧ ∀ e ∈ oi.after, Region.binds .any e = true → listed.getD e.on true = true := by
    intro listed hsz i hi
    obtain ⟨h0, oi, hoi, hall⟩ := mem_ready.1 hi
    refine ⟨oi, hoi, h0, fun e he hb => ?_⟩
    have h3 := hall e he hb
    have hxs : e.on < listed.size := by
      have := (chk_spec hchk hoi).2.1 e he hb
      have := (Array.getElem?_eq_some_iff.1 hoi).1
      omega
    simp only [Array.getD_eq_getD_getElem?, hxs, Array.getElem?_eq_getElem, Option.getD_some] at h3 ⊢
    exact h3
  induction fuel with
  | zero =>
    intro R listed e C a w hsz hcl hR hl hs hlen h ha hw hD
    omega
  | succ fuel ih =>
    intro R listed e C a w hsz hcl hR hl hs hlen h ha hw hD
    cases R with
    | nil =>
      have hlast := hin [] listed hsz hR _ hls hl (by simp)
      refine ⟨fun hr => (by rw [hr] at hlast; cases hlast), fun i hi => ?_⟩
      obtain ⟨oi, hoi, h0, _⟩ := hall listed hsz i hi
      have hi1 := (Array.getElem?_eq_some_iff.1 hoi).1
      obtain rfl : i = ops.size - 1 := by
        rcases Nat.lt_or_ge i (ops.size - 1) with h1 | h1
        · exact absurd ((hR i).2 ⟨h1, h0⟩) (by simp)
        · omega
      unfold wpOp
      simp only [hol]
      cases h with
      | nil h =>
        refine hq e C a w _ h ha hw fun a' w' hQ => wpAny_done ?_ _ _ _ hQ
        refine List.eq_nil_iff_forall_not_mem.2 fun j hj => ?_
        obtain ⟨oj, hoj, h1, _⟩ := hall _ (by simpa using hsz) j hj
        have hj1 := (Array.getElem?_eq_some_iff.1 hoj).1
        by_cases hji : j = ops.size - 1
        · subst hji
          have hxs : ops.size - 1 < listed.size := by omega
          simp [hxs] at h1
        · rw [getD_set_ne true (Ne.symm hji)] at h1
          exact absurd ((hR j).2 ⟨by omega, h1⟩) (by simp)
    | cons r0 R =>
    refine ⟨?_, ?_⟩
    · intro hr
      obtain ⟨hi1, hi2⟩ := (hR r0).1 (by simp)
      have hm := hin (r0 :: R) listed hsz hR r0 (by omega) hi2 (fun j hj hm => by
        rcases List.mem_cons.1 hm with h1 | h1
        · omega
        · have := (List.pairwise_cons.1 hs).1 _ h1
          omega)
      rw [hr] at hm
      cases hm
    · intro i hi
      obtain ⟨oi, hoi, h0, hall'⟩ := hall listed hsz i hi
      have hisz := (Array.getElem?_eq_some_iff.1 hoi).1
      obtain ⟨hr1, hr2⟩ := (hR r0).1 (by simp)
      have hne : i ≠ ops.size - 1 := by
        rintro rfl
        have hb := List.all_eq_true.1 hbl r0 (List.mem_range.2 hr1)
        have := before_listed (p := fun j => listed.getD j true = true) hcl 12 _ oi hoi hall' hb
        rw [hr2] at this
        cases this
      have hiR : i ∈ r0 :: R := (hR i).2 ⟨by omega, h0⟩
      generalize hRR : r0 :: R = RR at *
      clear hRR
      obtain ⟨S1, S2, rfl⟩ := List.append_of_mem hiR
      have hoat : opAt lab ops i = (lab.getD i .m, oi) := by simp [opAt, hoi]
      have hspec := chk_spec hchk hoi
      have hS1 : ∀ x ∈ S1, x < i := fun x hx => (List.pairwise_append.1 hs).2.2 x hx i (by simp)
      rw [List.map_append, List.map_cons] at h
      have hb := Run.bubble (n := n) hk hkw (i := opAt lab ops i) (S2 := S2.map (opAt lab ops)) (S1.map (opAt lab ops)) e C (by
        intro y hy
        obtain ⟨x, hx, rfl⟩ := List.mem_map.1 hy
        obtain ⟨hx1, hx2⟩ := (hR x).1 (by simp [hx])
        have hx1' : x < ops.size := by omega
        have hox : ops[x]? = some ops[x] := Array.getElem?_eq_getElem hx1'
        have hxat : opAt lab ops x = (lab.getD x .m, ops[x]) := by simp [opAt, hox]
        rw [hxat, hoat]
        refine ⟨(chk_spec hchk hox).1, ?_⟩
        have := hspec.2.2 x ops[x] (hS1 x hx) hox (fun e he hb heq => by
          have h3 := hall' e he hb
          rw [heq, hx2] at h3
          cases h3) (fun hbf => by
          have := before_listed (p := fun j => listed.getD j true = true) hcl 12 i oi hoi hall' hbf
          rw [hx2] at this
          cases this)
        exact this) ⟨a, w, ha, hw.weak (Weak.skip X C)⟩ hD h
      unfold wpOp
      simp only [hoi]
      have hh := hb.head (Q := Q) (K := wpAny P .any ops Q fuel (listed.setIfInBounds i true)) (by rw [hoat]; exact hspec.1) ha hw hD (by
        intro e' C' a' w' hr ha' hw' hD'
        rw [← List.map_append] at hr
        refine ih (S1 ++ S2) _ e' C' a' w' (by simpa using hsz) ?_ ?_ ?_ ?_ ?_ hr ha' hw' hD'
        · have hset : ∀ k, listed.getD k true = true → (listed.setIfInBounds i true).getD k true = true := by
            intro k hk
            by_cases hki : k = i
            · subst hki
              have hxs : k < listed.size := by omega
              simp [hxs]
            · rw [getD_set_ne true (Ne.symm hki)]; exact hk
          intro j oj hoj hj ed he hbb
          by_cases hji : j = i
          · subst hji
            rw [hoi] at hoj
            cases hoj
            exact hset _ (hall' ed he hbb)
          · rw [getD_set_ne true (Ne.symm hji)] at hj
            exact hset _ (hcl j oj hoj hj ed he hbb)
        · intro j
          have hj := hR j
          have hnd : i ∉ S1 ∧ i ∉ S2 := by
            refine ⟨fun h => absurd (hS1 i h) (by omega), fun h => ?_⟩
            have h4 := (List.pairwise_append.1 hs).2.1
            exact absurd ((List.pairwise_cons.1 h4).1 i h) (by omega)
          by_cases hji : j = i
          · subst hji
            have hxs : j < listed.size := by omega
            simp [hnd, hxs]
          · rw [getD_set_ne true (Ne.symm hji), ← hj]
            simp [hji]
        · rw [getD_set_ne true hne]; exact hl
        · have h4 := List.pairwise_append.1 hs
          refine List.pairwise_append.2 ⟨h4.1, (List.pairwise_cons.1 h4.2.1).2, fun x hx y hy => h4.2.2 x hx y (by simp [hy])⟩
        · simp only [List.length_append, List.length_cons] at hlen ⊢
          omega)
      rw [hoat] at hh
      exact hh
end
section
variable {W0 : World} {P : Program} {n : Nat} {K : Kont} {e : Env} {C : Heap}
theorem V.drawL (g : Cfg) {id : Nat} {l : List Oper} {ol : Oper} (hol : l.getLast? = some ol) (hm : P.follows .mixedOrders = true) (hc : chk n (l.map (klass g)) l.toArray = true) (hbl : lastOk l.toArray = true) (hD : Weak C g.D)
    (h : Ops W0 P g l.toArray (fun e C => Ops W0 P cfg0 l.toArray (fun e C => K .normal e C) [ol] e C) l.dropLast e C) : V W0 P n K (.region id l.toArray true) e C :=
  ⟨fun X a w ha hw => by
    refine wp_region_any hm ?_
    have hw' : Sat W0 { w with drawn := w.drawn + 1 } (X :: C) := hw.ext (Ext.drew w)
    have hne : l ≠ [] := by rintro rfl; cases hol
    have hlen : 0 < l.length := List.length_pos_iff.2 hne
    have hgl : l.toArray[l.toArray.size - 1]? = some ol := by
      rw [List.getElem?_toArray, List.size_toArray, ← List.getLast?_eq_getElem?]
      exact hol
    have hold : ∀ t, ol.dst = some t → t < n := (chk_spec hc hgl).1
    have h1 := Run.mono (k' := fun e C => ∃ e' C', Eqv e' e ∧ Weak C C' ∧ Ops W0 P cfg0 l.toArray (fun e C => K .normal e C) [ol] e' C') (fun e C hk => ⟨e, C, Eqv.refl e, Weak.refl C, hk⟩) (h.run hD)
    refine Run.anyL (k := fun e C => ∃ e' C', Eqv e' e ∧ Weak C C' ∧ Ops W0 P cfg0 l.toArray (fun e C => K .normal e C) [ol] e' C') (X := X) (D := g.D) (lab := l.map (klass g)) ?_ ?_ hgl hbl ?_ hc l.toArray.size (List.range (l.toArray.size - 1)) _ e C a _ (by simp) ?_ ?_ ?_ List.pairwise_lt_range (by simp only [List.length_range, List.size_toArray]; omega) ?_ ha hw' hD
    · rintro e e' C he ⟨e0, C0, h0, hC, hk⟩
      exact ⟨e0, C0, h0.trans he, hC, hk⟩
    · rintro e C C' ⟨e0, C0, h0, hC, hk⟩ hW
      exact ⟨e0, C0, h0, hW.trans hC, hk⟩
    · rintro e C a w Z ⟨e0, C0, h0, hC, hk⟩ ha hw hZ
      have hr := hk.run (Weak.all _)
      simp only [List.map_cons, List.map_nil] at hr
      exact hr.head (D := []) hold (ha.eqv h0.symm) (hw.weak (hC.cons X)) (Weak.all _) fun e' C' a' w' hr ha' hw' _ => by
        cases hr with
        | nil hk => exact hZ _ _ ⟨e', C', ha', hw', hk⟩
    · intro j oj hoj hj
      have hlt := (Array.getElem?_eq_some_iff.1 hoj).1
      simp only [List.size_toArray] at hlt
      simp [hlt] at hj
    · intro i
      simp only [List.mem_range, List.size_toArray]
      constructor
      · intro h
        have : i < l.length := by omega
        exact ⟨h, by simp [this]⟩
      · intro h; exact h.1
    · simp only [List.size_toArray]
      have : l.length - 1 < l.length := by omega
      simp [this]
    · have hz : (List.range (l.toArray.size - 1)).map (opAt (l.map (klass g)) l.toArray) = l.dropLast.map fun o => (klass g o, o) := by
        refine List.ext_getElem (by simp) ?_
        intro i h1 h2
        have hi : i < l.length - 1 := by simpa using h1
        have hi' : i < l.length := by omega
        simp [opAt, hi']
      rw [hz]
      exact h1⟩
end
end Eng
set_option maxRecDepth 100000
namespace Eng
open Go
@[reducible] def itC (r m since : Nat) (seen : List Nat) (c : Nat) : List Blk := [(r, .mapIter (some m) since seen.toArray c)]
section
variable {W0 : World} {P : Program} {T : Tab} {cf : Cfg} {arr : Array Oper} {k : Env → Heap → Prop} {rest : List Oper} {e : Env} {C : Heap} {d : Nat} {ty : TypeId} {p : String} {af : Array Edge}
theorem m_range (hT : TabOk P T) {dd : Option Nat} {g : Option (Nat × Bool)} {t key el : TypeId} {s0 b0 : Nat} {x : Operand} {m clock : Nat} {E : List Ent} (ht : T.find t = some ⟨.map key el, s0, b0⟩) (hx : look e x = some (true, .map (some m))) (hr : At W0 C m (mapO E clock)) :
    MV W0 P e C ⟨dd, .range t x, ty, p, af, g⟩ (fun v C' => ∃ r, v = .pointer (some ⟨r, 0, none⟩) ∧ C' = itC r m clock [] clock :: C) := fun X ac ha w next Q hw hn => by
  have h1 := ha x (by simp [Op.operands]) _ hx
  have hb := hr w (hw.weak (Weak.skip X C))
  refine exec_value (w' := w.alloc (.mapIter (some m) clock #[] clock)) (v := .pointer (some ⟨w.heap.size, 0, none⟩)) ?_ (hn _ _ _ ⟨w.heap.size, rfl, rfl⟩ ((hw.alloc (.mapIter (some m) clock #[] clock)).weak (Weak.swap _ X C)))
  have : execOp ac.eval ⟨dd, .range t x, ty, p, af, g⟩ = (do pure (.value (← Instr.range t (ac.eval x)))) := rfl
  rw [this, h1]
  simp [Instr.range, run_underlying (hT.map ht), MapKept.run_getObj_map hb]
theorem Ops.range (hT : TabOk P T) {t key el : TypeId} {s0 b0 : Nat} {x : Operand} {m clock : Nat} {E : List Ent} (hk : isM (klass cf ⟨some d, .range t x, ty, p, af, none⟩) = true) (ht : T.find t = some ⟨.map key el, s0, b0⟩) (hx : look e x = some (true, .map (some m))) (hr : At W0 C m (mapO E clock))
    (h : ∀ r, Weak (itC r m clock [] clock :: C) cf.D ∧ Eng.pex T rest ((d, true, .pointer (some ⟨r, 0, none⟩)) :: e) (fun l e => Ops W0 P cf arr k l e (itC r m clock [] clock :: C))) : Ops W0 P cf arr k (⟨some d, .range t x, ty, p, af, none⟩ :: rest) e C :=
  Ops.m rfl hk (m_range hT ht hx hr) (by rintro _ v C' ⟨r, rfl, rfl⟩; exact ⟨(h r).1, Ops.pex hT (h r).2⟩)
theorem left_mem {E : List Ent} {seen : List Nat} {q : MapEntry} (h : q ∈ (leftOf (E.map entE).toArray seen.toArray).toList) : ∃ p ∈ E, p.2.2 ∉ seen ∧ q = entE p := by
  simp only [leftOf, List.filter_toArray, List.mem_filter, List.mem_map, Bool.not_eq_true', List.contains_toArray] at h
  obtain ⟨⟨p, hp, rfl⟩, h2⟩ := h
  refine ⟨p, hp, fun hin => ?_, rfl⟩
  have : seen.contains p.2.2 = true := by simpa using hin
  simp [entE] at h2
  exact h2 hin
theorem left_none {E : List Ent} {seen : List Nat} (h : (leftOf (E.map entE).toArray seen.toArray).size = 0) : ∀ p ∈ E, p.2.2 ∈ seen := fun p hp => by
  have h0 : (leftOf (E.map entE).toArray seen.toArray) = #[] := Array.eq_empty_of_size_eq_zero h
  unfold leftOf at h0
  rw [Array.filter_eq_empty_iff] at h0
  have := h0 (entE p) (by simp; exact ⟨_, _, _, hp, rfl⟩)
  simpa [entE] using this
theorem m_next {dd : Option Nat} {g : Option (Nat × Bool)} {x : Operand} {r m since c0 clock : Nat} {seen : List Nat} {E : List Ent} {C0 : Heap} (hx : look e x = some (true, .pointer (some ⟨r, 0, none⟩))) (hC : Weak C (itC r m since seen c0 :: C0)) (hr : At W0 C0 m (mapO E clock)) (hold : ∀ p ∈ E, p.2.2 < since) (hsc : since ≤ c0) :
    MV W0 P e C ⟨dd, .next x false, ty, p, af, g⟩ (fun v C' => (v = .tuple #[.bool false] ∧ C' = itC r m since seen c0 :: C0 ∧ ∀ p ∈ E, p.2.2 ∈ seen) ∨
      ∃ p ∈ E, p.2.2 ∉ seen ∧ v = .tuple #[.bool true, .int .i64 p.1, p.2.1] ∧ C' = itC r m since (seen ++ [p.2.2]) clock :: C0) := fun X ac ha w next Q hw hn => by
  have h1 := ha x (by simp [Op.operands]) _ hx
  have hw2 := hw.weak ((hC.cons X).trans (Weak.swap X _ C0))
  have hi := (hw2.own (r, .mapIter (some m) since seen.toArray c0) (by simp)).2
  simp only at hi
  have hb := hr w ((hw2.weak (Weak.skip _ _)).weak (Weak.skip _ _))
  have hexec : execOp ac.eval ⟨dd, .next x false, ty, p, af, g⟩ = (do pure (.value (← Instr.next (ac.eval x) false ty))) := rfl
  rcases run_next_at (P := P) w ty r m since c0 seen.toArray (E.map entE).toArray clock hi hb (fun q hq => by
    obtain ⟨p, hp, rfl⟩ := List.mem_map.1 (show q ∈ E.map entE from hq)
    exact hold p hp) hsc with ⟨h0, hrun⟩ | ⟨q, hq, w1, hw1, hrun⟩
  · refine exec_value (w' := w) (v := .tuple #[.bool false]) ?_ (hn _ _ _ (.inl ⟨rfl, rfl, left_none h0⟩) (hw2.weak (Weak.swap _ X C0)))
    rw [hexec, h1]
    simp [hrun]
  · obtain ⟨p, hp, hns, rfl⟩ := left_mem hq
    have hsat : Sat W0 w1 (itC r m since seen c0 :: X :: C0) := by
      rcases hw1 with rfl | rfl
      · exact hw2
      · exact hw2.ext (Ext.drew w)
    have hs2 := hsat.setObj (b := r) (o' := .mapIter (some m) since (seen.toArray.push p.2.2) clock) Upd.here
    have hpush : seen.toArray.push p.2.2 = (seen ++ [p.2.2]).toArray := by simp
    rw [hpush] at hs2
    refine exec_value (w' := ChangeMaps.setBlock w1 r (.mapIter (some m) since (seen ++ [p.2.2]).toArray clock)) (v := .tuple #[.bool true, .int .i64 p.1, p.2.1]) ?_ (hn _ _ _ (.inr ⟨p, hp, hns, rfl, rfl⟩) (hs2.weak (Weak.swap _ X C0)))
    rw [hexec, h1]
    simp only [entE] at hrun
    rw [hpush] at hrun
    simp [hrun]
theorem Ops.next (hT : TabOk P T) {x : Operand} {r m since c0 clock : Nat} {seen : List Nat} {E : List Ent} {C0 : Heap} (hk : isM (klass cf ⟨some d, .next x false, ty, p, af, none⟩) = true) (hx : look e x = some (true, .pointer (some ⟨r, 0, none⟩))) (hC : Weak C (itC r m since seen c0 :: C0)) (hr : At W0 C0 m (mapO E clock)) (hold : ∀ p ∈ E, p.2.2 < since) (hsc : since ≤ c0)
    (h0 : (∀ p ∈ E, p.2.2 ∈ seen) → Weak (itC r m since seen c0 :: C0) cf.D ∧ Eng.pex T rest ((d, true, .tuple #[.bool false]) :: e) (fun l e => Ops W0 P cf arr k l e (itC r m since seen c0 :: C0)))
    (h1 : ∀ p ∈ E, p.2.2 ∉ seen → Weak (itC r m since (seen ++ [p.2.2]) clock :: C0) cf.D ∧ Eng.pex T rest ((d, true, .tuple #[.bool true, .int .i64 p.1, p.2.1]) :: e) (fun l e => Ops W0 P cf arr k l e (itC r m since (seen ++ [p.2.2]) clock :: C0))) : Ops W0 P cf arr k (⟨some d, .next x false, ty, p, af, none⟩ :: rest) e C :=
  Ops.m rfl hk (m_next hx hC hr hold hsc) (by
    rintro _ v C' (⟨rfl, rfl, ha⟩ | ⟨q, hq, hn, rfl, rfl⟩)
    · exact ⟨(h0 ha).1, Ops.pex hT (h0 ha).2⟩
    · exact ⟨(h1 q hq hn).1, Ops.pex hT (h1 q hq hn).2⟩)
theorem m_entry {dd : Option Nat} {g : Option (Nat × Bool)} {x : Operand} {r m since clock : Nat} {seen : List Nat} {E : List Ent} {q : Ent} (hx : look e x = some (true, .pointer (some ⟨r, 0, none⟩))) (hi : At W0 C r (.mapIter (some m) since (seen ++ [q.2.2]).toArray clock)) (hr : At W0 C m (mapO E clock)) (hq : q ∈ E) (hnd : (E.map (·.2.2)).Nodup) :
    MV W0 P e C ⟨dd, .entry x, ty, p, af, g⟩ (fun v C' => v = .tuple #[.int .i64 q.1, q.2.1] ∧ C' = C) := fun X ac ha w next Q hw hn => by
  have h1 := ha x (by simp [Op.operands]) _ hx
  have hi := hi w (hw.weak (Weak.skip X C))
  have hb := hr w (hw.weak (Weak.skip X C))
  refine exec_value (w' := w) (v := .tuple #[.int .i64 q.1, q.2.1]) ?_ (hn _ _ _ ⟨rfl, rfl⟩ hw)
  have hexec : execOp ac.eval ⟨dd, .entry x, ty, p, af, g⟩ = (do pure (.value (← Instr.entry (ac.eval x)))) := rfl
  have hrun := run_entry_at (P := P) w r m since seen.toArray (E.map entE).toArray clock (entE q) (by rw [hi]; simp [entE]) hb (List.mem_map.2 ⟨q, hq, rfl⟩) (by
    have : (E.map entE).map (·.born) = E.map (·.2.2) := by rw [List.map_map]; rfl
    show ((E.map entE).map (·.born)).Nodup
    rw [this]; exact hnd)
  rw [hexec, h1]
  simp [hrun, entE]
theorem Ops.entry (hT : TabOk P T) {x : Operand} {r m since clock : Nat} {seen : List Nat} {E : List Ent} {q : Ent} (hk : isM (klass cf ⟨some d, .entry x, ty, p, af, none⟩) = true) (hx : look e x = some (true, .pointer (some ⟨r, 0, none⟩))) (hi : At W0 C r (.mapIter (some m) since (seen ++ [q.2.2]).toArray clock)) (hr : At W0 C m (mapO E clock)) (hq : q ∈ E) (hnd : (E.map (·.2.2)).Nodup)
    (h : Weak C cf.D ∧ Eng.pex T rest ((d, true, .tuple #[.int .i64 q.1, q.2.1]) :: e) (fun l e => Ops W0 P cf arr k l e C)) : Ops W0 P cf arr k (⟨some d, .entry x, ty, p, af, none⟩ :: rest) e C :=
  Ops.m rfl hk (m_entry hx hi hr hq hnd) (by rintro _ v C' ⟨rfl, rfl⟩; exact ⟨h.1, Ops.pex hT h.2⟩)
end
end Eng
