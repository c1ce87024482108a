/- A part of the engine: maps with keys of type int, their entries in order. -/
import Derived.Test.YtofcmcgopdhfeaaEngC
import Derived.MapKept
set_option maxRecDepth 100000
namespace Eng
open Go

/-- An entry: key, value, its stamp. -/
abbrev Ent := Int × Value × Nat
def entE (p : Ent) : MapEntry := ⟨.int .i64 p.1, p.2.1, p.2.2⟩
@[reducible] def mapO (E : List Ent) (clock : Nat) : Obj := .map (E.map entE).toArray clock
@[reducible] def mapC (m : Nat) (E : List Ent) (clock : Nat) : List Blk := [(m, mapO E clock)]

def mfind (k : Int) : List Ent → Nat → Option (Nat × Value)
  | [], _ => none
  | p :: r, i => if k = p.1 then some (i, p.2.1) else mfind k r (i + 1)
/-- What lies under a key. -/
def mval (k : Int) (E : List Ent) : Option Value := (mfind k E 0).map (·.2)
def mdel (k : Int) : List Ent → List Ent
  | [] => []
  | p :: r => if k = p.1 then r else p :: mdel k r

theorem findNow_ent (k : Int) : ∀ (E : List Ent) (i : Nat), Instr.findNow (.int .i64) (.int .i64 k) (E.map entE) i = some (mfind k E i)
  | [], i => rfl
  | p :: r, i => by
    simp only [List.map_cons, Instr.findNow, entE, Instr.sameNow, mfind]
    by_cases h : k = p.1
    · simp [h]
    · have hb : (k == p.1) = false := by simpa using h
      simp only [hb, h, if_false]
      simpa using findNow_ent k r (i + 1)

theorem mfind_some (k : Int) : ∀ (E : List Ent) (i j : Nat) (v : Value), mfind k E i = some (j, v) → i ≤ j ∧ E.eraseIdx (j - i) = mdel k E ∧ j - i < E.length
  | [], i, j, v, h => by cases h
  | p :: r, i, j, v, h => by
    unfold mfind at h
    unfold mdel
    by_cases hk : k = p.1
    · rw [if_pos hk] at h
      simp only [Option.some.injEq, Prod.mk.injEq] at h
      obtain ⟨rfl, _⟩ := h
      rw [if_pos hk]
      simp
    · rw [if_neg hk] at h
      rw [if_neg hk]
      obtain ⟨h1, h2, h3⟩ := mfind_some k r (i + 1) j v h
      refine ⟨by omega, ?_, by simp only [List.length_cons]; omega⟩
      rw [show j - i = (j - (i + 1)) + 1 by omega, List.eraseIdx_cons_succ, h2]
theorem mfind_none (k : Int) : ∀ (E : List Ent) (i : Nat), mfind k E i = none → mdel k E = E
  | [], _, _ => rfl
  | p :: r, i, h => by
    unfold mfind at h
    unfold mdel
    by_cases hk : k = p.1
    · rw [if_pos hk] at h; cases h
    · rw [if_neg hk] at h ⊢
      rw [mfind_none k r (i + 1) h]

theorem map_erase {α β : Type} (f : α → β) : ∀ (l : List α) (i : Nat), (l.map f).eraseIdx i = (l.eraseIdx i).map f
  | [], _ => rfl
  | _ :: _, 0 => rfl
  | a :: r, i + 1 => by simp only [List.map_cons, List.eraseIdx_cons_succ, map_erase f r i]

section
variable {W0 : World} {P : Program} {T : Tab} {cf : Cfg} {arr : Array Oper} {k : Env → Heap → Prop} {rest : List Oper} {e : Env} {C : Heap} {d : Nat} {ty : TypeId} {p : String} {af : Array Edge}

theorem m_makeMap {dd : Option Nat} {g : Option (Nat × Bool)} {t : TypeId} : MV W0 P e C ⟨dd, .makeMap t none, ty, p, af, g⟩ (fun v C' => ∃ m, v = .map (some m) ∧ C' = mapC m [] 0 :: C) := fun X ac ha w next Q hw hn => by
  refine exec_value (w' := w.alloc (.map #[] 0)) (v := .map (some w.heap.size)) ?_ (hn _ _ _ ⟨w.heap.size, rfl, rfl⟩ ((hw.alloc (.map #[] 0)).weak (Weak.swap _ X C)))
  have : execOp ac.eval ⟨dd, .makeMap t none, ty, p, af, g⟩ = (do pure (.value (← Instr.makeMap t none))) := rfl
  rw [this]
  have h : (Instr.makeMap t none).run P w = .ok (.map (some w.heap.size)) (w.alloc (.map #[] 0)) := rfl
  simp [h]

theorem Ops.makeMap (hT : TabOk P T) {t : TypeId} (hk : isM (klass cf ⟨some d, .makeMap t none, ty, p, af, none⟩) = true)
    (h : ∀ m, Weak (mapC m [] 0 :: C) cf.D ∧ Eng.pex T rest ((d, true, .map (some m)) :: e) (fun l e => Ops W0 P cf arr k l e (mapC m [] 0 :: C))) : Ops W0 P cf arr k (⟨some d, .makeMap t none, ty, p, af, none⟩ :: rest) e C :=
  Ops.m rfl hk m_makeMap (by rintro _ v C' ⟨m, rfl, rfl⟩; exact ⟨(h m).1, Ops.pex hT (h m).2⟩)

/-- A pointer's zero value. -/
def ptrZero (P : Program) (t : Nat) : Bool := match (P.info? t).bind (·.zero) with
  | some (.pointer none) => true
  | _ => false
theorem ptrZero_run {t : Nat} (h : ptrZero P t = true) (w : World) : (zeroValue t).run P w = .ok (.pointer none) w := by
  unfold ptrZero at h
  cases hp : P.info? t with
  | none => simp [hp] at h
  | some i =>
    simp only [hp, Option.bind_some] at h
    cases hz : i.zero with
    | none => simp [hz] at h
    | some z =>
      rw [hz] at h
      split at h
      · rename_i he
        cases he
        simp [zeroValue, typeInfo, hp, hz]
      · cases h

theorem m_lookup (hT : TabOk P T) {dd : Option Nat} {g : Option (Nat × Bool)} {t key elem : TypeId} {s0 b0 : Nat} {s1 b1 : Nat} {x y : Operand} {m clock : Nat} {E : List Ent} {n : Int} {v : Value} (ht : T.find t = some ⟨.map key elem, s0, b0⟩) (hki : T.find key = some ⟨.int .i64, s1, b1⟩) (hz : ptrZero P elem = true)
    (hx : look e x = some (true, .map (some m))) (hy : look e y = some (true, .int .i64 n)) (hr : At W0 C m (mapO E clock)) (hv : (mval n E).getD (.pointer none) = v) :
    MV W0 P e C ⟨dd, .lookup t x y false, ty, p, af, g⟩ (fun v' C' => v' = v ∧ C' = C) := fun X ac ha w next Q hw hn => by
  have h1 := ha x (by simp [Op.operands]) _ hx
  have h2 := ha y (by simp [Op.operands]) _ hy
  refine exec_value (w' := w) (v := v) ?_ (hn v C w ⟨rfl, rfl⟩ hw)
  have : execOp ac.eval ⟨dd, .lookup t x y false, ty, p, af, g⟩ = (do pure (.value (← Instr.lookup t (ac.eval x) (ac.eval y) false))) := rfl
  rw [this, h1, h2]
  have hb := hr w (hw.weak (Weak.skip X C))
  have hd := hT.int hki
  have hck := fun em => MapKept.run_checkKey (w := w) (k := .int .i64 n) hd (by simp [MapKept.IsKey]) em 9999
  have hf := MapKept.run_findKey (w := w) hd (findNow_ent n E 0)
  have hz2 := ptrZero_run hz w
  unfold mval at hv
  cases hm : mfind n E 0 with
  | none =>
    rw [hm] at hf hv
    simp only [Option.map_none, Option.getD_none] at hv
    subst hv
    simp [Instr.lookup, run_underlying (hT.map ht), MapKept.run_getObj_map hb, hck, hf, hz2]
  | some q =>
    obtain ⟨i, u⟩ := q
    rw [hm] at hf hv
    simp only [Option.map_some, Option.getD_some] at hv
    subst hv
    simp [Instr.lookup, run_underlying (hT.map ht), MapKept.run_getObj_map hb, hck, hf]

theorem Ops.lookupP (hT : TabOk P T) {t key elem : TypeId} {s0 b0 : Nat} {s1 b1 : Nat} {x y : Operand} {m clock : Nat} {E : List Ent} {n : Int} {v : Value} (ht : T.find t = some ⟨.map key elem, s0, b0⟩) (hki : T.find key = some ⟨.int .i64, s1, b1⟩) (hz : ptrZero P elem = true)
    (hx : look e x = some (true, .map (some m))) (hy : look e y = some (true, .int .i64 n)) (hr : At W0 C m (mapO E clock)) (hv : (mval n E).getD (.pointer none) = v) (hk : isM (klass cf ⟨some d, .lookup t x y false, ty, p, af, none⟩) = true) (hD : Weak C cf.D)
    (h : Eng.pex T rest ((d, true, v) :: e) (fun l e => Ops W0 P cf arr k l e C)) : Ops W0 P cf arr k (⟨some d, .lookup t x y false, ty, p, af, none⟩ :: rest) e C :=
  Ops.m rfl hk (m_lookup hT ht hki hz hx hy hr hv) (by rintro _ v' C' ⟨rfl, rfl⟩; exact ⟨hD, Ops.pex hT h⟩)

theorem Sat.setObj {w : World} {C' : Heap} {b : Nat} {o o' : Obj} (h : Sat W0 w C) (u : Upd C b o o' C') : Sat W0 { w with heap := w.heap.setIfInBounds b o' } C' := by
  obtain ⟨l, r, h1, h2⟩ := u.split
  have hb : w.heap[b]? = some o := (h.own (b, o) (by rw [h1]; simp)).2
  have hs := MapKept.heap_set (o' := o') hb
  exact h.upd u rfl rfl rfl (by simp) hs.1 (fun k hk _ => hs.2 k hk)

/-- A key that is not there: a new entry. -/
theorem m_mapPush (hT : TabOk P T) {g : Option (Nat × Bool)} {t key elem : TypeId} {s0 b0 : Nat} {s1 b1 : Nat} {x y z : Operand} {m clock : Nat} {E : List Ent} {n : Int} {v : Value} {C0 : Heap} (ht : T.find t = some ⟨.map key elem, s0, b0⟩) (hki : T.find key = some ⟨.int .i64, s1, b1⟩)
    (hx : look e x = some (true, .map (some m))) (hy : look e y = some (true, .int .i64 n)) (hzz : look e z = some (true, v)) (hC : Weak C (mapC m E clock :: C0)) (hn : mval n E = none) :
    MV W0 P e C ⟨none, .mapUpdate t x y z, ty, p, af, g⟩ (fun v' C' => v' = undef ∧ C' = mapC m (E ++ [(n, v, clock)]) (clock + 1) :: C0) := fun X ac ha w next Q hw hnx => by
  have h1 := ha x (by simp [Op.operands]) _ hx
  have h2 := ha y (by simp [Op.operands]) _ hy
  have h3 := ha z (by simp [Op.operands]) _ hzz
  have hw2 := hw.weak ((hC.cons X).trans (Weak.swap X _ C0))
  have hb := (hw2.own (m, mapO E clock) (by simp)).2
  simp only at hb
  have hd := hT.int hki
  have hck := fun em => MapKept.run_checkKey (w := w) (k := .int .i64 n) hd (by simp [MapKept.IsKey]) em 9999
  have hm0 : mfind n E 0 = none := by
    unfold mval at hn
    cases hm : mfind n E 0 with
    | none => rfl
    | some q => rw [hm] at hn; cases hn
  have hf := MapKept.run_findKey (w := w) hd (findNow_ent n E 0)
  rw [hm0] at hf
  have hpush : (Array.push (E.map entE).toArray { key := .int .i64 n, val := v, born := clock }) = ((E ++ [(n, v, clock)]).map entE).toArray := by simp [entE]
  have hsat := hw2.setObj (b := m) (o := mapO E clock) (o' := mapO (E ++ [(n, v, clock)]) (clock + 1)) Upd.here
  refine exec_skip (w' := { w with heap := w.heap.setIfInBounds m (mapO (E ++ [(n, v, clock)]) (clock + 1)) }) ?_ (hnx _ _ _ ⟨rfl, rfl⟩ (hsat.weak (Weak.swap _ X C0)))
  have : execOp ac.eval ⟨none, .mapUpdate t x y z, ty, p, af, g⟩ = (do Instr.mapUpdate t (ac.eval x) (ac.eval y) (ac.eval z); pure .skip) := rfl
  rw [this, h1, h2, h3]
  simp only [Sem.run_bind, Instr.mapUpdate, run_underlying (hT.map ht), MapKept.run_getObj_map hb, hck, hf, hpush, Result.andThen]
  rw [MapKept.run_setObj_map _ hb]
  rfl

theorem Ops.mapPush (hT : TabOk P T) {t key elem : TypeId} {s0 b0 : Nat} {s1 b1 : Nat} {x y z : Operand} {m clock : Nat} {E : List Ent} {n : Int} {v : Value} {C0 : Heap} (hC : Weak C (mapC m E clock :: C0)) (hn : mval n E = none) (ht : T.find t = some ⟨.map key elem, s0, b0⟩) (hki : T.find key = some ⟨.int .i64, s1, b1⟩)
    (hx : look e x = some (true, .map (some m))) (hy : look e y = some (true, .int .i64 n)) (hzz : look e z = some (true, v)) (hD : Weak (mapC m (E ++ [(n, v, clock)]) (clock + 1) :: C0) cf.D)
    (h : Eng.pex T rest e (fun l e => Ops W0 P cf arr k l e (mapC m (E ++ [(n, v, clock)]) (clock + 1) :: C0))) : Ops W0 P cf arr k (⟨none, .mapUpdate t x y z, ty, p, af, none⟩ :: rest) e C :=
  Ops.m rfl rfl (m_mapPush hT ht hki hx hy hzz hC hn) (by rintro _ v' C' ⟨rfl, rfl⟩; exact ⟨hD, Ops.pex hT h⟩)

/-- delete. -/
theorem m_mapDel (hT : TabOk P T) {dd : Option Nat} {g : Option (Nat × Bool)} {t key elem kt : TypeId} {s0 b0 : Nat} {s1 b1 : Nat} {x y : Operand} {m clock : Nat} {E : List Ent} {n : Int} {C0 : Heap} (ht : T.find t = some ⟨.map key elem, s0, b0⟩) (hki : T.find key = some ⟨.int .i64, s1, b1⟩)
    (hx : look e x = some (true, .map (some m))) (hy : look e y = some (true, .int .i64 n)) (hC : Weak C (mapC m E clock :: C0)) :
    MV W0 P e C ⟨dd, .call { callee := .builtin .delete, args := #[x, y], argTypes := #[t, kt] }, ty, p, af, g⟩ (fun v' C' => v' = .tuple #[] ∧ C' = mapC m (mdel n E) clock :: C0) := fun X ac ha w next Q hw hnx => by
  have h1 := ha x (by simp [Op.operands, Call.operands]) _ hx
  have h2 := ha y (by simp [Op.operands, Call.operands]) _ hy
  have hw2 := hw.weak ((hC.cons X).trans (Weak.swap X _ C0))
  have hb := (hw2.own (m, mapO E clock) (by simp)).2
  simp only at hb
  have hd := hT.int hki
  have hck := fun em => MapKept.run_checkKey (w := w) (k := .int .i64 n) hd (by simp [MapKept.IsKey]) em 9999
  have hf := MapKept.run_findKey (w := w) hd (findNow_ent n E 0)
  have hsat := hw2.setObj (b := m) (o := mapO E clock) (o' := mapO (mdel n E) clock) Upd.here
  refine exec_value (w' := { w with heap := w.heap.setIfInBounds m (mapO (mdel n E) clock) }) (v := .tuple #[]) ?_ (hnx _ _ _ ⟨rfl, rfl⟩ (hsat.weak (Weak.swap _ X C0)))
  have hxx : execOp ac.eval ⟨dd, .call { callee := .builtin .delete, args := #[x, y], argTypes := #[t, kt] }, ty, p, af, g⟩ = (do let d ← resolve ac.eval { callee := .builtin .delete, args := #[x, y], argTypes := #[t, kt] } ty; invoke d.target d.args) := rfl
  rw [hxx]
  cases hm : mfind n E 0 with
  | none =>
    rw [hm] at hf
    rw [mfind_none n E 0 hm]
    simp [resolve, invoke, builtin, h1, h2, Builtin.delete_, run_underlying (hT.map ht), MapKept.run_getObj_map hb, hck, hf, MapKept.run_setObj_map _ hb]
  | some q =>
    obtain ⟨i, u⟩ := q
    rw [hm] at hf
    obtain ⟨_, he, _⟩ := mfind_some n E 0 i u hm
    rw [Nat.sub_zero] at he
    have hl : (E.map entE).eraseIdx i = (mdel n E).map entE := by rw [← he]; exact map_erase entE E i
    simp [resolve, invoke, builtin, h1, h2, Builtin.delete_, run_underlying (hT.map ht), MapKept.run_getObj_map hb, hck, hf, MapKept.run_setObj_map _ hb, hl]

theorem Ops.mapDel {dd : Option Nat} (hT : TabOk P T) {t key elem kt : TypeId} {s0 b0 : Nat} {s1 b1 : Nat} {x y : Operand} {m clock : Nat} {E : List Ent} {n : Int} {C0 : Heap} (hC : Weak C (mapC m E clock :: C0)) (ht : T.find t = some ⟨.map key elem, s0, b0⟩) (hki : T.find key = some ⟨.int .i64, s1, b1⟩)
    (hx : look e x = some (true, .map (some m))) (hy : look e y = some (true, .int .i64 n)) (hk : isM (klass cf ⟨dd, .call { callee := .builtin .delete, args := #[x, y], argTypes := #[t, kt] }, ty, p, af, none⟩) = true) (hD : Weak (mapC m (mdel n E) clock :: C0) cf.D)
    (h : Eng.pex T rest (ext dd true (.tuple #[]) e) (fun l e => Ops W0 P cf arr k l e (mapC m (mdel n E) clock :: C0))) : Ops W0 P cf arr k (⟨dd, .call { callee := .builtin .delete, args := #[x, y], argTypes := #[t, kt] }, ty, p, af, none⟩ :: rest) e C :=
  Ops.m rfl hk (m_mapDel hT ht hki hx hy hC) (by rintro _ v' C' ⟨rfl, rfl⟩; exact ⟨hD, Ops.pex hT h⟩)

/-! ### Bytes that may be a text's -/

theorem m_convS (hT : TabOk P T) {dd : Option Nat} {g : Option (Nat × Bool)} {t el : TypeId} {s0 b0 s1 b1 : Nat} {x : Operand} {b off n cap : Nat} {l : List Value} {bt : TypeId} {C' : Heap} (ht : T.find t = some ⟨.slice el, s0, b0⟩) (he : T.find el = some ⟨.int .u8, s1, b1⟩)
    (hx : look e x = some (true, .slice (some ⟨b, off, none⟩) n cap)) (u : Upd C b (.cells l.toArray bt (0, 0)) (.cells l.toArray bt (l.length, l.length + 1)) C') :
    MV W0 P e C ⟨dd, .convert t t x, ty, p, af, g⟩ (fun v C'' => v = .slice (some ⟨b, off, none⟩) n cap ∧ C'' = C') := fun X ac ha w next Q hw hn => by
  have h1 := ha x (by simp [Op.operands]) _ hx
  obtain ⟨lft, rgt, e1, e2⟩ := (Upd.skip (c := X) u).split
  have hb : w.heap[b]? = some (.cells l.toArray bt (0, 0)) := (hw.own (b, _) (by rw [e1]; simp)).2
  have hlt : b < w.heap.size := (Array.getElem?_eq_some_iff.1 hb).1
  have hshape : w.shape? b = some (bt, l.length) := by simp [World.shape?, hb]
  have hw' : Sat W0 (w.freeze ⟨b, l.length, none⟩ 1) (X :: C') := by
    refine hw.upd (Upd.skip u) rfl rfl rfl (by simp [World.freeze]) ?_ ?_
    · have hbb : w.heap[b] = .cells l.toArray bt (0, 0) := by
        rw [Array.getElem?_eq_getElem hlt] at hb
        exact Option.some.inj hb
      simp [World.freeze, Array.getElem_modify, hbb, hlt]
    · intro k hne _
      simp [World.freeze, Array.getElem?_modify, Ne.symm hne]
  refine exec_value (w' := w.freeze ⟨b, l.length, none⟩ 1) (v := .slice (some ⟨b, off, none⟩) n cap) ?_ (hn _ C' _ ⟨rfl, rfl⟩ hw')
  have : execOp ac.eval ⟨dd, .convert t t x, ty, p, af, g⟩ = (do pure (.value (← convert t t (ac.eval x)))) := rfl
  rw [this, h1]
  simp [convert, run_underlying (hT.slice ht), run_underlying (hT.int he), markStringish, hshape]

theorem Ops.convS (hT : TabOk P T) {t el : TypeId} {s0 b0 s1 b1 : Nat} {x : Operand} {b off n cap : Nat} {l : List Value} {bt : TypeId} {C' : Heap} (ht : T.find t = some ⟨.slice el, s0, b0⟩) (he : T.find el = some ⟨.int .u8, s1, b1⟩)
    (hx : look e x = some (true, .slice (some ⟨b, off, none⟩) n cap)) (u : Upd C b (.cells l.toArray bt (0, 0)) (.cells l.toArray bt (l.length, l.length + 1)) C') (hk : isM (klass cf ⟨some d, .convert t t x, ty, p, af, none⟩) = true) (hD : Weak C' cf.D)
    (h : Eng.pex T rest ((d, true, .slice (some ⟨b, off, none⟩) n cap) :: e) (fun l e => Ops W0 P cf arr k l e C')) : Ops W0 P cf arr k (⟨some d, .convert t t x, ty, p, af, none⟩ :: rest) e C :=
  Ops.m rfl hk (m_convS hT ht he hx u) (by rintro _ v' C'' ⟨rfl, rfl⟩; exact ⟨hD, Ops.pex hT h⟩)
end
end Eng
