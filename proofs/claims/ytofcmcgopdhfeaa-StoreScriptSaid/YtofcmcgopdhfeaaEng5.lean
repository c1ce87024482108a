/-
  Operations that read, write or make memory; calls.
-/
import Derived.Test.YtofcmcgopdhfeaaEng4
namespace Eng
open Go

section
variable {W0 : World} {P : Program} {e : Env} {C : Heap} {d : Option Nat} {ty : TypeId} {p : String} {af : Array Edge} {g : Option (Nat × Bool)}

theorem exec_value {o : Oper} {a : Act} {w w' : World} {v : Value} {next : Act → World → Prop} {Q : Exit → Act → World → Prop} (h : (execOp a.eval o).run P w = .ok (.value v) w') (hn : next (a.put o.dst v) w') : o.wp P a w next Q := by
  unfold Oper.wp
  rw [h]
  exact hn
theorem exec_skip {o : Oper} {a : Act} {w w' : World} {next : Act → World → Prop} {Q : Exit → Act → World → Prop} (h : (execOp a.eval o).run P w = .ok .skip w') (hn : next (a.put o.dst undef) w') : o.wp P a w next Q := by
  unfold Oper.wp
  rw [h]
  exact hn

/-! ### Loads -/

theorem quiet_load {T : Tab} (hT : TabOk P T) {t : TypeId} {x : Operand} {a : Addr} {v : Value} {i : TyI} (ht : T.find t = some i) (hs : (i.d.known && !i.d.agg) = true)
    (hx : look e x = some (true, .pointer (some a))) (hr : Rd W0 C a v) : QuietV W0 P e C ⟨d, .load t x, ty, p, af, g⟩ v := fun ac ha w next Q hw hn => by
  have h1 := ha x (by simp [Op.operands]) _ hx
  have ho : i.d ≠ .other := by intro h; rw [h] at hs; cases hs
  have hs : i.d.agg = false := by cases h : i.d.agg with | false => rfl | true => rw [h] at hs; simp at hs
  refine exec_value (w' := w) (v := v) ?_ (hn w (Ext.refl w))
  have : execOp ac.eval ⟨d, .load t x, ty, p, af, g⟩ = (do pure (.value (← Instr.loadAt t (ac.eval x)))) := rfl
  rw [this, h1]
  simp [Instr.loadAt, Instr.sureAddr, loadVar, hT.isAgg ht ho, hs, load, Sem.run, hr w hw]

/-- A row of cells. -/
def RdL (W0 : World) (C : Heap) (b off : Nat) (vs : List Value) : Prop := ∀ j u, vs[j]? = some u → Rd W0 C ⟨b, off + j, none⟩ u

theorem addr_add (b off n : Nat) : (⟨b, off, none⟩ : Addr).add n = ⟨b, off + n, none⟩ := by
  unfold Addr.add
  split
  · rename_i h; rw [h]; rfl
  · rfl

theorem quiet_loadN {T : Tab} (hT : TabOk P T) {t : TypeId} {x : Operand} {b off : Nat} {vs : List Value} {i : TyI} (ht : T.find t = some i) (hs : i.d.agg = true) (hl : vs.length = i.size)
    (hx : look e x = some (true, .pointer (some ⟨b, off, none⟩))) (hr : RdL W0 C b off vs) : QuietV W0 P e C ⟨d, .load t x, ty, p, af, g⟩ (.agg vs.toArray) := fun ac ha w next Q hw hn => by
  have h1 := ha x (by simp [Op.operands]) _ hx
  refine exec_value (w' := w) (v := .agg vs.toArray) ?_ (hn w (Ext.refl w))
  have : execOp ac.eval ⟨d, .load t x, ty, p, af, g⟩ = (do pure (.value (← Instr.loadAt t (ac.eval x)))) := rfl
  rw [this, h1]
  have ho : i.d ≠ .other := by intro h; rw [h] at hs; cases hs
  have hc := run_loadCells_list (P := P) w ⟨b, off, none⟩ vs (fun j u hj => by rw [addr_add]; exact hr j u hj w hw)
  rw [hl] at hc
  simp [Instr.loadAt, Instr.sureAddr, loadVar, hT.isAgg ht ho, hs, hT.size ht, hc]

theorem RdL.of_at {b off : Nat} {l : List Value} {t : TypeId} {fr : Nat × Nat} {vs : List Value} (h : At W0 C b (.cells l.toArray t fr)) (hv : ∀ j u, vs[j]? = some u → l[off + j]? = some u) : RdL W0 C b off vs := fun j u hj =>
  Rd.of_at h (by simpa using hv j u hj)
theorem RdL.whole {b : Nat} {l : List Value} {t : TypeId} {fr : Nat × Nat} (h : At W0 C b (.cells l.toArray t fr)) : RdL W0 C b 0 l := RdL.of_at h (fun j u hj => by simpa using hj)
theorem RdL.mono {C' : Heap} {b off : Nat} {vs : List Value} (h : RdL W0 C' b off vs) (k : Weak C C') : RdL W0 C b off vs := fun j u hj => (h j u hj).mono k
theorem RdL.skip {b off : Nat} {vs : List Value} {c : List Blk} (h : RdL W0 C b off vs) : RdL W0 (c :: C) b off vs := h.mono (Weak.skip c C)

/-! ### Stores -/

theorem Sat.setRow {w : World} {C' : Heap} {b : Nat} {cs cs' : Array Value} {t : TypeId} (h : Sat W0 w C) (u : Upd C b (.cells cs t (0, 0)) (.cells cs' t (0, 0)) C') : Sat W0 (w.setRow b cs') C' := by
  have hb : w.heap[b]? = some (.cells cs t (0, 0)) := by
    obtain ⟨l, r, h1, _⟩ := u.split
    exact (h.own (b, _) (by rw [h1]; simp)).2
  exact h.upd u rfl rfl rfl (by simp [World.setRow]) (setRow_heap w b cs cs' t (0, 0) hb) (fun k hk _ => setRow_other w b k cs' hk)

theorem Upd.at_ {C' : Heap} {b : Nat} {o o' : Obj} (u : Upd C b o o' C') : At W0 C b o := fun w h => by
  obtain ⟨l, r, h1, _⟩ := u.split
  exact (h.own (b, _) (by rw [h1]; simp)).2

/-- One cell is written. -/
theorem m_store {T : Tab} (hT : TabOk P T) {t : TypeId} {x y : Operand} {b off : Nat} {l : List Value} {bt : TypeId} {v : Value} {C' : Heap} {i : TyI} (ht : T.find t = some i) (hs : Nat.beq i.size 1 = true)
    (hx : look e x = some (true, .pointer (some ⟨b, off, none⟩))) (hy : look e y = some (true, v)) (hv : v.oneCell' = true) (hoff : off < l.length)
    (u : Upd C b (.cells l.toArray bt (0, 0)) (.cells (l.set off v).toArray bt (0, 0)) C') : MV W0 P e C ⟨none, .store t x y, ty, p, af, g⟩ (fun v' C'' => v' = undef ∧ C'' = C') := fun X ac ha w next Q hw hn => by
  have h1 := ha x (by simp [Op.operands]) _ hx
  have h2 := ha y (by simp [Op.operands]) _ hy
  have hb := (Upd.skip (c := X) u).at_ w hw
  have hst := run_storeCells_at P b off bt [v] 0 l.toArray w hb (by simp; omega) (by simpa using hv)
  simp only [Nat.add_zero, List.length_cons, List.length_nil, Nat.zero_add] at hst
  have hset : (l.toArray.toList.take off ++ [v] ++ l.toArray.toList.drop (off + 1)).toArray = (l.set off v).toArray := by
    congr 1
    simp only [List.append_assoc, List.cons_append, List.nil_append]
    rw [List.set_eq_take_append_cons_drop]
    simp [hoff]
  rw [hset] at hst
  refine exec_skip (w' := w.setRow b (l.set off v).toArray) ?_ (hn _ C' _ ⟨rfl, rfl⟩ (hw.setRow (Upd.skip u)))
  have : execOp ac.eval ⟨none, .store t x y, ty, p, af, g⟩ = (do Instr.storeAt t (ac.eval x) (ac.eval y); pure .skip) := rfl
  rw [this, h1, h2]
  have hsz := hT.size ht w
  rw [Nat.eq_of_beq_eq_true hs] at hsz
  have hcells : v.cells = #[v] := by cases v <;> first | rfl | (simp [Value.oneCell'] at hv)
  simp [Instr.storeAt, Instr.sureAddr, storeVar, hsz, hcells, hst]

/-- A row of cells is written. -/
theorem m_storeN {T : Tab} (hT : TabOk P T) {t : TypeId} {x y : Operand} {b off : Nat} {l : List Value} {bt : TypeId} {vs : List Value} {C' : Heap} {i : TyI} (ht : T.find t = some i) (hs : i.size = vs.length)
    (hx : look e x = some (true, .pointer (some ⟨b, off, none⟩))) (hy : look e y = some (true, .agg vs.toArray)) (hv : ∀ v ∈ vs, v.oneCell' = true) (hoff : off + vs.length ≤ l.length)
    (u : Upd C b (.cells l.toArray bt (0, 0)) (.cells (l.take off ++ vs ++ l.drop (off + vs.length)).toArray bt (0, 0)) C') : MV W0 P e C ⟨none, .store t x y, ty, p, af, g⟩ (fun v' C'' => v' = undef ∧ C'' = C') := fun X ac ha w next Q hw hn => by
  have h1 := ha x (by simp [Op.operands]) _ hx
  have h2 := ha y (by simp [Op.operands]) _ hy
  have hb := (Upd.skip (c := X) u).at_ w hw
  have hst := run_storeCells_at P b off bt vs 0 l.toArray w hb (by simpa using hoff) hv
  simp only [Nat.add_zero] at hst
  refine exec_skip (w' := w.setRow b (l.take off ++ vs ++ l.drop (off + vs.length)).toArray) ?_ (hn _ C' _ ⟨rfl, rfl⟩ (hw.setRow (Upd.skip u)))
  have : execOp ac.eval ⟨none, .store t x y, ty, p, af, g⟩ = (do Instr.storeAt t (ac.eval x) (ac.eval y); pure .skip) := rfl
  rw [this, h1, h2]
  have hsz := hT.size ht w
  rw [hs] at hsz
  simp [Instr.storeAt, Instr.sureAddr, storeVar, hsz, Value.cells, hst]

/-! ### New memory -/

theorem run_newRow (t : TypeId) (cs : Array Value) (w : World) : (newRow t cs).run P w = .ok ⟨w.heap.size, 0, none⟩ (w.alloc (.cells cs t)) := by
  simp [newRow, newObj, Sem.run]

theorem fresh_boxN {t : TypeId} {x : Operand} {vs : List Value} (hx : look e x = some (true, .agg vs.toArray)) :
    FreshV P e ⟨d, .box t x, ty, p, af, g⟩ (fun b => .pointer (some ⟨b, 0, none⟩)) (.cells vs.toArray t (0, 0)) := fun ρ ha w => by
  have h1 := ha x (by simp [Op.operands]) _ hx
  have : execOp ρ ⟨d, .box t x, ty, p, af, g⟩ = (do pure (.value (← Instr.box t (ρ x)))) := rfl
  rw [this, h1]
  simp [Instr.box, newVar, run_newRow, Value.cells]

theorem fresh_box {t : TypeId} {x : Operand} {v : Value} (hx : look e x = some (true, v)) (hv : v.oneCell' = true) :
    FreshV P e ⟨d, .box t x, ty, p, af, g⟩ (fun b => .pointer (some ⟨b, 0, none⟩)) (.cells [v].toArray t (0, 0)) := fun ρ ha w => by
  have h1 := ha x (by simp [Op.operands]) _ hx
  have : execOp ρ ⟨d, .box t x, ty, p, af, g⟩ = (do pure (.value (← Instr.box t (ρ x)))) := rfl
  rw [this, h1]
  have hcells : v.cells = #[v] := by cases v <;> first | rfl | (simp [Value.oneCell'] at hv)
  simp [Instr.box, newVar, run_newRow, hcells]

theorem fresh_alloc {T : Tab} (hT : TabOk P T) {t : TypeId} {zs : List Value} (hz : zeroC T zeroFuel t = some zs) :
    FreshV P e ⟨d, .alloc t, ty, p, af, g⟩ (fun b => .pointer (some ⟨b, 0, none⟩)) (.cells zs.toArray t (0, 0)) := fun ρ ha w => by
  obtain ⟨z, hz, hzs⟩ := hT.zero hz w
  have : execOp ρ ⟨d, .alloc t, ty, p, af, g⟩ = (do pure (.value (← Instr.alloc t true (.tuple #[])))) := rfl
  rw [this]
  simp [Instr.alloc, hz, newVar, run_newRow, hzs]

/-! ### Calls -/

/-- A function of the program's own text. -/
def callable (P : Program) (f : FuncId) : Bool := match P.funcs[f]? with
  | none => false
  | some fn => !(fn.name == "runtime.NumGoroutine") && fn.body.isSome

theorem run_callFunc {f : FuncId} (hc : callable P f = true) (args : Array Value) (w : World) : (callFunc f args).run P w = .ok (.enter f args) w := by
  unfold callable at hc
  cases hf : P.funcs[f]? with
  | none => simp [hf] at hc
  | some fn =>
    simp only [hf, Bool.and_eq_true, Bool.not_eq_true'] at hc
    obtain ⟨h1, h2⟩ := hc
    have h3 : fn.body.isNone = false := by cases hb : fn.body with | none => simp [hb] at h2 | some _ => rfl
    have h4 : ¬ fn.name = "runtime.NumGoroutine" := by simpa using h1
    have h5 : ¬ fn.body = none := by intro h; rw [h] at h3; cases h3
    unfold callFunc
    simp [program, Sem.run, hf, h4, h5]

/-- What operands hold. -/
inductive Looks (e : Env) : List Operand → List Value → Prop
  | nil : Looks e [] []
  | cons {x l v vs} : look e x = some (true, v) → Looks e l vs → Looks e (x :: l) (v :: vs)

theorem agree_map {o : Oper} {ρ : Operand → Value} (ha : Agree e o ρ) : ∀ (l : List Operand) (vs : List Value), (∀ x ∈ l, x ∈ o.op.operands) → Looks e l vs → l.map ρ = vs := by
  intro l vs hm h
  induction h with
  | nil => rfl
  | @cons x l v vs hx _ ih =>
    simp only [List.map_cons, List.cons.injEq]
    exact ⟨ha x (hm x (by simp)) v hx, ih fun y hy => hm y (by simp [hy])⟩

/-- What is called, with which arguments ahead and behind. -/
theorem exec_call {x : Operand} {l : List Operand} {vs : List Value} {ts : Array TypeId} {f : FuncId} {fs cs : List Value} {ac : Act} {w : World} (hc : callable P f = true)
    (ha : Agree e ⟨d, .call { callee := .value x, args := l.toArray, argTypes := ts }, ty, p, af, g⟩ ac.eval) (hx : look e x = some (true, .func (.func f) fs.toArray cs.toArray)) (hl : Looks e l vs) :
    (execOp ac.eval ⟨d, .call { callee := .value x, args := l.toArray, argTypes := ts }, ty, p, af, g⟩).run P w = .ok (.enter f (fs ++ vs ++ cs).toArray) w := by
  have h1 := ha x (by simp [Op.operands, Call.operands]) _ hx
  have h2 := agree_map ha l vs (by intro y hy; simp [Op.operands, Call.operands, hy]) hl
  have hx : execOp ac.eval ⟨d, .call { callee := .value x, args := l.toArray, argTypes := ts }, ty, p, af, g⟩ = (do let d ← resolve ac.eval { callee := .value x, args := l.toArray, argTypes := ts } ty; invoke d.target d.args) := rfl
  rw [hx]
  have h3 := run_callFunc hc (fs ++ vs ++ cs).toArray w
  simp [resolve, Deferred.ofValue, h1, h2, invoke]
  simpa using h3

theorem m_call {x : Operand} {l : List Operand} {vs : List Value} {ts : Array TypeId} {f : FuncId} {fs cs : List Value} {R : Value → Heap → Prop} (hc : callable P f = true)
    (hx : look e x = some (true, .func (.func f) fs.toArray cs.toArray)) (hl : Looks e l vs) (hs : Does W0 P f (fs ++ vs ++ cs).toArray C R) :
    MV W0 P e C ⟨d, .call { callee := .value x, args := l.toArray, argTypes := ts }, ty, p, af, g⟩ R := fun X ac ha w next Q hw hn => by
  unfold Oper.wp
  rw [exec_call hc ha hx hl]
  refine (hs.calls X w hw).mono ?_
  rintro en w' ⟨v, C', rfl, hr, hs'⟩
  exact hn v C' w' hr hs'

theorem quiet_call {x : Operand} {l : List Operand} {vs : List Value} {ts : Array TypeId} {f : FuncId} {fs cs : List Value} {v : Value} (hc : callable P f = true)
    (hx : look e x = some (true, .func (.func f) fs.toArray cs.toArray)) (hl : Looks e l vs) (hs : Gives W0 P f (fs ++ vs ++ cs).toArray C v) :
    QuietV W0 P e C ⟨d, .call { callee := .value x, args := l.toArray, argTypes := ts }, ty, p, af, g⟩ v := fun ac ha w next Q hw hn => by
  unfold Oper.wp
  rw [exec_call hc ha hx hl]
  refine (hs.calls w hw).mono ?_
  rintro en w' ⟨rfl, hx⟩
  exact hn w' hx

/-! ### Slices of one's own -/

/-- Chunk c is slice s's own array: its first cells are xs (elements of size cells each, of type t). -/
def Slc (t size : Nat) (s : Value) (n : Nat) (xs : List Value) (c : List Blk) : Prop :=
  xs.length = n * size ∧ ((s = .slice none 0 0 ∧ n = 0 ∧ c = []) ∨
    ∃ b cap rest, s = .slice (some ⟨b, 0, none⟩) n cap ∧ c = [(b, .cells (xs ++ rest).toArray t (0, 0))] ∧ n ≤ cap ∧ cap ≤ maxLen ∧ (xs ++ rest).length = cap * size)

theorem Slc.nil (t size : Nat) : Slc t size (.slice none 0 0) 0 [] [] := ⟨by simp, .inl ⟨rfl, rfl, rfl⟩⟩

theorem Slc.lit {t size b n : Nat} {xs : List Value} (hl : xs.length = n * size) (hn : n ≤ maxLen) : Slc t size (.slice (some ⟨b, 0, none⟩) n n) n xs [(b, .cells xs.toArray t (0, 0))] :=
  ⟨hl, .inr ⟨b, n, [], rfl, by simp, Nat.le_refl _, hn, by simpa using hl⟩⟩

theorem Slc.one {t size : Nat} {s : Value} {n : Nat} {xs : List Value} {c : List Blk} (h : Slc t size s n xs c) : s.oneCell' = true := by
  rcases h.2 with ⟨rfl, _, _⟩ | ⟨b, cap, rest, rfl, _⟩ <;> rfl
theorem Slc.len {t size : Nat} {s : Value} {n : Nat} {xs : List Value} {c : List Blk} (h : Slc t size s n xs c) : ∃ a cap, s = .slice a n cap ∧ n ≤ cap := by
  rcases h.2 with ⟨rfl, rfl, _⟩ | ⟨b, cap, rest, rfl, _, hn, _⟩
  · exact ⟨none, 0, rfl, Nat.le_refl _⟩
  · exact ⟨_, cap, rfl, hn⟩

theorem Slc.owns {t size : Nat} {s : Value} {n : Nat} {xs : List Value} {c : List Blk} (h : Slc t size s n xs c) {w : World} (hw : Sat W0 w (c :: C)) : w.ownsRow W0.heap.size t size s n xs := by
  refine ⟨h.1, ?_⟩
  rcases h.2 with ⟨rfl, rfl, _⟩ | ⟨b, cap, rest, rfl, rfl, hn, hc, hl⟩
  · exact .inl ⟨rfl, rfl⟩
  · have ho := hw.own (b, .cells (xs ++ rest).toArray t (0, 0)) (by simp)
    refine .inr ⟨b, cap, (xs ++ rest).toArray, rfl, ho.1, ho.2, hn, hc, by simpa using hl, ?_⟩
    have := h.1
    simp [← this]

theorem Slc.block {t size : Nat} {s : Value} {n : Nat} {xs : List Value} {c : List Blk} (h : Slc t size s n xs c) : ∀ p ∈ c, s.ownBlock = some p.1 := by
  rcases h.2 with ⟨rfl, rfl, rfl⟩ | ⟨b, cap, rest, rfl, rfl, hn, hc, hl⟩
  · intro p hp; cases hp
  · intro p hp
    simp only [List.mem_singleton] at hp
    subst hp
    rfl

/-- A row of cells from an address on. -/
def RdA (W0 : World) (C : Heap) (a : Addr) (vs : List Value) : Prop := ∀ j u, vs[j]? = some u → Rd W0 C (a.add j) u

theorem RdL.a {b off : Nat} {vs : List Value} (h : RdL W0 C b off vs) : RdA W0 C ⟨b, off, none⟩ vs := fun j u hj => by
  rw [addr_add]; exact h j u hj
theorem RdA.nil {a : Addr} : RdA W0 C a [] := fun j u hj => by simp at hj
theorem RdA.mono {C' : Heap} {a : Addr} {vs : List Value} (h : RdA W0 C' a vs) (k : Weak C C') : RdA W0 C a vs := fun j u hj => (h j u hj).mono k

theorem cells_at {a : Addr} {vs : List Value} {w : World} (hw : Sat W0 w C) (h : RdA W0 C a vs) : ∀ j u, vs[j]? = some u → w.cell? (a.add j) = some u := fun j u hj => h j u hj w hw

/-- append to a slice of one's own. -/
theorem run_append {T : Tab} (hT : TabOk P T) {t el : TypeId} {s0 b0 : Nat} {ie : TyI} {zs : List Value} (ht : T.find t = some ⟨.slice el, s0, b0⟩) (he : T.find el = some ie) (hz : zeroC T zeroFuel el = some zs) (hzl : zs.length = ie.size) {s : Value} {n : Nat} {xs : List Value} {c : List Blk}
    (hs : Slc el ie.size s n xs c) {sa : Addr} {m cap : Nat} {ys : List Value} (hr : RdA W0 (c :: C) sa ys) (hl : ys.length = m * ie.size) (h1 : ys.all (·.oneCell') = true) (hn : n + m ≤ maxLen) (hb : (n + m) * ie.bytes ≤ 140737488355328) {w : World} (hw : Sat W0 w (c :: C)) :
    ∃ v w' c', (Builtin.append_ #[t, t] ty #[s, .slice (some sa) m cap]).run P w = .ok v w' ∧ Slc el ie.size v (n + m) (xs ++ ys) c' ∧ Sat W0 w' (c' :: C) := by
  obtain ⟨pi, pd, hpi, hpd, hsz, hby, hdo⟩ := hT.info he
  obtain ⟨z, hz1, hz2⟩ := hT.zero hz w
  have hz3 : pi.zero = some z := by
    unfold zeroValue typeInfo at hz1
    simp only [Sem.run_bind, program, Sem.run, Result.andThen_ok, hpi, Sem.run_pure] at hz1
    cases hpz : pi.zero with
    | none => simp [hpz, unsupported] at hz1
    | some z' =>
      simp only [hpz, Sem.run_pure, Result.ok.injEq, and_true] at hz1
      rw [hz1]
  have hzc : z.cells.size = ie.size := by rw [hz2]; simpa using hzl
  have h1' : ∀ u ∈ ys, u.oneCell' = true := List.all_eq_true.1 h1
  have hsmall : n + m ≤ 9223372036854775807 := by simpa only [maxLen] using hn
  have hcells := cells_at hw hr
  rw [← hsz] at hs hl
  rw [← hby] at hb
  have hlen : (xs ++ ys).length = (n + m) * pi.size := by rw [List.length_append, hs.1, hl, Nat.add_mul]
  rcases hs.2 with ⟨rfl, rfl, rfl⟩ | ⟨g, gcap, rest, rfl, rfl, hnc, hcm, hgl⟩
  · have hx : xs = [] := List.eq_nil_of_length_eq_zero (by simpa using hs.1)
    subst hx
    simp only [Nat.zero_add, List.nil_append] at hlen hb hsmall ⊢
    by_cases hm : m = 0
    · subst hm
      have hy : ys = [] := List.eq_nil_of_length_eq_zero (by simpa using hl)
      subst hy
      refine ⟨.slice none 0 0, w, [], ?_, ⟨by simp, .inl ⟨rfl, rfl, rfl⟩⟩, hw⟩
      simp [Builtin.append_, run_underlying (hT.slice ht), Go.sizeOf, typeInfo, hpi, Builtin.lenOf, Builtin.firstCells, loadCells, loadCellsFrom]
    · have hrun := run_append_nil (P := P) w t ty el pi z (hT.slice ht) hpi hz3 sa m cap ys hl hcells (by omega) (by omega) (by omega)
      have hge := grownCap_ge w m 0 el
      have hcm := grownCap_le_maxLen w m 0 el (by simpa using hn)
      refine ⟨_, _, [(w.heap.size, .cells (ys ++ (Builtin.zeroCells z.cells (grownCap w m 0 el - m)).toList).toArray el (0, 0))], hrun, ⟨by rw [← hsz]; exact hl, .inr ⟨w.heap.size, grownCap w m 0 el, _, rfl, rfl, hge, hcm, ?_⟩⟩, ?_⟩
      · rw [List.length_append, hl, Array.length_toList, size_zeroCells, hzc, ← hsz, ← Nat.add_mul]
        congr 1
        omega
      · have hd := (hw.weak (Weak.skip [] C)).ext (Ext.drew w)
        have := hd.alloc (.cells (ys.toArray ++ Builtin.zeroCells z.cells (grownCap w m 0 el - m)) el)
        simp only [World.size_drew] at this
        have he : (ys ++ (Builtin.zeroCells z.cells (grownCap w m 0 el - m)).toList).toArray = ys.toArray ++ Builtin.zeroCells z.cells (grownCap w m 0 el - m) := by
          apply Array.toList_inj.1; simp
        rw [he]
        exact this
  · have hg := (hw.own (g, .cells (xs ++ rest).toArray el (0, 0)) (by simp)).2
    simp only at hg
    by_cases hroom : n + m ≤ gcap
    · have hfit : n * pi.size + ys.length ≤ (xs ++ rest).toArray.size := by
        simp only [List.size_toArray]
        rw [hl, hgl, ← Nat.add_mul]
        exact Nat.mul_le_mul_right _ hroom
      have hrun := run_append_room (P := P) w t ty el pi (hT.slice ht) hpi g n gcap (xs ++ rest).toArray hg sa m cap ys hl hcells h1' hroom hfit
      have hcat : ((xs ++ rest).toArray.toList.take (n * pi.size) ++ ys ++ (xs ++ rest).toArray.toList.drop (n * pi.size + ys.length)).toArray = (xs ++ ys ++ rest.drop ys.length).toArray := by
        congr 1
        have := hs.1
        simp only [← this]
        simp [List.drop_append]
      rw [hcat] at hrun
      refine ⟨_, _, [(g, .cells (xs ++ ys ++ rest.drop ys.length).toArray el (0, 0))], hrun, ⟨by rw [← hsz]; exact hlen, .inr ⟨g, gcap, rest.drop ys.length, rfl, rfl, hroom, hcm, ?_⟩⟩, ?_⟩
      · rw [← hsz, ← hgl]
        simp only [List.length_append, List.length_drop]
        have h3 := hs.1
        have h4 : ys.length ≤ rest.length := by
          have := hgl
          rw [List.length_append] at this
          have h5 : (n + m) * pi.size ≤ gcap * pi.size := Nat.mul_le_mul_right _ hroom
          rw [Nat.add_mul] at h5
          omega
        omega
      · exact hw.setRow .here
    · have holds : ∀ j u, xs[j]? = some u → w.cell? ((⟨g, 0, none⟩ : Addr).add j) = some u := by
        have : RdL W0 ([(g, .cells (xs ++ rest).toArray el (0, 0))] :: C) g 0 xs := RdL.of_at At.here (fun j u hj => by
          have hlt := (List.getElem?_eq_some_iff.1 hj).1
          rw [Nat.zero_add, List.getElem?_append_left hlt]; exact hj)
        exact cells_at hw this.a
      have hrun := run_append_grow (P := P) w t ty el pi z (hT.slice ht) hpi hz3 ⟨g, 0, none⟩ n gcap xs hs.1 holds sa m cap ys hl hcells (by omega) (by omega) (growslice_fits (by omega) hb)
      have hge := grownCap_ge w (n + m) gcap el
      have hcm' := grownCap_le_maxLen w (n + m) gcap el hn
      refine ⟨_, _, [(w.heap.size, .cells (xs ++ ys ++ (Builtin.zeroCells z.cells (grownCap w (n + m) gcap el - (n + m))).toList).toArray el (0, 0))], hrun, ⟨by rw [← hsz]; exact hlen, .inr ⟨w.heap.size, grownCap w (n + m) gcap el, _, rfl, rfl, hge, hcm', ?_⟩⟩, ?_⟩
      · rw [List.length_append, hlen, Array.length_toList, size_zeroCells, hzc, ← hsz, ← Nat.add_mul]
        congr 1
        omega
      · have hd := (hw.weak (Weak.skip _ C)).ext (Ext.drew w)
        have := hd.alloc (.cells (xs.toArray ++ ys.toArray ++ Builtin.zeroCells z.cells (grownCap w (n + m) gcap el - (n + m))) el)
        simp only [World.size_drew] at this
        have he : (xs ++ ys ++ (Builtin.zeroCells z.cells (grownCap w (n + m) gcap el - (n + m))).toList).toArray = xs.toArray ++ ys.toArray ++ Builtin.zeroCells z.cells (grownCap w (n + m) gcap el - (n + m)) := by
          apply Array.toList_inj.1; simp
        rw [he]
        exact this

theorem m_append {T : Tab} (hT : TabOk P T) {t el : TypeId} {s0 b0 : Nat} {ie : TyI} {zs : List Value} {x y : Operand} {C0 : Heap} {s : Value} {n : Nat} {xs : List Value} {c : List Blk} {sa : Addr} {m cap : Nat} {ys : List Value}
    (hx : look e x = some (true, s)) (hy : look e y = some (true, .slice (some sa) m cap)) (hC : Weak C (c :: C0)) (hs : Slc el ie.size s n xs c) (hr : RdA W0 (c :: C0) sa ys) (hl : ys.length = m * ie.size) (h1 : ys.all (·.oneCell') = true)
    (hn : n + m ≤ maxLen) (hb : (n + m) * ie.bytes ≤ 140737488355328)
    (ht : T.find t = some ⟨.slice el, s0, b0⟩) (he : T.find el = some ie) (hz : zeroC T zeroFuel el = some zs) (hzl : zs.length = ie.size) :
    MV W0 P e C ⟨d, .call { callee := .builtin .append, args := #[x, y], argTypes := #[t, t] }, ty, p, af, g⟩ (fun v C' => ∃ c', Slc el ie.size v (n + m) (xs ++ ys) c' ∧ C' = c' :: C0) := fun X ac ha w next Q hw hnx => by
  have h3 := ha x (by simp [Op.operands, Call.operands]) _ hx
  have h4 := ha y (by simp [Op.operands, Call.operands]) _ hy
  obtain ⟨v, w', c', hrun, hslc, hsat⟩ := run_append hT (ty := ty) ht he hz hzl hs (hr.mono ((Weak.skip X C0).cons c)) hl h1 hn hb (cap := cap) (hw.weak ((hC.cons X).trans (Weak.swap X c C0)))
  refine exec_value (w' := w') (v := v) ?_ (hnx v (c' :: C0) w' ⟨c', hslc, rfl⟩ (hsat.weak (Weak.swap c' X C0)))
  have hx : execOp ac.eval ⟨d, .call { callee := .builtin .append, args := #[x, y], argTypes := #[t, t] }, ty, p, af, g⟩ = (do let d ← resolve ac.eval { callee := .builtin .append, args := #[x, y], argTypes := #[t, t] } ty; invoke d.target d.args) := rfl
  rw [hx]
  simp [resolve, invoke, builtin, h3, h4, hrun]

/-- .. of what is nil: nothing. -/
theorem pure_append_nil {T : Tab} (hT : TabOk P T) {t el : TypeId} {s0 b0 : Nat} {ie : TyI} {x y : Operand} {a : Option Addr} {n cap : Nat} (ht : T.find t = some ⟨.slice el, s0, b0⟩) (he : T.find el = some ie)
    (hx : look e x = some (true, .slice a n cap)) (hy : look e y = some (true, .slice none 0 0)) (hn : n ≤ cap) : PureV P e ⟨d, .call { callee := .builtin .append, args := #[x, y], argTypes := #[t, t] }, ty, p, af, g⟩ (.slice a n cap) := fun ρ ha w => by
  have h3 := ha x (by simp [Op.operands, Call.operands]) _ hx
  have h4 := ha y (by simp [Op.operands, Call.operands]) _ hy
  obtain ⟨pi, pd, hpi, hpd, hsz, hby, hdo⟩ := hT.info he
  have hx : execOp ρ ⟨d, .call { callee := .builtin .append, args := #[x, y], argTypes := #[t, t] }, ty, p, af, g⟩ = (do let d ← resolve ρ { callee := .builtin .append, args := #[x, y], argTypes := #[t, t] } ty; invoke d.target d.args) := rfl
  rw [hx]
  cases a with
  | none => simp [resolve, invoke, builtin, h3, h4, Builtin.append_, run_underlying (hT.slice ht), Go.sizeOf, typeInfo, hpi, Builtin.lenOf, Builtin.firstCells, hn]
  | some a => simp [resolve, invoke, builtin, h3, h4, Builtin.append_, run_underlying (hT.slice ht), Go.sizeOf, typeInfo, hpi, Builtin.lenOf, Builtin.firstCells, hn, storeCells]

end
end Eng
