/-
  The engine: memory, slices, guards. No conditions but those that each theorem names.
-/
import Derived.Test.YtfmjehkohlbebaaGreatDoorE2
namespace Eng
open Go
section
variable {W0 : World} {P : Program} {e : Env} {C : Heap} {d : Option Nat} {ty : TypeId} {p : String} {af : Array Edge} {g : Option (Nat × Bool)}
theorem exec_value {o : Oper} {a : Act} {w w' : World} {v : Value} {next : Act → World → Prop} {Q : Exit → Act → World → Prop} (h : (execOp a.eval o).run P w = .ok (.value v) w') (hn : next (a.put o.dst v) w') : o.wp P a w next Q := by
  unfold Oper.wp
  rw [h]
  exact hn
theorem exec_skip {o : Oper} {a : Act} {w w' : World} {next : Act → World → Prop} {Q : Exit → Act → World → Prop} (h : (execOp a.eval o).run P w = .ok .skip w') (hn : next (a.put o.dst undef) w') : o.wp P a w next Q := by
  unfold Oper.wp
  rw [h]
  exact hn
theorem quiet_load {T : Tab} (hT : TabOk P T) {t : TypeId} {x : Operand} {a : Addr} {v : Value} {i : TyI} (ht : T.find t = some i) (hs : (i.d.known && !i.d.agg) = true)
    (hx : look e x = some (true, .pointer (some a))) (hr : Rd W0 C a v) : QuietV W0 P e C ⟨d, .load t x, ty, p, af, g⟩ v := fun ac ha w next Q hw hn => by
  have h1 := ha x (by simp [Op.operands]) _ hx
  have ho : i.d ≠ .other := by intro h; rw [h] at hs; cases hs
  have hs : i.d.agg = false := by cases h : i.d.agg with | false => rfl | true => rw [h] at hs; simp at hs
  refine exec_value (w' := w) (v := v) ?_ (hn w (Ext.refl w))
  have : execOp ac.eval ⟨d, .load t x, ty, p, af, g⟩ = (do pure (.value (← Instr.loadAt t (ac.eval x)))) := rfl
  rw [this, h1]
  simp [Instr.loadAt, Instr.sureAddr, loadVar, hT.isAgg ht ho, hs, load, Sem.run, hr w hw]
def RdL (W0 : World) (C : Heap) (b off : Nat) (vs : List Value) : Prop := ∀ j u, vs[j]? = some u → Rd W0 C ⟨b, off + j, none⟩ u
theorem addr_add (b off n : Nat) : (⟨b, off, none⟩ : Addr).add n = ⟨b, off + n, none⟩ := by
  unfold Addr.add
  split
  · rename_i h; rw [h]; rfl
  · rfl
theorem quiet_loadN {T : Tab} (hT : TabOk P T) {t : TypeId} {x : Operand} {b off : Nat} {vs : List Value} {i : TyI} (ht : T.find t = some i) (hs : i.d.agg = true) (hl : vs.length = i.size)
    (hx : look e x = some (true, .pointer (some ⟨b, off, none⟩))) (hr : RdL W0 C b off vs) : QuietV W0 P e C ⟨d, .load t x, ty, p, af, g⟩ (.agg vs.toArray) := fun ac ha w next Q hw hn => by
  have h1 := ha x (by simp [Op.operands]) _ hx
  refine exec_value (w' := w) (v := .agg vs.toArray) ?_ (hn w (Ext.refl w))
  have : execOp ac.eval ⟨d, .load t x, ty, p, af, g⟩ = (do pure (.value (← Instr.loadAt t (ac.eval x)))) := rfl
  rw [this, h1]
  have ho : i.d ≠ .other := by intro h; rw [h] at hs; cases hs
  have hc := run_loadCells_list (P := P) w ⟨b, off, none⟩ vs (fun j u hj => by rw [addr_add]; exact hr j u hj w hw)
  rw [hl] at hc
  simp [Instr.loadAt, Instr.sureAddr, loadVar, hT.isAgg ht ho, hs, hT.size ht, hc]
theorem RdL.of_at {b off : Nat} {l : List Value} {t : TypeId} {fr : Nat × Nat} {vs : List Value} (h : At W0 C b (.cells l.toArray t fr)) (hv : ∀ j u, vs[j]? = some u → l[off + j]? = some u) : RdL W0 C b off vs := fun j u hj =>
  Rd.of_at h (by simpa using hv j u hj)
theorem RdL.mono {C' : Heap} {b off : Nat} {vs : List Value} (h : RdL W0 C' b off vs) (k : Weak C C') : RdL W0 C b off vs := fun j u hj => (h j u hj).mono k
theorem Sat.setRow {w : World} {C' : Heap} {b : Nat} {cs cs' : Array Value} {t : TypeId} (h : Sat W0 w C) (u : Upd C b (.cells cs t (0, 0)) (.cells cs' t (0, 0)) C') : Sat W0 (w.setRow b cs') C' := by
  have hb : w.heap[b]? = some (.cells cs t (0, 0)) := by
    obtain ⟨l, r, h1, _⟩ := u.split
    exact (h.own (b, _) (by rw [h1]; simp)).2
  exact h.upd u rfl rfl rfl (by simp [World.setRow]) (setRow_heap w b cs cs' t (0, 0) hb) (fun k hk _ => setRow_other w b k cs' hk)
theorem Upd.at_ {C' : Heap} {b : Nat} {o o' : Obj} (u : Upd C b o o' C') : At W0 C b o := fun w h => by
  obtain ⟨l, r, h1, _⟩ := u.split
  exact (h.own (b, _) (by rw [h1]; simp)).2
theorem m_store {T : Tab} (hT : TabOk P T) {t : TypeId} {x y : Operand} {b off : Nat} {l : List Value} {bt : TypeId} {v : Value} {C' : Heap} {i : TyI} (ht : T.find t = some i) (hs : Nat.beq i.size 1 = true)
    (hx : look e x = some (true, .pointer (some ⟨b, off, none⟩))) (hy : look e y = some (true, v)) (hv : v.oneCell' = true) (hoff : off < l.length)
    (u : Upd C b (.cells l.toArray bt (0, 0)) (.cells (l.set off v).toArray bt (0, 0)) C') : MV W0 P e C ⟨none, .store t x y, ty, p, af, g⟩ (fun v' C'' => v' = undef ∧ C'' = C') := fun X ac ha w next Q hw hn => by
  have h1 := ha x (by simp [Op.operands]) _ hx
  have h2 := ha y (by simp [Op.operands]) _ hy
  have hb := (Upd.skip (c := X) u).at_ w hw
  have hst := run_storeCells_at P b off bt [v] 0 l.toArray w hb (by simp; omega) (by simpa using hv)
  simp only [Nat.add_zero, List.length_cons, List.length_nil, Nat.zero_add] at hst
  have hset : (l.toArray.toList.take off ++ [v] ++ l.toArray.toList.drop (off + 1)).toArray = (l.set off v).toArray := by
    congr 1
    simp only [List.append_assoc, List.cons_append, List.nil_append]
    rw [List.set_eq_take_append_cons_drop]
    simp [hoff]
  rw [hset] at hst
  refine exec_skip (w' := w.setRow b (l.set off v).toArray) ?_ (hn _ C' _ ⟨rfl, rfl⟩ (hw.setRow (Upd.skip u)))
  have : execOp ac.eval ⟨none, .store t x y, ty, p, af, g⟩ = (do Instr.storeAt t (ac.eval x) (ac.eval y); pure .skip) := rfl
  rw [this, h1, h2]
  have hsz := hT.size ht w
  rw [Nat.eq_of_beq_eq_true hs] at hsz
  have hcells : v.cells = #[v] := by cases v <;> first | rfl | (simp [Value.oneCell'] at hv)
  simp [Instr.storeAt, Instr.sureAddr, storeVar, hsz, hcells, hst]
theorem m_storeN {T : Tab} (hT : TabOk P T) {t : TypeId} {x y : Operand} {b off : Nat} {l : List Value} {bt : TypeId} {vs : List Value} {C' : Heap} {i : TyI} (ht : T.find t = some i) (hs : i.size = vs.length)
    (hx : look e x = some (true, .pointer (some ⟨b, off, none⟩))) (hy : look e y = some (true, .agg vs.toArray)) (hv : ∀ v ∈ vs, v.oneCell' = true) (hoff : off + vs.length ≤ l.length)
    (u : Upd C b (.cells l.toArray bt (0, 0)) (.cells (l.take off ++ vs ++ l.drop (off + vs.length)).toArray bt (0, 0)) C') : MV W0 P e C ⟨none, .store t x y, ty, p, af, g⟩ (fun v' C'' => v' = undef ∧ C'' = C') := fun X ac ha w next Q hw hn => by
  have h1 := ha x (by simp [Op.operands]) _ hx
  have h2 := ha y (by simp [Op.operands]) _ hy
  have hb := (Upd.skip (c := X) u).at_ w hw
  have hst := run_storeCells_at P b off bt vs 0 l.toArray w hb (by simpa using hoff) hv
  simp only [Nat.add_zero] at hst
  refine exec_skip (w' := w.setRow b (l.take off ++ vs ++ l.drop (off + vs.length)).toArray) ?_ (hn _ C' _ ⟨rfl, rfl⟩ (hw.setRow (Upd.skip u)))
  have : execOp ac.eval ⟨none, .store t x y, ty, p, af, g⟩ = (do Instr.storeAt t (ac.eval x) (ac.eval y); pure .skip) := rfl
  rw [this, h1, h2]
  have hsz := hT.size ht w
  rw [hs] at hsz
  simp [Instr.storeAt, Instr.sureAddr, storeVar, hsz, Value.cells, hst]
theorem run_newRow (t : TypeId) (cs : Array Value) (w : World) : (newRow t cs).run P w = .ok ⟨w.heap.size, 0, none⟩ (w.alloc (.cells cs t)) := by
  simp [newRow, newObj, Sem.run]
theorem fresh_boxN {t : TypeId} {x : Operand} {vs : List Value} (hx : look e x = some (true, .agg vs.toArray)) :
    FreshV P e ⟨d, .box t x, ty, p, af, g⟩ (fun b => .pointer (some ⟨b, 0, none⟩)) (.cells vs.toArray t (0, 0)) := fun ρ ha w => by
  have h1 := ha x (by simp [Op.operands]) _ hx
  have : execOp ρ ⟨d, .box t x, ty, p, af, g⟩ = (do pure (.value (← Instr.box t (ρ x)))) := rfl
  rw [this, h1]
  simp [Instr.box, newVar, run_newRow, Value.cells]
theorem fresh_box {t : TypeId} {x : Operand} {v : Value} (hx : look e x = some (true, v)) (hv : v.oneCell' = true) :
    FreshV P e ⟨d, .box t x, ty, p, af, g⟩ (fun b => .pointer (some ⟨b, 0, none⟩)) (.cells [v].toArray t (0, 0)) := fun ρ ha w => by
  have h1 := ha x (by simp [Op.operands]) _ hx
  have : execOp ρ ⟨d, .box t x, ty, p, af, g⟩ = (do pure (.value (← Instr.box t (ρ x)))) := rfl
  rw [this, h1]
  have hcells : v.cells = #[v] := by cases v <;> first | rfl | (simp [Value.oneCell'] at hv)
  simp [Instr.box, newVar, run_newRow, hcells]
theorem fresh_alloc {T : Tab} (hT : TabOk P T) {t : TypeId} {zs : List Value} (hz : zeroC T zeroFuel t = some zs) :
    FreshV P e ⟨d, .alloc t, ty, p, af, g⟩ (fun b => .pointer (some ⟨b, 0, none⟩)) (.cells zs.toArray t (0, 0)) := fun ρ ha w => by
  obtain ⟨z, hz, hzs⟩ := hT.zero hz w
  have : execOp ρ ⟨d, .alloc t, ty, p, af, g⟩ = (do pure (.value (← Instr.alloc t true (.tuple #[])))) := rfl
  rw [this]
  simp [Instr.alloc, hz, newVar, run_newRow, hzs]
def callable (P : Program) (f : FuncId) : Bool := match P.funcs[f]? with
  | none => false
  | some fn => !(fn.name == "runtime.NumGoroutine") && fn.body.isSome
theorem run_callFunc {f : FuncId} (hc : callable P f = true) (args : Array Value) (w : World) : (callFunc f args).run P w = .ok (.enter f args) w := by
  unfold callable at hc
  cases hf : P.funcs[f]? with
  | none => simp [hf] at hc
  | some fn =>
    simp only [hf, Bool.and_eq_true, Bool.not_eq_true'] at hc
    obtain ⟨h1, h2⟩ := hc
    have h3 : fn.body.isNone = false := by cases hb : fn.body with | none => simp [hb] at h2 | some _ => rfl
    have h4 : ¬ fn.name = "runtime.NumGoroutine" := by simpa using h1
    have h5 : ¬ fn.body = none := by intro h; rw [h] at h3; cases h3
    unfold callFunc
    simp [program, Sem.run, hf, h4, h5]
inductive Looks (e : Env) : List Operand → List Value → Prop
  | nil : Looks e [] []
  | cons {x l v vs} : look e x = some (true, v) → Looks e l vs → Looks e (x :: l) (v :: vs)
theorem agree_map {o : Oper} {ρ : Operand → Value} (ha : Agree e o ρ) : ∀ (l : List Operand) (vs : List Value), (∀ x ∈ l, x ∈ o.op.operands) → Looks e l vs → l.map ρ = vs := by
  intro l vs hm h
  induction h with
  | nil => rfl
  | @cons x l v vs hx _ ih =>
    simp only [List.map_cons, List.cons.injEq]
    exact ⟨ha x (hm x (by simp)) v hx, ih fun y hy => hm y (by simp [hy])⟩
theorem exec_call {x : Operand} {l : List Operand} {vs : List Value} {ts : Array TypeId} {f : FuncId} {fs cs : List Value} {ac : Act} {w : World} (hc : callable P f = true)
    (ha : Agree e ⟨d, .call { callee := .value x, args := l.toArray, argTypes := ts }, ty, p, af, g⟩ ac.eval) (hx : look e x = some (true, .func (.func f) fs.toArray cs.toArray)) (hl : Looks e l vs) :
    (execOp ac.eval ⟨d, .call { callee := .value x, args := l.toArray, argTypes := ts }, ty, p, af, g⟩).run P w = .ok (.enter f (fs ++ vs ++ cs).toArray) w := by
  have h1 := ha x (by simp [Op.operands, Call.operands]) _ hx
  have h2 := agree_map ha l vs (by intro y hy; simp [Op.operands, Call.operands, hy]) hl
  have hx : execOp ac.eval ⟨d, .call { callee := .value x, args := l.toArray, argTypes := ts }, ty, p, af, g⟩ = (do let d ← resolve ac.eval { callee := .value x, args := l.toArray, argTypes := ts } ty; invoke d.target d.args) := rfl
  rw [hx]
  have h3 := run_callFunc hc (fs ++ vs ++ cs).toArray w
  simp [resolve, Deferred.ofValue, h1, h2, invoke]
  simpa using h3
theorem m_call {x : Operand} {l : List Operand} {vs : List Value} {ts : Array TypeId} {f : FuncId} {fs cs : List Value} {R : Value → Heap → Prop} (hc : callable P f = true)
    (hx : look e x = some (true, .func (.func f) fs.toArray cs.toArray)) (hl : Looks e l vs) (hs : Does W0 P f (fs ++ vs ++ cs).toArray C R) :
    MV W0 P e C ⟨d, .call { callee := .value x, args := l.toArray, argTypes := ts }, ty, p, af, g⟩ R := fun X ac ha w next Q hw hn => by
  unfold Oper.wp
  rw [exec_call hc ha hx hl]
  refine (hs.calls X w hw).mono ?_
  rintro en w' ⟨v, C', rfl, hr, hs'⟩
  exact hn v C' w' hr hs'
theorem quiet_call {x : Operand} {l : List Operand} {vs : List Value} {ts : Array TypeId} {f : FuncId} {fs cs : List Value} {v : Value} (hc : callable P f = true)
    (hx : look e x = some (true, .func (.func f) fs.toArray cs.toArray)) (hl : Looks e l vs) (hs : Gives W0 P f (fs ++ vs ++ cs).toArray C v) :
    QuietV W0 P e C ⟨d, .call { callee := .value x, args := l.toArray, argTypes := ts }, ty, p, af, g⟩ v := fun ac ha w next Q hw hn => by
  unfold Oper.wp
  rw [exec_call hc ha hx hl]
  refine (hs.calls w hw).mono ?_
  rintro en w' ⟨rfl, hx⟩
  exact hn w' hx
def Slc (t size : Nat) (s : Value) (n : Nat) (xs : List Value) (c : List Blk) : Prop :=
  xs.length = n * size ∧ ((s = .slice none 0 0 ∧ n = 0 ∧ c = []) ∨
    ∃ b cap rest, s = .slice (some ⟨b, 0, none⟩) n cap ∧ c = [(b, .cells (xs ++ rest).toArray t (0, 0))] ∧ n ≤ cap ∧ cap ≤ maxLen ∧ (xs ++ rest).length = cap * size)
theorem Slc.nil (t size : Nat) : Slc t size (.slice none 0 0) 0 [] [] := ⟨by simp, .inl ⟨rfl, rfl, rfl⟩⟩
def RdA (W0 : World) (C : Heap) (a : Addr) (vs : List Value) : Prop := ∀ j u, vs[j]? = some u → Rd W0 C (a.add j) u
theorem RdL.a {b off : Nat} {vs : List Value} (h : RdL W0 C b off vs) : RdA W0 C ⟨b, off, none⟩ vs := fun j u hj => by
  rw [addr_add]; exact h j u hj
theorem RdA.nil {a : Addr} : RdA W0 C a [] := fun j u hj => by simp at hj
theorem RdA.mono {C' : Heap} {a : Addr} {vs : List Value} (h : RdA W0 C' a vs) (k : Weak C C') : RdA W0 C a vs := fun j u hj => (h j u hj).mono k
theorem cells_at {a : Addr} {vs : List Value} {w : World} (hw : Sat W0 w C) (h : RdA W0 C a vs) : ∀ j u, vs[j]? = some u → w.cell? (a.add j) = some u := fun j u hj => h j u hj w hw
theorem run_append {T : Tab} (hT : TabOk P T) {t el : TypeId} {s0 b0 : Nat} {ie : TyI} {zs : List Value} (ht : T.find t = some ⟨.slice el, s0, b0⟩) (he : T.find el = some ie) (hz : zeroC T zeroFuel el = some zs) (hzl : zs.length = ie.size) {s : Value} {n : Nat} {xs : List Value} {c : List Blk}
    (hs : Slc el ie.size s n xs c) {sa : Addr} {m cap : Nat} {ys : List Value} (hr : RdA W0 (c :: C) sa ys) (hl : ys.length = m * ie.size) (h1 : ys.all (·.oneCell') = true) (hn : n + m ≤ maxLen) (hb : (n + m) * ie.bytes ≤ 140737488355328) {w : World} (hw : Sat W0 w (c :: C)) :
    ∃ v w' c', (Builtin.append_ #[t, t] ty #[s, .slice (some sa) m cap]).run P w = .ok v w' ∧ Slc el ie.size v (n + m) (xs ++ ys) c' ∧ Sat W0 w' (c' :: C) := by
  obtain ⟨pi, pd, hpi, hpd, hsz, hby, hdo⟩ := hT.info he
  obtain ⟨z, hz1, hz2⟩ := hT.zero hz w
  have hz3 : pi.zero = some z := by
    unfold zeroValue typeInfo at hz1
    simp only [Sem.run_bind, program, Sem.run, Result.andThen_ok, hpi, Sem.run_pure] at hz1
    cases hpz : pi.zero with
    | none => simp [hpz, unsupported] at hz1
    | some z' =>
      simp only [hpz, Sem.run_pure, Result.ok.injEq, and_true] at hz1
      rw [hz1]
  have hzc : z.cells.size = ie.size := by rw [hz2]; simpa using hzl
  have h1' : ∀ u ∈ ys, u.oneCell' = true := List.all_eq_true.1 h1
  have hsmall : n + m ≤ 9223372036854775807 := by simpa only [maxLen] using hn
  have hcells := cells_at hw hr
  rw [← hsz] at hs hl
  rw [← hby] at hb
  have hlen : (xs ++ ys).length = (n + m) * pi.size := by rw [List.length_append, hs.1, hl, Nat.add_mul]
  rcases hs.2 with ⟨rfl, rfl, rfl⟩ | ⟨g, gcap, rest, rfl, rfl, hnc, hcm, hgl⟩
  · have hx : xs = [] := List.eq_nil_of_length_eq_zero (by simpa using hs.1)
    subst hx
    simp only [Nat.zero_add, List.nil_append] at hlen hb hsmall ⊢
    by_cases hm : m = 0
    · subst hm
      have hy : ys = [] := List.eq_nil_of_length_eq_zero (by simpa using hl)
      subst hy
      refine ⟨.slice none 0 0, w, [], ?_, ⟨by simp, .inl ⟨rfl, rfl, rfl⟩⟩, hw⟩
      simp [Builtin.append_, run_underlying (hT.slice ht), Go.sizeOf, typeInfo, hpi, Builtin.lenOf, Builtin.firstCells, loadCells, loadCellsFrom]
    · have hrun := run_append_nil (P := P) w t ty el pi z (hT.slice ht) hpi hz3 sa m cap ys hl hcells (by omega) (by omega) (by omega)
      have hge := grownCap_ge w m 0 el
      have hcm := grownCap_le_maxLen w m 0 el (by simpa using hn)
      refine ⟨_, _, [(w.heap.size, .cells (ys ++ (Builtin.zeroCells z.cells (grownCap w m 0 el - m)).toList).toArray el (0, 0))], hrun, ⟨by rw [← hsz]; exact hl, .inr ⟨w.heap.size, grownCap w m 0 el, _, rfl, rfl, hge, hcm, ?_⟩⟩, ?_⟩
      · rw [List.length_append, hl, Array.length_toList, size_zeroCells, hzc, ← hsz, ← Nat.add_mul]
        congr 1
        omega
      · have hd := (hw.weak (Weak.skip [] C)).ext (Ext.drew w)
        have := hd.alloc (.cells (ys.toArray ++ Builtin.zeroCells z.cells (grownCap w m 0 el - m)) el)
        simp only [World.size_drew] at this
        have he : (ys ++ (Builtin.zeroCells z.cells (grownCap w m 0 el - m)).toList).toArray = ys.toArray ++ Builtin.zeroCells z.cells (grownCap w m 0 el - m) := by
          apply Array.toList_inj.1; simp
        rw [he]
        exact this
  · have hg := (hw.own (g, .cells (xs ++ rest).toArray el (0, 0)) (by simp)).2
    simp only at hg
    by_cases hroom : n + m ≤ gcap
    · have hfit : n * pi.size + ys.length ≤ (xs ++ rest).toArray.size := by
        simp only [List.size_toArray]
        rw [hl, hgl, ← Nat.add_mul]
        exact Nat.mul_le_mul_right _ hroom
      have hrun := run_append_room (P := P) w t ty el pi (hT.slice ht) hpi g n gcap (xs ++ rest).toArray hg sa m cap ys hl hcells h1' hroom hfit
      have hcat : ((xs ++ rest).toArray.toList.take (n * pi.size) ++ ys ++ (xs ++ rest).toArray.toList.drop (n * pi.size + ys.length)).toArray = (xs ++ ys ++ rest.drop ys.length).toArray := by
        congr 1
        have := hs.1
        simp only [← this]
        simp [List.drop_append]
      rw [hcat] at hrun
      refine ⟨_, _, [(g, .cells (xs ++ ys ++ rest.drop ys.length).toArray el (0, 0))], hrun, ⟨by rw [← hsz]; exact hlen, .inr ⟨g, gcap, rest.drop ys.length, rfl, rfl, hroom, hcm, ?_⟩⟩, ?_⟩
      · rw [← hsz, ← hgl]
        simp only [List.length_append, List.length_drop]
        have h3 := hs.1
        have h4 : ys.length ≤ rest.length := by
          have := hgl
          rw [List.length_append] at this
          have h5 : (n + m) * pi.size ≤ gcap * pi.size := Nat.mul_le_mul_right _ hroom
          rw [Nat.add_mul] at h5
          omega
        omega
      · exact hw.setRow .here
    · have holds : ∀ j u, xs[j]? = some u → w.cell? ((⟨g, 0, none⟩ : Addr).add j) = some u := by
        have : RdL W0 ([(g, .cells (xs ++ rest).toArray el (0, 0))] :: C) g 0 xs := RdL.of_at At.here (fun j u hj => by
          have hlt := (List.getElem?_eq_some_iff.1 hj).1
          rw [Nat.zero_add, List.getElem?_append_left hlt]; exact hj)
        exact cells_at hw this.a
      have hrun := run_append_grow (P := P) w t ty el pi z (hT.slice ht) hpi hz3 ⟨g, 0, none⟩ n gcap xs hs.1 holds sa m cap ys hl hcells (by omega) (by omega) (growslice_fits (by omega) hb)
      have hge := grownCap_ge w (n + m) gcap el
      have hcm' := grownCap_le_maxLen w (n + m) gcap el hn
      refine ⟨_, _, [(w.heap.size, .cells (xs ++ ys ++ (Builtin.zeroCells z.cells (grownCap w (n + m) gcap el - (n + m))).toList).toArray el (0, 0))], hrun, ⟨by rw [← hsz]; exact hlen, .inr ⟨w.heap.size, grownCap w (n + m) gcap el, _, rfl, rfl, hge, hcm', ?_⟩⟩, ?_⟩
      · rw [List.length_append, hlen, Array.length_toList, size_zeroCells, hzc, ← hsz, ← Nat.add_mul]
        congr 1
        omega
      · have hd := (hw.weak (Weak.skip _ C)).ext (Ext.drew w)
        have := hd.alloc (.cells (xs.toArray ++ ys.toArray ++ Builtin.zeroCells z.cells (grownCap w (n + m) gcap el - (n + m))) el)
        simp only [World.size_drew] at this
        have he : (xs ++ ys ++ (Builtin.zeroCells z.cells (grownCap w (n + m) gcap el - (n + m))).toList).toArray = xs.toArray ++ ys.toArray ++ Builtin.zeroCells z.cells (grownCap w (n + m) gcap el - (n + m)) := by
          apply Array.toList_inj.1; simp
        rw [he]
        exact this
theorem m_append {T : Tab} (hT : TabOk P T) {t el : TypeId} {s0 b0 : Nat} {ie : TyI} {zs : List Value} {x y : Operand} {C0 : Heap} {s : Value} {n : Nat} {xs : List Value} {c : List Blk} {sa : Addr} {m cap : Nat} {ys : List Value}
    (hx : look e x = some (true, s)) (hy : look e y = some (true, .slice (some sa) m cap)) (hC : Weak C (c :: C0)) (hs : Slc el ie.size s n xs c) (hr : RdA W0 (c :: C0) sa ys) (hl : ys.length = m * ie.size) (h1 : ys.all (·.oneCell') = true)
    (hn : n + m ≤ maxLen) (hb : (n + m) * ie.bytes ≤ 140737488355328)
    (ht : T.find t = some ⟨.slice el, s0, b0⟩) (he : T.find el = some ie) (hz : zeroC T zeroFuel el = some zs) (hzl : zs.length = ie.size) :
    MV W0 P e C ⟨d, .call { callee := .builtin .append, args := #[x, y], argTypes := #[t, t] }, ty, p, af, g⟩ (fun v C' => ∃ c', Slc el ie.size v (n + m) (xs ++ ys) c' ∧ C' = c' :: C0) := fun X ac ha w next Q hw hnx => by
  have h3 := ha x (by simp [Op.operands, Call.operands]) _ hx
  have h4 := ha y (by simp [Op.operands, Call.operands]) _ hy
  obtain ⟨v, w', c', hrun, hslc, hsat⟩ := run_append hT (ty := ty) ht he hz hzl hs (hr.mono ((Weak.skip X C0).cons c)) hl h1 hn hb (cap := cap) (hw.weak ((hC.cons X).trans (Weak.swap X c C0)))
  refine exec_value (w' := w') (v := v) ?_ (hnx v (c' :: C0) w' ⟨c', hslc, rfl⟩ (hsat.weak (Weak.swap c' X C0)))
  have hx : execOp ac.eval ⟨d, .call { callee := .builtin .append, args := #[x, y], argTypes := #[t, t] }, ty, p, af, g⟩ = (do let d ← resolve ac.eval { callee := .builtin .append, args := #[x, y], argTypes := #[t, t] } ty; invoke d.target d.args) := rfl
  rw [hx]
  simp [resolve, invoke, builtin, h3, h4, hrun]
end
end Eng
namespace Eng
open Go
theorem bs : (∀ a b : Bool, ((a || b) = true) = (a = true ∨ b = true)) ∧ (∀ a b : Bool, ((a && b) = true) = (a = true ∧ b = true)) ∧ (∀ a : Bool, ((!a) = true) = (a = false)) ∧ (∀ a : Bool, ((!a) = false) = (a = true)) ∧
    (∀ a b : Bool, ((a || b) = false) = (a = false ∧ b = false)) ∧ (∀ a b : Bool, ((a && b) = false) = (a = false ∨ b = false)) ∧ (∀ (p : Prop) [Decidable p], (decide p = true) = p) ∧ (∀ (p : Prop) [Decidable p], (decide p = false) = ¬ p) ∧
    ((true = false) = False) ∧ ((false = true) = False) ∧ (∀ p : Prop, (p ∨ False) = p) ∧ (∀ p : Prop, (False ∨ p) = p) ∧ (∀ p : Prop, (p ∧ True) = p) ∧ (∀ p : Prop, (True ∧ p) = p) ∧ ((¬ True) = False) ∧ ((¬ False) = True) ∧ (∀ p : Prop, (p ∧ False) = False) ∧ (∀ p : Prop, (False ∧ p) = False) ∧
    (∀ a b : Bool, ((a == b) = true) = (a = b)) ∧ (∀ a b : Bool, ((a == b) = false) = ¬ (a = b)) ∧ ((true = true) = True) ∧ ((false = false) = True) ∧ (∀ (p : Prop) [Decidable p], (false = decide p) = ¬ p) ∧ (∀ (p : Prop) [Decidable p], (true = decide p) = p) ∧ (∀ a : Bool, (false = !a) = (a = true)) ∧ (∀ a : Bool, (true = !a) = (a = false)) ∧
    (∀ a b : Bool, (false = (a && b)) = (a = false ∨ b = false)) ∧ (∀ a b : Bool, (true = (a && b)) = (a = true ∧ b = true)) ∧ (∀ a b : Bool, (false = (a || b)) = (a = false ∧ b = false)) ∧ (∀ a b : Bool, (true = (a || b)) = (a = true ∨ b = true)) ∧ (∀ p : Prop, (p ∨ True) = True) ∧ (∀ p : Prop, (True ∨ p) = True) := by
  refine ⟨?_, ?_, ?_, ?_, ?_, ?_, ?_, ?_, ?_, ?_, ?_, ?_, ?_, ?_, ?_, ?_, ?_, ?_, ?_, ?_, ?_, ?_, ?_, ?_, ?_, ?_, ?_, ?_, ?_, ?_, ?_, ?_⟩ <;> first | (simp; done) | (intro a b; cases a <;> cases b <;> simp)
inductive Pick (c : List Blk) : Heap → Heap → Prop
  | here {C} : Pick c (c :: C) C
  | skip {c0 C C'} : Pick c C C' → Pick c (c0 :: C) (c0 :: C')
theorem Pick.weak {c : List Blk} {C C' : Heap} (h : Pick c C C') : Weak C (c :: C') := by
  induction h with
  | here => exact Weak.refl _
  | skip _ ih => exact (ih.cons _).trans (Weak.swap _ _ _)
theorem Weak.pick {c : List Blk} {C C' D : Heap} (h : Pick c C C') (k : Weak C' D) : Weak C (c :: D) := h.weak.trans (k.cons c)
section
variable {W0 : World} {P : Program} {T : Tab} {e : Env} {C : Heap} {d : Nat} {ty : TypeId} {p : String} {af : Array Edge} {cf : Cfg} {arr : Array Oper} {k : Env → Heap → Prop} {rest : List Oper}
theorem Ops.load (hT : TabOk P T) {t : TypeId} {x : Operand} {a : Addr} {v : Value} {i : TyI} (ht : T.find t = some i) (hs : (i.d.known && !i.d.agg) = true) (hx : look e x = some (true, .pointer (some a))) (hr : Rd W0 C a v) (hk : notPure (klass cf ⟨some d, .load t x, ty, p, af, none⟩) = true)
    (h : Eng.pex T rest ((d, true, v) :: e) (fun l e => Ops W0 P cf arr k l e C)) : Ops W0 P cf arr k (⟨some d, .load t x, ty, p, af, none⟩ :: rest) e C :=
  Ops.quiet rfl hk (quiet_load hT ht hs hx hr) (Ops.pex hT h)
theorem stab_load {T : Tab} (hT : TabOk P T) {D : Heap} {dd : Option Nat} {g : Option (Nat × Bool)} {t : TypeId} {x : Operand} {a : Addr} {v : Value} {i : TyI} (ht : T.find t = some i) (hs : (i.d.known && !i.d.agg) = true)
    (hx : look e x = some (true, .pointer (some a))) (hr : Rd W0 D a v) : StabV W0 P e D ⟨dd, .load t x, ty, p, af, g⟩ v := fun ρ ha w hw => by
  have h1 := ha x (by simp [Op.operands]) _ hx
  have ho : i.d ≠ .other := by intro h; rw [h] at hs; cases hs
  have hs : i.d.agg = false := by cases h : i.d.agg with | false => rfl | true => rw [h] at hs; simp at hs
  have : execOp ρ ⟨dd, .load t x, ty, p, af, g⟩ = (do pure (.value (← Instr.loadAt t (ρ x)))) := rfl
  rw [this, h1]
  simp [Instr.loadAt, Instr.sureAddr, loadVar, hT.isAgg ht ho, hs, load, Sem.run, hr w hw]
theorem Ops.loadS (hT : TabOk P T) {t : TypeId} {x : Operand} {a : Addr} {v : Value} {i : TyI} (ht : T.find t = some i) (hs : (i.d.known && !i.d.agg) = true) (hx : look e x = some (true, .pointer (some a))) (hr : Rd W0 cf.D a v) (hk : klass cf ⟨some d, .load t x, ty, p, af, none⟩ = .stable)
    (h : Eng.pex T rest ((d, true, v) :: e) (fun l e => Ops W0 P cf arr k l e C)) : Ops W0 P cf arr k (⟨some d, .load t x, ty, p, af, none⟩ :: rest) e C :=
  Ops.stab rfl hk (stab_load hT ht hs hx hr) (Ops.pex hT h)
theorem Ops.loadN (hT : TabOk P T) {t : TypeId} {x : Operand} {b off : Nat} {vs : List Value} {i : TyI} (ht : T.find t = some i) (hs : i.d.agg = true) (hx : look e x = some (true, .pointer (some ⟨b, off, none⟩))) (hl : vs.length = i.size) (hr : RdL W0 C b off vs) (hk : notPure (klass cf ⟨some d, .load t x, ty, p, af, none⟩) = true)
    (h : Eng.pex T rest ((d, true, .agg vs.toArray) :: e) (fun l e => Ops W0 P cf arr k l e C)) : Ops W0 P cf arr k (⟨some d, .load t x, ty, p, af, none⟩ :: rest) e C :=
  Ops.quiet rfl hk (quiet_loadN hT ht hs hl hx hr) (Ops.pex hT h)
theorem Ops.or {c b : Operand} {x y F : Bool} (hT : TabOk P T) (hc : look e c = some (true, .bool x)) (hb : look e b = some (F, .bool y)) (hF : F = !x)
    (h : Eng.pex T rest ((d, true, .bool (x || y)) :: e) (fun l e => Ops W0 P cf arr k l e C)) : Ops W0 P cf arr k (⟨some d, .pick c (.const (.bool true)) b, ty, p, af, none⟩ :: rest) e C := by
  subst hF
  exact Ops.pure rfl (klass_nofresh rfl) (pure_or hc hb) (Ops.pex hT h)
theorem Ops.and {c b : Operand} {x y F : Bool} (hT : TabOk P T) (hc : look e c = some (true, .bool x)) (hb : look e b = some (F, .bool y)) (hF : F = x)
    (h : Eng.pex T rest ((d, true, .bool (x && y)) :: e) (fun l e => Ops W0 P cf arr k l e C)) : Ops W0 P cf arr k (⟨some d, .pick c b (.const (.bool false)), ty, p, af, none⟩ :: rest) e C := by
  subst hF
  exact Ops.pure rfl (klass_nofresh rfl) (pure_and hc hb) (Ops.pex hT h)
inductive SetL (v : Value) : Nat → List Value → List Value → Prop
  | here {x l} : SetL v 0 (x :: l) (v :: l)
  | there {n x l l'} : SetL v n l l' → SetL v (n + 1) (x :: l) (x :: l')
theorem SetL.eq {v : Value} {n : Nat} {l l' : List Value} (h : SetL v n l l') : l' = l.set n v ∧ n < l.length := by
  induction h with
  | here => simp
  | there _ ih => simp [ih.1, ih.2]
theorem Ops.store (hT : TabOk P T) {t : TypeId} {x y : Operand} {b off : Nat} {l l' : List Value} {bt : TypeId} {v : Value} {C' : Heap} {i : TyI} (ht : T.find t = some i) (hs : Nat.beq i.size 1 = true)
    (hx : look e x = some (true, .pointer (some ⟨b, off, none⟩))) (hy : look e y = some (true, v)) (hv : v.oneCell' = true)
    (u : Upd C b (.cells l.toArray bt (0, 0)) (.cells l'.toArray bt (0, 0)) C') (hl : SetL v off l l') (hD : Weak C' cf.D) (h : Eng.pex T rest e (fun l e => Ops W0 P cf arr k l e C')) :
    Ops W0 P cf arr k (⟨none, .store t x y, ty, p, af, none⟩ :: rest) e C := by
  obtain ⟨rfl, hoff⟩ := hl.eq
  exact Ops.m rfl rfl (m_store hT ht hs hx hy hv hoff u) (by rintro _ v C' ⟨rfl, rfl⟩; exact ⟨hD, Ops.pex hT h⟩)
theorem Ops.storeI (hT : TabOk P T) {t : TypeId} {x y : Operand} {b off : Nat} {l : List Value} {bt : TypeId} {v : Value} {C' : Heap} {i : TyI} (ht : T.find t = some i) (hs : Nat.beq i.size 1 = true)
    (hx : look e x = some (true, .pointer (some ⟨b, off, none⟩))) (hy : look e y = some (true, v)) (hv : v.oneCell' = true)
    (u : Upd C b (.cells l.toArray bt (0, 0)) (.cells (l.set off v).toArray bt (0, 0)) C') (hoff : off < l.length) (hD : Weak C' cf.D) (h : Eng.pex T rest e (fun l e => Ops W0 P cf arr k l e C')) :
    Ops W0 P cf arr k (⟨none, .store t x y, ty, p, af, none⟩ :: rest) e C :=
  Ops.m rfl rfl (m_store hT ht hs hx hy hv hoff u) (by rintro _ v C' ⟨rfl, rfl⟩; exact ⟨hD, Ops.pex hT h⟩)
theorem Ops.boxN (hT : TabOk P T) {t : TypeId} {x : Operand} {vs : List Value} (hx : look e x = some (true, .agg vs.toArray)) (hk : isFresh (klass cf ⟨some d, .box t x, ty, p, af, none⟩) = true)
    (h : ∀ b, Eng.pex T rest ((d, true, .pointer (some ⟨b, 0, none⟩)) :: e) (fun l e => Ops W0 P cf arr k l e ([(b, .cells vs.toArray t (0, 0))] :: C))) : Ops W0 P cf arr k (⟨some d, .box t x, ty, p, af, none⟩ :: rest) e C :=
  Ops.fresh rfl hk (fresh_boxN hx) (fun b => Ops.pex hT (h b))
theorem Ops.box (hT : TabOk P T) {t : TypeId} {x : Operand} {v : Value} (hx : look e x = some (true, v)) (hv : v.oneCell' = true) (hk : isFresh (klass cf ⟨some d, .box t x, ty, p, af, none⟩) = true)
    (h : ∀ b, Eng.pex T rest ((d, true, .pointer (some ⟨b, 0, none⟩)) :: e) (fun l e => Ops W0 P cf arr k l e ([(b, .cells [v].toArray t (0, 0))] :: C))) : Ops W0 P cf arr k (⟨some d, .box t x, ty, p, af, none⟩ :: rest) e C :=
  Ops.fresh rfl hk (fresh_box hx hv) (fun b => Ops.pex hT (h b))
theorem Ops.alloc (hT : TabOk P T) {t : TypeId} {zs : List Value} (hz : zeroC T zeroFuel t = some zs) (hk : isFresh (klass cf ⟨some d, .alloc t, ty, p, af, none⟩) = true)
    (h : ∀ b, Eng.pex T rest ((d, true, .pointer (some ⟨b, 0, none⟩)) :: e) (fun l e => Ops W0 P cf arr k l e ([(b, .cells zs.toArray t (0, 0))] :: C))) : Ops W0 P cf arr k (⟨some d, .alloc t, ty, p, af, none⟩ :: rest) e C :=
  Ops.fresh rfl hk (fresh_alloc hT hz) (fun b => Ops.pex hT (h b))
theorem Ops.call (hT : TabOk P T) {l : List Operand} {vs : List Value} {ts : Array TypeId} {f : FuncId} {R : Value → Heap → Prop} (hk : isM (klass cf ⟨some d, .call { callee := .value (.func f), args := l.toArray, argTypes := ts }, ty, p, af, none⟩) = true)
    (hl : Looks e l vs) (hc : callable P f = true) (hs : Does W0 P f vs.toArray C R)
    (h : ∀ v C', R v C' → Weak C' cf.D ∧ Eng.pex T rest ((d, true, v) :: e) (fun l e => Ops W0 P cf arr k l e C')) : Ops W0 P cf arr k (⟨some d, .call { callee := .value (.func f), args := l.toArray, argTypes := ts }, ty, p, af, none⟩ :: rest) e C :=
  Ops.m rfl hk (m_call (fs := []) (cs := []) hc rfl hl (by simpa using hs)) (fun _ v C' hr => ⟨(h v C' hr).1, Ops.pex hT (h v C' hr).2⟩)
theorem Ops.callQ (hT : TabOk P T) {l : List Operand} {vs : List Value} {ts : Array TypeId} {f : FuncId} {v : Value} (hk : notPure (klass cf ⟨some d, .call { callee := .value (.func f), args := l.toArray, argTypes := ts }, ty, p, af, none⟩) = true) (hl : Looks e l vs) (hc : callable P f = true) (hs : Gives W0 P f vs.toArray C v)
    (h : Eng.pex T rest ((d, true, v) :: e) (fun l e => Ops W0 P cf arr k l e C)) : Ops W0 P cf arr k (⟨some d, .call { callee := .value (.func f), args := l.toArray, argTypes := ts }, ty, p, af, none⟩ :: rest) e C :=
  Ops.quiet rfl hk (quiet_call (fs := []) (cs := []) hc rfl hl (by simpa using hs)) (Ops.pex hT h)
theorem Ops.callVQ (hT : TabOk P T) {x : Nat} {l : List Operand} {vs as : List Value} {ts : Array TypeId} {f : FuncId} {fs cs : List Value} {v : Value} (hk : notPure (klass cf ⟨some d, .call { callee := .value (.tmp x), args := l.toArray, argTypes := ts }, ty, p, af, none⟩) = true)
    (hx : look e (.tmp x) = some (true, .func (.func f) fs.toArray cs.toArray)) (hl : Looks e l vs) (ha : fs ++ vs ++ cs = as) (hc : callable P f = true) (hs : Gives W0 P f as.toArray C v)
    (h : Eng.pex T rest ((d, true, v) :: e) (fun l e => Ops W0 P cf arr k l e C)) : Ops W0 P cf arr k (⟨some d, .call { callee := .value (.tmp x), args := l.toArray, argTypes := ts }, ty, p, af, none⟩ :: rest) e C :=
  Ops.quiet rfl hk (quiet_call hc hx hl (by rw [ha]; exact hs)) (Ops.pex hT h)
theorem guard_yes {j t : Nat} {b : Bool} (h1 : gslot arr j = some t) (h2 : get e t = some (true, .bool b)) : guardOk arr e (some (j, true)) b := ⟨t, true, _, b, h1, h2, fun _ => rfl, by simp⟩
theorem guard_no {j t : Nat} {b : Bool} (h1 : gslot arr j = some t) (h2 : get e t = some (true, .bool b)) : guardOk arr e (some (j, false)) (!b) := ⟨t, true, _, b, h1, h2, fun _ => rfl, by cases b <;> rfl⟩
def St.value : St → Option (Value × Prop)
  | .val v => some (v, True)
  | .cond c v => some (v, c)
  | .stop => none
theorem PureL.step {lk : Lk} (hT : TabOk P T) {o : Oper} {v : Value} {c : Prop} (h : (Eng.step T { o with guard := none } lk).value = some (v, c)) (hc : c) : PureL P lk o v := by
  have hok := step_ok (P := P) (lk := lk) hT { o with guard := none }
  cases hst : Eng.step T { o with guard := none } lk with
  | stop => rw [hst] at h; simp [St.value] at h
  | val u =>
    rw [hst] at h hok
    simp only [St.value, Option.some.injEq, Prod.mk.injEq] at h
    obtain ⟨rfl, rfl⟩ := h
    exact hok
  | cond c' u =>
    rw [hst] at h hok
    simp only [St.value, Option.some.injEq, Prod.mk.injEq] at h
    obtain ⟨rfl, rfl⟩ := h
    exact hok hc
def lookU (e : Env) : Lk := fun x => match look e x with
  | some (_, v) => some (true, v)
  | none => none
def flagsOk (G : Bool) (e : Env) : List Operand → Prop
  | [] => True
  | x :: r => match look e x with
    | some (g, _) => (G = true → g = true) ∧ flagsOk G e r
    | none => flagsOk G e r
theorem flagsOk_mem {G : Bool} (hG : G = true) : ∀ (l : List Operand), flagsOk G e l → ∀ x ∈ l, ∀ g v, look e x = some (g, v) → g = true
  | [], _, x, hx, _, _, _ => by cases hx
  | y :: r, h, x, hx, g, v, hg => by
    simp only [flagsOk] at h
    rcases List.mem_cons.1 hx with rfl | hx
    · rw [hg] at h
      exact h.1 hG
    · split at h
      · exact flagsOk_mem hG r h.2 x hx g v hg
      · exact flagsOk_mem hG r h x hx g v hg
theorem agreeU {G : Bool} (hG : G = true) {o : Oper} {ρ : Operand → Value} (hf : flagsOk G e o.op.operands.toList) (ha : Agree e o ρ) : AgreeL (lookU e) o ρ := fun x hx v hv => by
  unfold lookU at hv
  cases hl : look e x with
  | none => simp [hl] at hv
  | some q =>
    obtain ⟨g, u⟩ := q
    simp only [hl, Option.some.injEq, Prod.mk.injEq, true_and] at hv
    subst hv
    have := flagsOk_mem hG _ hf x (by simpa using hx) g u hl
    subst this
    exact ha x hx u hl
theorem Ops.gstep (hT : TabOk P T) {op : Op} {j : Nat} {want G : Bool} {v : Value} {c : Prop} (hk : isMF (klass cf ⟨some d, op, ty, p, af, some (j, want)⟩) = false) (hg : guardOk arr e (some (j, want)) G)
    (hst : (Eng.step T ⟨some d, op, ty, p, af, none⟩ (lookU e)).value = some (v, c)) (hf : flagsOk G e op.operands.toList) (hc : G = true → c)
    (h : Eng.pex T rest ((d, G, v) :: e) (fun l e => Ops W0 P cf arr k l e C)) : Ops W0 P cf arr k (⟨some d, op, ty, p, af, some (j, want)⟩ :: rest) e C :=
  Ops.gpure hg hk (fun hG ρ ha => PureL.step (lk := lookU e) hT (o := ⟨some d, op, ty, p, af, some (j, want)⟩) hst (hc hG) ρ (agreeU hG hf ha)) (Ops.pex hT h)
theorem lookU_look {G : Bool} (hG : G = true) {x : Operand} {v : Value} (hf : flagsOk G e [x]) (hx : lookU e x = some (true, v)) : look e x = some (true, v) := by
  unfold lookU at hx
  cases hl : look e x with
  | none => simp [hl] at hx
  | some q =>
    obtain ⟨g, u⟩ := q
    simp only [hl, Option.some.injEq, Prod.mk.injEq, true_and] at hx
    subst hx
    have := flagsOk_mem hG _ hf x (by simp) g _ hl
    subst this
    rfl
theorem Ops.gload (hT : TabOk P T) {t : TypeId} {x : Operand} {j : Nat} {want G : Bool} {a : Addr} {v : Value} {i : TyI} (hg : guardOk arr e (some (j, want)) G) (ht : T.find t = some i) (hs : (i.d.known && !i.d.agg) = true) (hx : lookU e x = some (true, .pointer (some a)))
    (hf : flagsOk G e [x]) (hr : G = true → Rd W0 C a v) (hk : klass cf ⟨some d, .load t x, ty, p, af, some (j, want)⟩ = .quiet)
    (h : Eng.pex T rest ((d, G, v) :: e) (fun l e => Ops W0 P cf arr k l e C)) : Ops W0 P cf arr k (⟨some d, .load t x, ty, p, af, some (j, want)⟩ :: rest) e C :=
  Ops.gquiet hg hk (fun hG => quiet_load hT ht hs (lookU_look hG hf hx) (hr hG)) (Ops.pex hT h)
end
section
variable {W0 : World} {P : Program} {n : Nat} {K : Kont} {e : Env} {C : Heap}
theorem V.condT {c : Operand} {x y : Code} {b : Bool} (hc : look e c = some (true, .bool b)) (hb : b = true) (hx : V W0 P n K x e C) : V W0 P n K (.cond c x y) e C :=
  V.cond hc (fun _ => hx) (fun h => by rw [hb] at h; cases h)
theorem V.condF {c : Operand} {x y : Code} {b : Bool} (hc : look e c = some (true, .bool b)) (hb : b = false) (hy : V W0 P n K y e C) : V W0 P n K (.cond c x y) e C :=
  V.cond hc (fun h => by rw [hb] at h; cases h) (fun _ => hy)
end
end Eng
namespace Eng
open Go
def baseL : Nat → List Value → List Value
  | 0, _ => []
  | n + 1, zs => zs ++ baseL n zs
theorem baseL_length (n : Nat) (zs : List Value) : (baseL n zs).length = n * zs.length := by
  induction n with
  | zero => simp [baseL]
  | succ n ih => simp [baseL, ih, Nat.add_mul]; omega
theorem baseL_get (zs : List Value) : ∀ (n j : Nat), j < n * zs.length → (baseL n zs)[j]? = zs[j % zs.length]? := by
  intro n
  induction n with
  | zero => intro j h; simp at h
  | succ n ih =>
    intro j h
    simp only [baseL]
    by_cases hj : j < zs.length
    · rw [List.getElem?_append_left hj, Nat.mod_eq_of_lt hj]
    · rw [List.getElem?_append_right (by omega), ih (j - zs.length) (by rw [Nat.add_mul] at h; omega)]
      congr 1
      exact (Nat.mod_eq_sub_mod (by omega)).symm
theorem range_base (zs : List Value) (n m : Nat) (hm : m = n * zs.length) : ((Array.range m).map fun j => zs.toArray[j % zs.toArray.size]!) = (baseL n zs).toArray := by
  subst hm
  by_cases hz : zs.length = 0
  · have : zs = [] := List.eq_nil_of_length_eq_zero hz
    subst this
    have : baseL n [] = [] := List.eq_nil_of_length_eq_zero (by rw [baseL_length]; simp)
    simp [this]
  · apply Array.ext
    · simp [baseL_length]
    · intro j h1 h2
      have hj : j < n * zs.length := by simpa using h1
      have h3 := baseL_get zs n j hj
      have hlt : j % zs.length < zs.length := Nat.mod_lt _ (by omega)
      rw [List.getElem?_eq_getElem hlt] at h3
      have h4 := (List.getElem?_eq_some_iff.1 h3).2
      simp only [Array.getElem_map, Array.getElem_range, List.getElem_toArray]
      rw [h4]
      simp [hlt]
section
variable {W0 : World} {P : Program} {T : Tab} {e : Env} {C : Heap} {d : Nat} {ty : TypeId} {p : String} {af : Array Edge} {cf : Cfg} {arr : Array Oper} {k : Env → Heap → Prop} {rest : List Oper}
theorem fresh_buildSlice (hT : TabOk P T) {g : Option (Nat × Bool)} {dd : Option Nat} {t el : TypeId} {s0 b0 n : Nat} {ie : TyI} {zs : List Value} {parts : List (Nat × Operand)} {vs : List (Nat × Value)} {r : List Value} (ht : T.find t = some ⟨.slice el, s0, b0⟩) (he : T.find el = some ie) (hz : zeroC T zeroFuel el = some zs)
    (hzl : Nat.beq zs.length ie.size = true) (hp : parts.map (fun p => (p.1, look e p.2)) = vs.map (fun p => (p.1, some (true, p.2)))) (hn : Nat.ble (n * ie.size) 16777216 = true) (hf : fillL (fun i => some (i * ie.size, ie.size)) (baseL n zs) vs = some r) :
    FreshV P e ⟨dd, .buildSlice t n parts.toArray, ty, p, af, g⟩ (fun b => .slice (some ⟨b, 0, none⟩) n n) (.cells r.toArray el (0, 0)) := fun ρ ha w => by
  obtain ⟨z, hz1, hzs⟩ := hT.zero hz w
  have hparts : parts.map (fun p => (p.1, ρ p.2)) = vs := by
    have key : ∀ (ps : List (Nat × Operand)) (vs : List (Nat × Value)), (∀ q ∈ ps, q ∈ parts) → ps.map (fun p => (p.1, look e p.2)) = vs.map (fun p => (p.1, some (true, p.2))) → ps.map (fun p => (p.1, ρ p.2)) = vs := by
      intro ps
      induction ps with
      | nil => intro vs _ h; cases vs with | nil => rfl | cons _ _ => simp at h
      | cons q ps ih =>
        intro vs hm h
        cases vs with
        | nil => simp at h
        | cons u vs =>
          simp only [List.map_cons, List.cons.injEq, Prod.mk.injEq] at h
          simp only [List.map_cons, List.cons.injEq]
          refine ⟨?_, ih vs (fun y hy => hm y (by simp [hy])) h.2⟩
          rw [h.1.1, ha q.2 (by simp [Op.operands]; exact ⟨q.1, hm q (by simp)⟩) u.2 h.1.2]
    exact key parts vs (fun _ h => h) hp
  have hzl' := Nat.eq_of_beq_eq_true hzl
  have hx : execOp ρ ⟨dd, .buildSlice t n parts.toArray, ty, p, af, g⟩ = (do pure (.value (← Instr.buildSlice t n (parts.toArray.map fun (i, x) => (i, ρ x))))) := rfl
  rw [hx]
  have hpa : (parts.toArray.map fun (i, x) => (i, ρ x)) = vs.toArray := by simp [hparts]
  rw [hpa]
  have hfill := fill_fillL vs _ r hf
  have hnn : ¬ (n * ie.size > 2 ^ 24) := by have := Nat.le_of_ble_eq_true hn; simpa using this
  unfold Instr.buildSlice
  simp only [Sem.run_bind, run_underlying (hT.slice ht), Result.andThen_ok, hT.size he, hnn, if_false]
  by_cases h0 : n * ie.size = 0
  · have hb : baseL n zs = [] := List.eq_nil_of_length_eq_zero (by rw [baseL_length, hzl', h0])
    rw [hb] at hfill
    have hr0 : Array.range 0 = #[] := rfl
    simp [h0, hr0, hfill, run_newRow]
  · simp only [h0, if_false, Sem.run_bind, hz1, Result.andThen_ok, Sem.run_pure]
    rw [hzs, range_base zs n _ (by rw [hzl'])]
    simp [hfill, run_newRow]
theorem fresh_makeSlice (hT : TabOk P T) {g : Option (Nat × Bool)} {dd : Option Nat} {t el : TypeId} {s0 b0 : Nat} {ie : TyI} {zs : List Value} {x y : Operand} {k1 k2 : IntKind} {n c : Int} (ht : T.find t = some ⟨.slice el, s0, b0⟩) (he : T.find el = some ie) (hz : zeroC T zeroFuel el = some zs)
    (hzl : Nat.beq zs.length ie.size = true) (hx : look e x = some (true, .int k1 n)) (hy : look e y = some (true, .int k2 c)) (hn : 0 ≤ n ∧ n ≤ c ∧ c ≤ 9223372036854775807) (hb : (ie.bytes : Int) * c ≤ 281474976710656) :
    FreshV P e ⟨dd, .makeSlice t x y, ty, p, af, g⟩ (fun b => .slice (some ⟨b, 0, none⟩) n.toNat c.toNat) (.cells (baseL c.toNat zs).toArray el (0, 0)) := fun ρ ha w => by
  obtain ⟨z, hz1, hzs⟩ := hT.zero hz w
  obtain ⟨pi, pd, hpi, hpd, hsz, hby, hdo⟩ := hT.info he
  have h1 := ha x (by simp [Op.operands]) _ hx
  have h2 := ha y (by simp [Op.operands]) _ hy
  have hzl' := Nat.eq_of_beq_eq_true hzl
  have hex : execOp ρ ⟨dd, .makeSlice t x y, ty, p, af, g⟩ = (do pure (.value (← Instr.makeSlice t (ρ x) (ρ y)))) := rfl
  rw [hex, h1, h2]
  have w1 : IntKind.i64.wrap n = n := IntWalk.i64_in n (by omega)
  have w2 : IntKind.i64.wrap c = c := IntWalk.i64_in c (by omega)
  have hbytes : ¬ ((pi.bytes : Int) * c > 2 ^ 48) := by rw [hby]; have := hb; simp only [show (2 : Int) ^ 48 = 281474976710656 from rfl]; omega
  have hc0 : ¬ (c < 0) := by omega
  have hn0 : ¬ (n < 0) := by omega
  have hnc : ¬ (n > c) := by omega
  have ask : ∀ (m : Nat) (w : World), (askRoom m).run P w = .ok () w := by
    intro m w
    unfold askRoom
    split <;> rfl
  have hti : (typeInfo el).run P w = .ok pi w := by simp [typeInfo, hpi]
  unfold Instr.makeSlice
  simp only [Sem.run_bind, run_underlying (hT.slice ht), Result.andThen_ok, asInt, asIntOf, Sem.run_pure, hti, w1, w2, hbytes, hc0, hn0, hnc, decide_false, Bool.or_self, Bool.false_eq_true, if_false, ask, hT.size he]
  by_cases h0 : c.toNat * ie.size = 0
  · have hbz : baseL c.toNat zs = [] := List.eq_nil_of_length_eq_zero (by rw [baseL_length, hzl', h0])
    have hr0 : Array.range 0 = #[] := rfl
    simp [h0, hr0, hbz, run_newRow]
  · simp only [h0, if_false, Sem.run_bind, hz1, Result.andThen_ok, Sem.run_pure]
    rw [hzs, range_base zs c.toNat _ (by rw [hzl'])]
    simp [run_newRow]
inductive Parts (e : Env) : List (Nat × Operand) → List (Nat × Value) → Prop
  | nil : Parts e [] []
  | cons {i x l v vs} : look e x = some (true, v) → Parts e l vs → Parts e ((i, x) :: l) ((i, v) :: vs)
inductive TakeL : Nat → Nat → List Value → List Value → Prop
  | zero {l} : TakeL 0 0 l []
  | take {n x l r} : TakeL 0 n l r → TakeL 0 (n + 1) (x :: l) (x :: r)
  | skip {o n x l r} : TakeL o n l r → TakeL (o + 1) n (x :: l) r
theorem Ops.storeN (hT : TabOk P T) {t : TypeId} {x y : Operand} {b off : Nat} {l : List Value} {bt : TypeId} {vs : List Value} {C' : Heap} {i : TyI} (ht : T.find t = some i) (hs : i.size = vs.length) (hx : look e x = some (true, .pointer (some ⟨b, off, none⟩))) (hy : look e y = some (true, .agg vs.toArray))
    (hv : vs.all (·.oneCell') = true) (u : Upd C b (.cells l.toArray bt (0, 0)) (.cells (l.take off ++ vs ++ l.drop (off + vs.length)).toArray bt (0, 0)) C') (hoff : off + vs.length ≤ l.length) (hD : Weak C' cf.D) (h : Eng.pex T rest e (fun l e => Ops W0 P cf arr k l e C')) :
    Ops W0 P cf arr k (⟨none, .store t x y, ty, p, af, none⟩ :: rest) e C :=
  Ops.m rfl rfl (m_storeN hT ht hs hx hy (List.all_eq_true.1 hv) hoff u) (by rintro _ v C' ⟨rfl, rfl⟩; exact ⟨hD, Ops.pex hT h⟩)
inductive LooksG (G : Bool) (e : Env) : List Operand → List Value → Prop
  | nil : LooksG G e [] []
  | cons {x l v vs F} : look e x = some (F, v) → (G = true → F = true) → LooksG G e l vs → LooksG G e (x :: l) (v :: vs)
structure RdS (W0 : World) (C : Heap) (sz : Nat) (s : Value) (n : Nat) (xs : List Value) : Prop where
  form : ∃ ao cap, s = .slice ao n cap ∧ n ≤ cap ∧ (0 < n → ∃ b off, ao = some ⟨b, off, none⟩ ∧ RdL W0 C b off xs)
  len : xs.length = n * sz
theorem RdS.mono {C' : Heap} {sz : Nat} {s : Value} {n : Nat} {xs : List Value} (h : RdS W0 C' sz s n xs) (k : Weak C C') : RdS W0 C sz s n xs := by
  obtain ⟨ao, cap, h1, h2, h3⟩ := h.form
  refine ⟨⟨ao, cap, h1, h2, fun hn => ?_⟩, h.len⟩
  obtain ⟨b, off, h4, h5⟩ := h3 hn
  exact ⟨b, off, h4, h5.mono k⟩
theorem RdS.rda {sz : Nat} {a : Addr} {n cap : Nat} {xs : List Value} (h : RdS W0 C sz (.slice (some a) n cap) n xs) : RdA W0 C a xs := by
  obtain ⟨ao, cap', h1, h2, h3⟩ := h.form
  simp only [Value.slice.injEq, true_and] at h1
  obtain ⟨rfl, rfl⟩ := h1
  rcases Nat.eq_zero_or_pos n with h0 | h0
  · have hx : xs = [] := List.eq_nil_of_length_eq_zero (by rw [h.len, h0]; simp)
    rw [hx]; exact RdA.nil
  · obtain ⟨b, off, h4, h5⟩ := h3 h0
    cases h4
    exact h5.a
def ints (l : List Int) : List Value := l.map (Value.int .i64)
end
end Eng
set_option maxRecDepth 100000
namespace Eng
open Go
section
variable {W0 : World} {P : Program} {T : Tab} {cf : Cfg} {arr : Array Oper} {k : Env → Heap → Prop} {rest : List Oper} {e : Env} {C : Heap}
variable {dd : Option Nat} {op : Op} {ty : TypeId} {p : _} {af : _}
theorem Ops.open0 {g : Option (Nat × Bool)} (hg : guardOk arr e g true) (h : Ops W0 P cf arr k (⟨dd, op, ty, p, af, none⟩ :: rest) e C) : Ops W0 P cf arr k (⟨dd, op, ty, p, af, g⟩ :: rest) e C := by
  refine ⟨fun hD => ?_⟩
  have hr := h.run hD
  have hkl : klass cf ⟨dd, op, ty, p, af, g⟩ = klass cf ⟨dd, op, ty, p, af, none⟩ := rfl
  simp only [List.map_cons, hkl] at hr ⊢
  cases hk : klass cf ⟨dd, op, ty, p, af, none⟩ with
  | pure =>
    rw [hk] at hr
    cases hr with
    | pure G v h1 h2 h3 =>
      have : G = true := h1
      subst this
      exact .pure true v hg h2 h3
  | stable =>
    rw [hk] at hr
    cases hr with
    | stable G v h1 h2 h3 =>
      have : G = true := h1
      subst this
      exact .stable true v hg h2 h3
  | quiet =>
    rw [hk] at hr
    cases hr with
    | quiet G v h1 h2 h3 =>
      have : G = true := h1
      subst this
      exact .quiet true v hg h2 h3
  | fresh =>
    rw [hk] at hr
    cases hr with
    | fresh G mk ob h1 h2 h3 h4 =>
      have : G = true := h1
      subst this
      exact .fresh true mk ob hg h2 h3 (fun h => by cases h)
  | m =>
    rw [hk] at hr
    cases hr with
    | m G R h1 h2 h3 h4 h5 =>
      have : G = true := h1
      subst this
      exact .m true R hg h2 h3 h4 (fun h => by cases h)
theorem guard_nt {j t : Nat} (h1 : gslot arr j = some t) (h2 : get e t = some (true, .bool false)) : guardOk arr e (some (j, false)) true := guard_no h1 h2
theorem Ops.gopen (hT : TabOk P T) {g : Nat × Bool} (hg : guardOk arr e (some g) true) (h : Eng.pex T (⟨dd, op, ty, p, af, none⟩ :: rest) e (fun l e => Ops W0 P cf arr k l e C)) : Ops W0 P cf arr k (⟨dd, op, ty, p, af, some g⟩ :: rest) e C :=
  Ops.open0 hg (Ops.pex hT h)
theorem PureV.m {o : Oper} {v : Value} {C' : Heap} (h : PureV P e o v) (hC : Weak C C') : MV W0 P e C o (fun u D => u = v ∧ D = C') := fun X a ha w next Q hw hn => by
  unfold Oper.wp
  rw [h a.eval ha w]
  exact hn v C' w ⟨rfl, rfl⟩ (hw.weak (hC.cons X))
end
end Eng
