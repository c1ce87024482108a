/-
  More rules: literals of slices, make, whole structs, loops.
-/
import Derived.Test.YtofcmcgopdhfeaaEng6
namespace Eng
open Go

def baseL : Nat → List Value → List Value
  | 0, _ => []
  | n + 1, zs => zs ++ baseL n zs

theorem baseL_length (n : Nat) (zs : List Value) : (baseL n zs).length = n * zs.length := by
  induction n with
  | zero => simp [baseL]
  | succ n ih => simp [baseL, ih, Nat.add_mul]; omega

theorem baseL_get (zs : List Value) : ∀ (n j : Nat), j < n * zs.length → (baseL n zs)[j]? = zs[j % zs.length]? := by
  intro n
  induction n with
  | zero => intro j h; simp at h
  | succ n ih =>
    intro j h
    simp only [baseL]
    by_cases hj : j < zs.length
    · rw [List.getElem?_append_left hj, Nat.mod_eq_of_lt hj]
    · rw [List.getElem?_append_right (by omega), ih (j - zs.length) (by rw [Nat.add_mul] at h; omega)]
      congr 1
      exact (Nat.mod_eq_sub_mod (by omega)).symm

theorem range_base (zs : List Value) (n m : Nat) (hm : m = n * zs.length) : ((Array.range m).map fun j => zs.toArray[j % zs.toArray.size]!) = (baseL n zs).toArray := by
  subst hm
  by_cases hz : zs.length = 0
  · have : zs = [] := List.eq_nil_of_length_eq_zero hz
    subst this
    have : baseL n [] = [] := List.eq_nil_of_length_eq_zero (by rw [baseL_length]; simp)
    simp [this]
  · apply Array.ext
    · simp [baseL_length]
    · intro j h1 h2
      have hj : j < n * zs.length := by simpa using h1
      have h3 := baseL_get zs n j hj
      have hlt : j % zs.length < zs.length := Nat.mod_lt _ (by omega)
      rw [List.getElem?_eq_getElem hlt] at h3
      have h4 := (List.getElem?_eq_some_iff.1 h3).2
      simp only [Array.getElem_map, Array.getElem_range, List.getElem_toArray]
      rw [h4]
      simp [hlt]

section
variable {W0 : World} {P : Program} {T : Tab} {e : Env} {C : Heap} {d : Nat} {ty : TypeId} {p : String} {af : Array Edge} {cf : Cfg} {arr : Array Oper} {k : Env → Heap → Prop} {rest : List Oper}

theorem fresh_buildSlice (hT : TabOk P T) {g : Option (Nat × Bool)} {dd : Option Nat} {t el : TypeId} {s0 b0 n : Nat} {ie : TyI} {zs : List Value} {parts : List (Nat × Operand)} {vs : List (Nat × Value)} {r : List Value} (ht : T.find t = some ⟨.slice el, s0, b0⟩) (he : T.find el = some ie) (hz : zeroC T zeroFuel el = some zs)
    (hzl : Nat.beq zs.length ie.size = true) (hp : parts.map (fun p => (p.1, look e p.2)) = vs.map (fun p => (p.1, some (true, p.2)))) (hn : Nat.ble (n * ie.size) 16777216 = true) (hf : fillL (fun i => some (i * ie.size, ie.size)) (baseL n zs) vs = some r) :
    FreshV P e ⟨dd, .buildSlice t n parts.toArray, ty, p, af, g⟩ (fun b => .slice (some ⟨b, 0, none⟩) n n) (.cells r.toArray el (0, 0)) := fun ρ ha w => by
  obtain ⟨z, hz1, hzs⟩ := hT.zero hz w
  have hparts : parts.map (fun p => (p.1, ρ p.2)) = vs := by
    have key : ∀ (ps : List (Nat × Operand)) (vs : List (Nat × Value)), (∀ q ∈ ps, q ∈ parts) → ps.map (fun p => (p.1, look e p.2)) = vs.map (fun p => (p.1, some (true, p.2))) → ps.map (fun p => (p.1, ρ p.2)) = vs := by
      intro ps
      induction ps with
      | nil => intro vs _ h; cases vs with | nil => rfl | cons _ _ => simp at h
      | cons q ps ih =>
        intro vs hm h
        cases vs with
        | nil => simp at h
        | cons u vs =>
          simp only [List.map_cons, List.cons.injEq, Prod.mk.injEq] at h
          simp only [List.map_cons, List.cons.injEq]
          refine ⟨?_, ih vs (fun y hy => hm y (by simp [hy])) h.2⟩
          rw [h.1.1, ha q.2 (by simp [Op.operands]; exact ⟨q.1, hm q (by simp)⟩) u.2 h.1.2]
    exact key parts vs (fun _ h => h) hp
  have hzl' := Nat.eq_of_beq_eq_true hzl
  have hx : execOp ρ ⟨dd, .buildSlice t n parts.toArray, ty, p, af, g⟩ = (do pure (.value (← Instr.buildSlice t n (parts.toArray.map fun (i, x) => (i, ρ x))))) := rfl
  rw [hx]
  have hpa : (parts.toArray.map fun (i, x) => (i, ρ x)) = vs.toArray := by simp [hparts]
  rw [hpa]
  have hfill := fill_fillL vs _ r hf
  have hnn : ¬ (n * ie.size > 2 ^ 24) := by have := Nat.le_of_ble_eq_true hn; simpa using this
  unfold Instr.buildSlice
  simp only [Sem.run_bind, run_underlying (hT.slice ht), Result.andThen_ok, hT.size he, hnn, if_false]
  by_cases h0 : n * ie.size = 0
  · have hb : baseL n zs = [] := List.eq_nil_of_length_eq_zero (by rw [baseL_length, hzl', h0])
    rw [hb] at hfill
    have hr0 : Array.range 0 = #[] := rfl
    simp [h0, hr0, hfill, run_newRow]
  · simp only [h0, if_false, Sem.run_bind, hz1, Result.andThen_ok, Sem.run_pure]
    rw [hzs, range_base zs n _ (by rw [hzl'])]
    simp [hfill, run_newRow]

theorem fresh_makeSlice (hT : TabOk P T) {g : Option (Nat × Bool)} {dd : Option Nat} {t el : TypeId} {s0 b0 : Nat} {ie : TyI} {zs : List Value} {x y : Operand} {k1 k2 : IntKind} {n c : Int} (ht : T.find t = some ⟨.slice el, s0, b0⟩) (he : T.find el = some ie) (hz : zeroC T zeroFuel el = some zs)
    (hzl : Nat.beq zs.length ie.size = true) (hx : look e x = some (true, .int k1 n)) (hy : look e y = some (true, .int k2 c)) (hn : 0 ≤ n ∧ n ≤ c ∧ c ≤ 9223372036854775807) (hb : (ie.bytes : Int) * c ≤ 281474976710656) :
    FreshV P e ⟨dd, .makeSlice t x y, ty, p, af, g⟩ (fun b => .slice (some ⟨b, 0, none⟩) n.toNat c.toNat) (.cells (baseL c.toNat zs).toArray el (0, 0)) := fun ρ ha w => by
  obtain ⟨z, hz1, hzs⟩ := hT.zero hz w
  obtain ⟨pi, pd, hpi, hpd, hsz, hby, hdo⟩ := hT.info he
  have h1 := ha x (by simp [Op.operands]) _ hx
  have h2 := ha y (by simp [Op.operands]) _ hy
  have hzl' := Nat.eq_of_beq_eq_true hzl
  have hex : execOp ρ ⟨dd, .makeSlice t x y, ty, p, af, g⟩ = (do pure (.value (← Instr.makeSlice t (ρ x) (ρ y)))) := rfl
  rw [hex, h1, h2]
  have w1 : IntKind.i64.wrap n = n := IntWalk.i64_in n (by omega)
  have w2 : IntKind.i64.wrap c = c := IntWalk.i64_in c (by omega)
  have hbytes : ¬ ((pi.bytes : Int) * c > 2 ^ 48) := by rw [hby]; have := hb; simp only [show (2 : Int) ^ 48 = 281474976710656 from rfl]; omega
  have hc0 : ¬ (c < 0) := by omega
  have hn0 : ¬ (n < 0) := by omega
  have hnc : ¬ (n > c) := by omega
  have ask : ∀ (m : Nat) (w : World), (askRoom m).run P w = .ok () w := by
    intro m w
    unfold askRoom
    split <;> rfl
  have hti : (typeInfo el).run P w = .ok pi w := by simp [typeInfo, hpi]
  unfold Instr.makeSlice
  simp only [Sem.run_bind, run_underlying (hT.slice ht), Result.andThen_ok, asInt, asIntOf, Sem.run_pure, hti, w1, w2, hbytes, hc0, hn0, hnc, decide_false, Bool.or_self, Bool.false_eq_true, if_false, ask, hT.size he]
  by_cases h0 : c.toNat * ie.size = 0
  · have hbz : baseL c.toNat zs = [] := List.eq_nil_of_length_eq_zero (by rw [baseL_length, hzl', h0])
    have hr0 : Array.range 0 = #[] := rfl
    simp [h0, hr0, hbz, run_newRow]
  · simp only [h0, if_false, Sem.run_bind, hz1, Result.andThen_ok, Sem.run_pure]
    rw [hzs, range_base zs c.toNat _ (by rw [hzl'])]
    simp [run_newRow]

/-- Values of a literal's parts. -/
inductive Parts (e : Env) : List (Nat × Operand) → List (Nat × Value) → Prop
  | nil : Parts e [] []
  | cons {i x l v vs} : look e x = some (true, v) → Parts e l vs → Parts e ((i, x) :: l) ((i, v) :: vs)

theorem Parts.map {l : List (Nat × Operand)} {vs : List (Nat × Value)} (h : Parts e l vs) : l.map (fun p => (p.1, look e p.2)) = vs.map (fun p => (p.1, some (true, p.2))) := by
  induction h with
  | nil => rfl
  | cons hx _ ih => simp [hx, ih]

def forceV : List Value → (List Value → Prop) → Prop
  | [], k => k []
  | x :: r, k => forceV r fun r' => k (x :: r')
theorem forceV_eq : ∀ (l : List Value) (k : List Value → Prop), forceV l k = k l
  | [], _ => rfl
  | x :: r, k => by rw [forceV, forceV_eq r]

theorem Ops.buildSlice (hT : TabOk P T) {t el : TypeId} {s0 b0 n : Nat} {ie : TyI} {zs : List Value} {parts : List (Nat × Operand)} {vs : List (Nat × Value)} {r : List Value} (ht : T.find t = some ⟨.slice el, s0, b0⟩) (he : T.find el = some ie) (hz : zeroC T zeroFuel el = some zs)
    (hzl : Nat.beq zs.length ie.size = true) (hp : Parts e parts vs) (hn : Nat.ble (n * ie.size) 16777216 = true) (hf : fillL (fun i => some (i * ie.size, ie.size)) (baseL n zs) vs = some r) (hk : isFresh (klass cf ⟨some d, .buildSlice t n parts.toArray, ty, p, af, none⟩) = true)
    (h : forceV r fun r' => ∀ b, Eng.pex T rest ((d, true, .slice (some ⟨b, 0, none⟩) n n) :: e) (fun l e => Ops W0 P cf arr k l e ([(b, .cells r'.toArray el (0, 0))] :: C))) :
    Ops W0 P cf arr k (⟨some d, .buildSlice t n parts.toArray, ty, p, af, none⟩ :: rest) e C := by
  rw [forceV_eq] at h
  exact Ops.fresh rfl hk (fresh_buildSlice hT ht he hz hzl hp.map hn hf) (fun b => Ops.pex hT (h b))

theorem Ops.makeSlice (hT : TabOk P T) {t el : TypeId} {s0 b0 : Nat} {ie : TyI} {zs : List Value} {x y : Operand} {k1 k2 : IntKind} {n c : Int} (ht : T.find t = some ⟨.slice el, s0, b0⟩) (he : T.find el = some ie) (hz : zeroC T zeroFuel el = some zs)
    (hzl : Nat.beq zs.length ie.size = true) (hx : look e x = some (true, .int k1 n)) (hy : look e y = some (true, .int k2 c)) (hn : 0 ≤ n ∧ n ≤ c ∧ c ≤ 9223372036854775807) (hb : (ie.bytes : Int) * c ≤ 281474976710656) (hk : isFresh (klass cf ⟨some d, .makeSlice t x y, ty, p, af, none⟩) = true)
    (h : ∀ b, Eng.pex T rest ((d, true, .slice (some ⟨b, 0, none⟩) n.toNat c.toNat) :: e) (fun l e => Ops W0 P cf arr k l e ([(b, .cells (baseL c.toNat zs).toArray el (0, 0))] :: C))) :
    Ops W0 P cf arr k (⟨some d, .makeSlice t x y, ty, p, af, none⟩ :: rest) e C :=
  Ops.fresh rfl hk (fresh_makeSlice hT ht he hz hzl hx hy hn hb) (fun b => Ops.pex hT (h b))

/-- A part of a list, written out. -/
inductive TakeL : Nat → Nat → List Value → List Value → Prop
  | zero {l} : TakeL 0 0 l []
  | take {n x l r} : TakeL 0 n l r → TakeL 0 (n + 1) (x :: l) (x :: r)
  | skip {o n x l r} : TakeL o n l r → TakeL (o + 1) n (x :: l) r

theorem TakeL.eq {o n : Nat} {l r : List Value} (h : TakeL o n l r) : r = (l.drop o).take n ∧ r.length = n ∧ o + n ≤ l.length := by
  induction h with
  | zero => simp
  | take _ ih =>
    obtain ⟨h1, h2, h3⟩ := ih
    simp only [List.drop_zero] at h1
    subst h1
    refine ⟨by simp, by simpa using h2, by simpa using h3⟩
  | skip _ ih =>
    obtain ⟨h1, h2, h3⟩ := ih
    refine ⟨by simpa using h1, h2, by simp only [List.length_cons]; omega⟩

theorem RdL.lit {b off n : Nat} {l vs : List Value} {t : TypeId} {fr : Nat × Nat} (h : At W0 C b (.cells l.toArray t fr)) (ht : TakeL off n l vs) : RdL W0 C b off vs := RdL.of_at h (fun j u hj => by
  obtain ⟨h1, h2, h3⟩ := ht.eq
  have hlt := (List.getElem?_eq_some_iff.1 hj).1
  rw [h1, List.getElem?_take, if_pos (by omega), List.getElem?_drop] at hj
  exact hj)

/-- A whole struct is read. -/
theorem Ops.loadL (hT : TabOk P T) {t : TypeId} {x : Operand} {b off : Nat} {l vs : List Value} {bt : TypeId} {fr : Nat × Nat} {i : TyI} (ht : T.find t = some i) (hs : i.d.agg = true) (hx : look e x = some (true, .pointer (some ⟨b, off, none⟩))) (hr : At W0 C b (.cells l.toArray bt fr)) (hl : TakeL off i.size l vs) (hk : notPure (klass cf ⟨some d, .load t x, ty, p, af, none⟩) = true)
    (h : Eng.pex T rest ((d, true, .agg vs.toArray) :: e) (fun l e => Ops W0 P cf arr k l e C)) : Ops W0 P cf arr k (⟨some d, .load t x, ty, p, af, none⟩ :: rest) e C :=
  Ops.quiet rfl hk (quiet_loadN hT ht hs hl.eq.2.1 hx (RdL.lit hr hl)) (Ops.pex hT h)

/-- .. is written. -/
theorem Ops.storeN (hT : TabOk P T) {t : TypeId} {x y : Operand} {b off : Nat} {l : List Value} {bt : TypeId} {vs : List Value} {C' : Heap} {i : TyI} (ht : T.find t = some i) (hs : i.size = vs.length) (hx : look e x = some (true, .pointer (some ⟨b, off, none⟩))) (hy : look e y = some (true, .agg vs.toArray))
    (hv : vs.all (·.oneCell') = true) (u : Upd C b (.cells l.toArray bt (0, 0)) (.cells (l.take off ++ vs ++ l.drop (off + vs.length)).toArray bt (0, 0)) C') (hoff : off + vs.length ≤ l.length) (hD : Weak C' cf.D) (h : Eng.pex T rest e (fun l e => Ops W0 P cf arr k l e C')) :
    Ops W0 P cf arr k (⟨none, .store t x y, ty, p, af, none⟩ :: rest) e C :=
  Ops.m rfl rfl (m_storeN hT ht hs hx hy (List.all_eq_true.1 hv) hoff u) (by rintro _ v C' ⟨rfl, rfl⟩; exact ⟨hD, Ops.pex hT h⟩)

/-- A guarded call: two ways. -/
theorem Ops.gcall (hT : TabOk P T) {l : List Operand} {vs : List Value} {ts : Array TypeId} {f : FuncId} {j : Nat} {want G : Bool} {R : Value → Heap → Prop} (hk : isM (klass cf ⟨some d, .call { callee := .value (.func f), args := l.toArray, argTypes := ts }, ty, p, af, some (j, want)⟩) = true)
    (hg : guardOk arr e (some (j, want)) G) (hl : Looks e l vs) (hc : callable P f = true) (hs : G = true → Does W0 P f vs.toArray C R)
    (h : G = true → ∀ v C', R v C' → Weak C' cf.D ∧ Eng.pex T rest ((d, true, v) :: e) (fun l e => Ops W0 P cf arr k l e C')) (h' : G = false → Eng.pex T rest ((d, true, undef) :: e) (fun l e => Ops W0 P cf arr k l e C)) : Ops W0 P cf arr k (⟨some d, .call { callee := .value (.func f), args := l.toArray, argTypes := ts }, ty, p, af, some (j, want)⟩ :: rest) e C :=
  Ops.gm (G := G) hg hk (fun hG => m_call (fs := []) (cs := []) hc rfl hl (by simpa using hs hG)) (fun hG v C' hr => ⟨(h hG v C' hr).1, Ops.pex hT (h hG v C' hr).2⟩) (fun hG => Ops.pex hT (h' hG))

theorem Ops.pickT (hT : TabOk P T) {c a b : Operand} {x : Bool} {v : Value} (hc : look e c = some (true, .bool x)) (hx : x = true) (ha : look e a = some (true, v))
    (h : Eng.pex T rest ((d, true, v) :: e) (fun l e => Ops W0 P cf arr k l e C)) : Ops W0 P cf arr k (⟨some d, .pick c a b, ty, p, af, none⟩ :: rest) e C := by
  subst hx
  refine Ops.pure rfl (klass_nofresh rfl) (fun ρ hag w => ?_) (Ops.pex hT h)
  have h1 := hag c (by simp [Op.operands]) _ hc
  have h2 := hag a (by simp [Op.operands]) _ ha
  simp [execOp, h1, h2, asBool]
theorem Ops.pickF (hT : TabOk P T) {c a b : Operand} {x : Bool} {v : Value} (hc : look e c = some (true, .bool x)) (hx : x = false) (hb : look e b = some (true, v))
    (h : Eng.pex T rest ((d, true, v) :: e) (fun l e => Ops W0 P cf arr k l e C)) : Ops W0 P cf arr k (⟨some d, .pick c a b, ty, p, af, none⟩ :: rest) e C := by
  subst hx
  refine Ops.pure rfl (klass_nofresh rfl) (fun ρ hag w => ?_) (Ops.pex hT h)
  have h1 := hag c (by simp [Op.operands]) _ hc
  have h2 := hag b (by simp [Op.operands]) _ hb
  simp [execOp, h1, h2, asBool]

/-- Arguments of a guarded call: each is there where the call is made. -/
inductive LooksG (G : Bool) (e : Env) : List Operand → List Value → Prop
  | nil : LooksG G e [] []
  | cons {x l v vs F} : look e x = some (F, v) → (G = true → F = true) → LooksG G e l vs → LooksG G e (x :: l) (v :: vs)

theorem LooksG.looks {G : Bool} {l : List Operand} {vs : List Value} (h : LooksG G e l vs) (hG : G = true) : Looks e l vs := by
  induction h with
  | nil => exact .nil
  | cons h1 h2 _ ih => exact .cons (by rw [h1, h2 hG]) ih

/-- A guarded quiet call. -/
theorem Ops.gcallQ (hT : TabOk P T) {l : List Operand} {vs : List Value} {ts : Array TypeId} {f : FuncId} {j : Nat} {want G : Bool} {v : Value} (hk : klass cf ⟨some d, .call { callee := .value (.func f), args := l.toArray, argTypes := ts }, ty, p, af, some (j, want)⟩ = .quiet)
    (hg : guardOk arr e (some (j, want)) G) (hl : LooksG G e l vs) (hc : callable P f = true) (hs : G = true → Gives W0 P f vs.toArray C v)
    (h : Eng.pex T rest ((d, G, v) :: e) (fun l e => Ops W0 P cf arr k l e C)) : Ops W0 P cf arr k (⟨some d, .call { callee := .value (.func f), args := l.toArray, argTypes := ts }, ty, p, af, some (j, want)⟩ :: rest) e C := by
  exact Ops.gquiet hg hk (fun hG => quiet_call (fs := []) (cs := []) hc rfl (hl.looks hG) (by simpa using hs hG)) (Ops.pex hT h)

/-! ### Slices that are read -/

/-- Slice s has n elements; their cells are xs. -/
structure RdS (W0 : World) (C : Heap) (sz : Nat) (s : Value) (n : Nat) (xs : List Value) : Prop where
  form : ∃ ao cap, s = .slice ao n cap ∧ n ≤ cap ∧ (0 < n → ∃ b off, ao = some ⟨b, off, none⟩ ∧ RdL W0 C b off xs)
  len : xs.length = n * sz

theorem RdS.mono {C' : Heap} {sz : Nat} {s : Value} {n : Nat} {xs : List Value} (h : RdS W0 C' sz s n xs) (k : Weak C C') : RdS W0 C sz s n xs := by
  obtain ⟨ao, cap, h1, h2, h3⟩ := h.form
  refine ⟨⟨ao, cap, h1, h2, fun hn => ?_⟩, h.len⟩
  obtain ⟨b, off, h4, h5⟩ := h3 hn
  exact ⟨b, off, h4, h5.mono k⟩

theorem Slc.rds {t sz : Nat} {s : Value} {n : Nat} {xs : List Value} {c : List Blk} (h : Slc t sz s n xs c) : RdS W0 (c :: C) sz s n xs := by
  refine ⟨?_, h.1⟩
  rcases h.2 with ⟨rfl, rfl, _⟩ | ⟨b, cap, rest, rfl, rfl, hn, _, _⟩
  · exact ⟨none, 0, rfl, Nat.le_refl _, fun h => absurd h (by omega)⟩
  · exact ⟨_, cap, rfl, hn, fun _ => ⟨b, 0, rfl, RdL.of_at At.here (fun j u hj => by
      have hlt := (List.getElem?_eq_some_iff.1 hj).1
      rw [Nat.zero_add, List.getElem?_append_left hlt]; exact hj)⟩⟩

theorem RdS.rda {sz : Nat} {a : Addr} {n cap : Nat} {xs : List Value} (h : RdS W0 C sz (.slice (some a) n cap) n xs) : RdA W0 C a xs := by
  obtain ⟨ao, cap', h1, h2, h3⟩ := h.form
  simp only [Value.slice.injEq, true_and] at h1
  obtain ⟨rfl, rfl⟩ := h1
  rcases Nat.eq_zero_or_pos n with h0 | h0
  · have hx : xs = [] := List.eq_nil_of_length_eq_zero (by rw [h.len, h0]; simp)
    rw [hx]; exact RdA.nil
  · obtain ⟨b, off, h4, h5⟩ := h3 h0
    cases h4
    exact h5.a

theorem RdS.nil (sz : Nat) : RdS W0 C sz (.slice none 0 0) 0 [] := ⟨⟨none, 0, rfl, Nat.le_refl _, fun h => absurd h (by omega)⟩, by simp⟩

/-- Integers in cells. -/
def ints (l : List Int) : List Value := l.map (Value.int .i64)

theorem ints_length (l : List Int) : (ints l).length = l.length := by simp [ints]
theorem ints_get {l : List Int} {k : Nat} (h : k < l.length) : (ints l)[k]? = some (.int .i64 l[k]) := by simp [ints, h]
theorem ints_append (l m : List Int) : ints (l ++ m) = ints l ++ ints m := by simp [ints]
theorem ints_one (x : Int) : ints [x] = [.int .i64 x] := rfl

theorem RdS.ints_len {s : Value} {n : Nat} {l : List Int} (h : RdS W0 C 1 s n (ints l)) : l.length = n := by
  have := h.len
  rw [ints_length] at this
  omega

/-- Element k of integers that are read. -/
theorem RdL.int {b off k : Nat} {l : List Int} (h : RdL W0 C b off (ints l)) (hk : k < l.length) : Rd W0 C ⟨b, off + (k : Int).toNat, none⟩ (.int .i64 l[k]) := h k _ (ints_get hk)

theorem take_succ_eq {α : Type} [DecidableEq α] {l m : List α} {k : Nat} (h1 : k < l.length) (h2 : k < m.length) : l.take (k + 1) = m.take (k + 1) ↔ l.take k = m.take k ∧ l[k] = m[k] := by
  rw [List.take_succ_eq_append_getElem h1, List.take_succ_eq_append_getElem h2]
  constructor
  · intro h
    have := List.append_inj' h rfl
    exact ⟨this.1, by simpa using this.2⟩
  · rintro ⟨h, h'⟩
    rw [h, h']

end
end Eng
