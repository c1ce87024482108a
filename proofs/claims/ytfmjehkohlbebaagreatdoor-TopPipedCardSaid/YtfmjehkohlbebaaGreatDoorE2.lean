/-
  The engine: types as a table, plain operations. No conditions but those that each theorem names.
-/
import Derived.Test.YtfmjehkohlbebaaGreatDoorE1
import Derived.Laws.StructEq
namespace Eng
open Go
inductive TyD where
  | int (k : IntKind) | bool | str | ptr (e : Nat) | slice (e : Nat) | arr (len e : Nat) | struct (fs : List (Nat × Nat)) | map (k e : Nat) | func | other
  deriving DecidableEq
structure TyI where
  d : TyD
  size : Nat
  bytes : Nat
inductive Tab where
  | leaf
  | node (t : Nat) (i : TyI) (l r : Tab)
def Tab.find : Tab → Nat → Option TyI
  | .leaf, _ => none
  | .node t i l r, s => bif Nat.blt s t then l.find s else bif Nat.beq t s then some i else r.find s
def Tab.all (p : Nat → TyI → Bool) : Tab → Bool
  | .leaf => true
  | .node t i l r => p t i && l.all p && r.all p
def descOk : TypeDesc → TyD → Bool
  | .int k, .int k' => decide (k = k')
  | .bool, .bool => true
  | .string, .str => true
  | .pointer e, .ptr e' => Nat.beq e e'
  | .slice e, .slice e' => Nat.beq e e'
  | .array n e, .arr n' e' => Nat.beq n n' && Nat.beq e e'
  | .struct fs, .struct l => decide (fs.toList.map (fun f => (f.offset, f.type)) = l)
  | .map k e, .map k' e' => Nat.beq k k' && Nat.beq e e'
  | .func .., .func => true
  | _, _ => false
def tyOk (P : Program) (t : Nat) (i : TyI) : Bool :=
  match P.info? t, P.underlying t with
  | some p, some d => Nat.beq p.size i.size && Nat.beq p.bytes i.bytes && descOk d i.d
  | _, _ => false
def Tab.keys : Tab → List Nat
  | .leaf => []
  | .node t _ l r => t :: (l.keys ++ r.keys)
def catL {α : Type} (f : α → Option (List Value)) : List α → Option (List Value)
  | [] => some []
  | x :: r => match f x with
    | some l => match catL f r with
      | some m => some (l ++ m)
      | none => none
    | none => none
def zeroC (T : Tab) : Nat → Nat → Option (List Value)
  | 0, _ => none
  | fuel + 1, t => match T.find t with
    | none => none
    | some i => match i.d with
      | .int k => some [.int k 0]
      | .bool => some [.bool false]
      | .str => some [.string ⟨#[]⟩]
      | .ptr _ => some [.pointer none]
      | .slice _ => some [.slice none 0 0]
      | .map .. => some [.map none]
      | .func => some [.nilFunc]
      | .arr n e => catL (fun _ => zeroC T fuel e) (List.replicate n ())
      | .struct fs => catL (fun p => zeroC T fuel p.2) fs
      | .other => none
def askZero (P : Program) (t : Nat) : Option (List Value) := ((P.info? t).bind (·.zero)).map fun z => z.cells.toList
def zeroFuel : Nat := 9
def eqAt (T : Tab) : Nat → Nat → Bool
  | 0, _ => false
  | f + 1, t => match T.find t with
    | some i => match i.d with
      | .int _ | .bool | .str => true
      | .struct l => l.all fun p => eqAt T f p.2
      | _ => false
    | none => false
def structOk (P : Program) (t : Nat) : Bool :=
  !P.stoodInHeld t && match P.underlying t with
    | some (.struct fs) => fs.toList.all fun f => f.name != "_"
    | _ => false
structure TabOk (P : Program) (T : Tab) : Prop where
  types : T.all (tyOk P) = true
  structs : T.all (fun t i => match i.d with | .struct _ => !eqAt T 9 t || structOk P t | _ => true) = true
  guards : T.all (fun t i => match i.d with | .struct _ => !eqAt T 9 t || !P.eqGuardType P.depth t | _ => true) = true
  zeros : T.keys.map (zeroC T zeroFuel) = T.keys.map (fun t => (zeroC T zeroFuel t).bind fun _ => askZero P t)
theorem Tab.find_all {p : Nat → TyI → Bool} : ∀ {T : Tab}, T.all p = true → ∀ {t : Nat} {i : TyI}, T.find t = some i → p t i = true
  | .leaf, _, t, i, h => by simp [Tab.find] at h
  | .node s j l r, ha, t, i, h => by
    simp only [Tab.all, Bool.and_eq_true] at ha
    simp only [Tab.find] at h
    cases h1 : Nat.blt t s with
    | true =>
      simp only [h1, cond_true] at h
      exact Tab.find_all ha.1.2 h
    | false =>
      simp only [h1, cond_false] at h
      cases h2 : Nat.beq s t with
      | true =>
        simp only [h2, cond_true, Option.some.injEq] at h
        have := Nat.eq_of_beq_eq_true h2
        subst this; subst h
        exact ha.1.1
      | false =>
        simp only [h2, cond_false] at h
        exact Tab.find_all ha.2 h
theorem TabOk.info {P : Program} {T : Tab} (h : TabOk P T) {t : Nat} {i : TyI} (ht : T.find t = some i) :
    ∃ p d, P.info? t = some p ∧ P.underlying t = some d ∧ p.size = i.size ∧ p.bytes = i.bytes ∧ descOk d i.d = true := by
  have h1 := Tab.find_all h.types ht
  unfold tyOk at h1
  split at h1
  · rename_i p d hp hd
    simp only [Bool.and_eq_true] at h1
    exact ⟨p, d, hp, hd, Nat.eq_of_beq_eq_true h1.1.1, Nat.eq_of_beq_eq_true h1.1.2, h1.2⟩
  · cases h1
theorem zeroC_key {T : Tab} {fuel t : Nat} {zs : List Value} (h : zeroC T fuel t = some zs) : ∃ i, T.find t = some i := by
  cases fuel with
  | zero => simp [zeroC] at h
  | succ fuel =>
    simp only [zeroC] at h
    cases ht : T.find t with
    | none => simp [ht] at h
    | some i => exact ⟨i, rfl⟩
theorem Tab.find_key : ∀ {T : Tab} {t : Nat} {i : TyI}, T.find t = some i → t ∈ T.keys
  | .leaf, t, i, h => by simp [Tab.find] at h
  | .node s j l r, t, i, h => by
    simp only [Tab.find] at h
    simp only [Tab.keys, List.mem_cons, List.mem_append]
    cases h1 : Nat.blt t s with
    | true =>
      simp only [h1, cond_true] at h
      exact .inr (.inl (Tab.find_key h))
    | false =>
      simp only [h1, cond_false] at h
      cases h2 : Nat.beq s t with
      | true => exact .inl (Nat.eq_of_beq_eq_true h2).symm
      | false =>
        simp only [h2, cond_false] at h
        exact .inr (.inr (Tab.find_key h))
theorem TabOk.zero {P : Program} {T : Tab} (h : TabOk P T) {t : Nat} {zs : List Value} (hz : zeroC T zeroFuel t = some zs) (w : World) : ∃ z, (zeroValue t).run P w = .ok z w ∧ z.cells = zs.toArray := by
  obtain ⟨i, hi⟩ := zeroC_key hz
  have hk := Tab.find_key hi
  have h1 := List.map_inj_left.1 h.zeros t hk
  rw [hz] at h1
  simp only [Option.bind_some] at h1
  unfold askZero at h1
  cases hp : P.info? t with
  | none => simp [hp] at h1
  | some p =>
    cases hpz : p.zero with
    | none => simp [hp, hpz] at h1
    | some z =>
      simp only [hp, Option.bind_some, hpz, Option.map_some, Option.some.injEq] at h1
      exact ⟨z, by simp [zeroValue, typeInfo, hp, hpz], by rw [h1]⟩
section
variable {P : Program} {T : Tab} {t : Nat} {i : TyI}
theorem TabOk.size (h : TabOk P T) (ht : T.find t = some i) (w : World) : (Go.sizeOf t).run P w = .ok i.size w := by
  obtain ⟨p, d, hp, hd, hs, hb, ho⟩ := h.info ht
  simp [Go.sizeOf, typeInfo, hp, hs]
theorem TabOk.under (h : TabOk P T) (ht : T.find t = some i) : ∃ d, P.underlying t = some d ∧ descOk d i.d = true := by
  obtain ⟨p, d, hp, hd, hs, hb, ho⟩ := h.info ht
  exact ⟨d, hd, ho⟩
theorem TabOk.int (h : TabOk P T) {k : IntKind} {s b : Nat} (ht : T.find t = some ⟨.int k, s, b⟩) : P.underlying t = some (.int k) := by
  obtain ⟨d, hd, ho⟩ := h.under ht
  cases d <;> simp [descOk] at ho
  subst ho; exact hd
theorem TabOk.bool (h : TabOk P T) {s b : Nat} (ht : T.find t = some ⟨.bool, s, b⟩) : P.underlying t = some .bool := by
  obtain ⟨d, hd, ho⟩ := h.under ht
  cases d <;> simp [descOk] at ho
  exact hd
theorem TabOk.str (h : TabOk P T) {s b : Nat} (ht : T.find t = some ⟨.str, s, b⟩) : P.underlying t = some .string := by
  obtain ⟨d, hd, ho⟩ := h.under ht
  cases d <;> simp [descOk] at ho
  exact hd
theorem TabOk.ptr (h : TabOk P T) {e s b : Nat} (ht : T.find t = some ⟨.ptr e, s, b⟩) : P.underlying t = some (.pointer e) := by
  obtain ⟨d, hd, ho⟩ := h.under ht
  cases d <;> simp [descOk] at ho
  subst ho; exact hd
theorem TabOk.slice (h : TabOk P T) {e s b : Nat} (ht : T.find t = some ⟨.slice e, s, b⟩) : P.underlying t = some (.slice e) := by
  obtain ⟨d, hd, ho⟩ := h.under ht
  cases d <;> simp [descOk] at ho
  subst ho; exact hd
theorem TabOk.arr (h : TabOk P T) {n e s b : Nat} (ht : T.find t = some ⟨.arr n e, s, b⟩) : P.underlying t = some (.array n e) := by
  obtain ⟨d, hd, ho⟩ := h.under ht
  cases d <;> simp [descOk] at ho
  obtain ⟨rfl, rfl⟩ := ho; exact hd
theorem TabOk.map (h : TabOk P T) {k e s b : Nat} (ht : T.find t = some ⟨.map k e, s, b⟩) : P.underlying t = some (.map k e) := by
  obtain ⟨d, hd, ho⟩ := h.under ht
  cases d <;> simp [descOk] at ho
  obtain ⟨rfl, rfl⟩ := ho; exact hd
theorem TabOk.func (h : TabOk P T) {s b : Nat} (ht : T.find t = some ⟨.func, s, b⟩) : ∃ ps rs v, P.underlying t = some (.func ps rs v) := by
  obtain ⟨d, hd, ho⟩ := h.under ht
  cases d <;> simp [descOk] at ho
  exact ⟨_, _, _, hd⟩
theorem TabOk.struct (h : TabOk P T) {l : List (Nat × Nat)} {s b : Nat} (ht : T.find t = some ⟨.struct l, s, b⟩) : ∃ fs, P.underlying t = some (.struct fs) ∧ fs.toList.map (fun f => (f.offset, f.type)) = l := by
  obtain ⟨d, hd, ho⟩ := h.under ht
  cases d <;> simp [descOk] at ho
  exact ⟨_, hd, ho⟩
def TyD.agg : TyD → Bool
  | .arr .. | .struct _ => true
  | _ => false
theorem TabOk.isAgg (h : TabOk P T) (ht : T.find t = some i) (ho : i.d ≠ .other) (w : World) : (isAgg t).run P w = .ok i.d.agg w := by
  obtain ⟨d, hd, hok⟩ := h.under ht
  obtain ⟨id, s, b⟩ := i
  simp only [isAgg, Sem.run_bind, run_underlying hd, Result.andThen_ok]
  cases d <;> cases id <;> simp [descOk] at hok <;> simp [TyD.agg]
end
section
variable {P : Program} {lk : Lk} {d : Option Nat} {ty : TypeId} {p : String} {af : Array Edge} {g : Option (Nat × Bool)}
theorem pure_move {x : Operand} {v : Value} (h : lk x = some (true, v)) : PureL P lk ⟨d, .move x, ty, p, af, g⟩ v := fun ρ ha w => by
  have := ha x (by simp [Op.operands]) v h
  simp [execOp, this]
theorem pure_assign {x : Operand} {v : Value} (h : lk x = some (true, v)) : PureL P lk ⟨d, .assign x, ty, p, af, g⟩ v := fun ρ ha w => by
  have := ha x (by simp [Op.operands]) v h
  simp [execOp, this]
theorem pure_or {c b : Operand} {x y : Bool} {e : Env} (hc : look e c = some (true, .bool x)) (hb : look e b = some (!x, .bool y)) :
    PureL P (look e) ⟨d, .pick c (.const (.bool true)) b, ty, p, af, g⟩ (.bool (x || y)) := fun ρ ha w => by
  have h1 := ha c (by simp [Op.operands]) _ hc
  have h2 := ha (.const (.bool true)) (by simp [Op.operands]) _ rfl
  cases x with
  | true => simp [execOp, h1, h2, asBool]
  | false =>
    have h3 := ha b (by simp [Op.operands]) _ hb
    simp [execOp, h1, h3, asBool]
theorem pure_and {c b : Operand} {x y : Bool} {e : Env} (hc : look e c = some (true, .bool x)) (hb : look e b = some (x, .bool y)) :
    PureL P (look e) ⟨d, .pick c b (.const (.bool false)), ty, p, af, g⟩ (.bool (x && y)) := fun ρ ha w => by
  have h1 := ha c (by simp [Op.operands]) _ hc
  have h2 := ha (.const (.bool false)) (by simp [Op.operands]) _ rfl
  cases x with
  | false => simp [execOp, h1, h2, asBool]
  | true =>
    have h3 := ha b (by simp [Op.operands]) _ hb
    simp [execOp, h1, h3, asBool]
theorem pure_nilCheck {x : Operand} {a : Addr} (h : lk x = some (true, .pointer (some a))) : PureL P lk ⟨d, .nilCheck x, ty, p, af, g⟩ (.pointer (some a)) := fun ρ ha w => by
  have := ha x (by simp [Op.operands]) _ h
  simp [execOp, this]
theorem pure_nilCheckF {x : Operand} {f : FuncId} {fs cs : Array Value} (h : lk x = some (true, .func (.func f) fs cs)) : PureL P lk ⟨d, .nilCheck x, ty, p, af, g⟩ (.func (.func f) fs cs) := fun ρ ha w => by
  have := ha x (by simp [Op.operands]) _ h
  simp [execOp, this]
theorem pure_extract {x : Operand} {vs : Array Value} {j : Nat} {v : Value} (h : lk x = some (true, .tuple vs)) (hv : vs[j]? = some v) : PureL P lk ⟨d, .extract x j, ty, p, af, g⟩ v := fun ρ ha w => by
  have := ha x (by simp [Op.operands]) _ h
  simp [execOp, this, Instr.extract, hv]
theorem int_beq (x y : Int) : (x == y) = decide (x = y) := by rw [Bool.eq_iff_iff]; simp
theorem int_bne (x y : Int) : (x != y) = !decide (x = y) := by rw [bne, int_beq]
def cmpI : BinOp → Int → Int → Option Bool
  | .eql, x, y => some (decide (x = y))
  | .neq, x, y => some (!decide (x = y))
  | .lss, x, y => some (decide (x < y))
  | .leq, x, y => some (decide (x ≤ y))
  | .gtr, x, y => some (decide (y < x))
  | .geq, x, y => some (decide (y ≤ x))
  | _, _, _ => none
theorem run_eqGuard_int {op : BinOp} {t : TypeId} {x y : Operand} {k k' : IntKind} {a b : Int} {w : World} : (eqGuard op t x y (.int k a) (.int k' b)).run P w = .ok () w := by
  unfold eqGuard
  split <;> simp
theorem exec_binOp {op : BinOp} {xt yt : TypeId} {x y : Operand} {ρ : Operand → Value} {w w' : World} {v : Value} (h1 : (eqGuard op xt x y (ρ x) (ρ y)).run P w = .ok () w)
    (h2 : (binOp op xt (ρ x) (ρ y)).run P w = .ok v w') : (execOp ρ ⟨d, .binOp op xt x y yt, ty, p, af, g⟩).run P w = .ok (.value v) w' := by
  have : execOp ρ ⟨d, .binOp op xt x y yt, ty, p, af, g⟩ = (do pure (.value (← (do eqGuard op xt x y (ρ x) (ρ y); binOp op xt (ρ x) (ρ y))))) := rfl
  rw [this]
  simp only [Sem.run_bind, h1, Result.andThen_ok, h2, Sem.run_pure]
theorem pure_cmp {op : BinOp} {xt yt : TypeId} {x y : Operand} {k : IntKind} {a b : Int} {r : Bool} (hx : lk x = some (true, .int k a)) (hy : lk y = some (true, .int k b)) (hr : cmpI op a b = some r) :
    PureL P lk ⟨d, .binOp op xt x y yt, ty, p, af, g⟩ (.bool r) := fun ρ ha w => by
  have h1 := ha x (by simp [Op.operands]) _ hx
  have h2 := ha y (by simp [Op.operands]) _ hy
  refine exec_binOp (by rw [h1, h2]; exact run_eqGuard_int) ?_
  rw [h1, h2]
  cases op <;> simp only [cmpI, Option.some.injEq, reduceCtorEq] at hr <;> subst hr <;> simp [binOp, Op.intCmp, int_beq, int_bne]
theorem run_eqGuard_other {op : BinOp} {t : TypeId} {x y : Operand} {a b : Value} {w : World} (h1 : ∀ cs, a ≠ .agg cs) (h2 : a ≠ .nilIface) : (eqGuard op t x y a b).run P w = .ok () w := by
  unfold eqGuard
  cases a <;> cases b <;> split <;> simp_all
theorem equal_succ (t : TypeId) (x y : Value) : Op.equal t x y = Op.equalIn (9999 + 1) t x y := rfl
theorem run_equal_bool {t : TypeId} {a b : Bool} {w : World} (h : P.underlying t = some .bool) : (Op.equal t (.bool a) (.bool b)).run P w = .ok (a == b) w := by
  rw [equal_succ, Op.equalIn]
  simp [run_underlying h]
theorem run_equal_ptr_nil {t el : TypeId} {a : Option Addr} {w : World} (h : P.underlying t = some (.pointer el)) : (Op.equal t (.pointer a) (.pointer none)).run P w = .ok a.isNone w := by
  rw [equal_succ, Op.equalIn]
  cases a <;> simp [run_underlying h]
theorem run_equal_nil_ptr {t el : TypeId} {a : Option Addr} {w : World} (h : P.underlying t = some (.pointer el)) : (Op.equal t (.pointer none) (.pointer a)).run P w = .ok a.isNone w := by
  rw [equal_succ, Op.equalIn]
  simp [run_underlying h]
theorem run_equal_slice_nil {t el : TypeId} {a : Option Addr} {n c n' c' : Nat} {w : World} (h : P.underlying t = some (.slice el)) : (Op.equal t (.slice a n c) (.slice none n' c')).run P w = .ok a.isNone w := by
  rw [equal_succ, Op.equalIn]
  cases a <;> simp [run_underlying h]
theorem run_equal_func_nil {t : TypeId} {ps rs : Array TypeId} {v : Bool} {fn : Fn} {x y : Array Value} {w : World} (h : P.underlying t = some (.func ps rs v)) : (Op.equal t (.func fn x y) .nilFunc).run P w = .ok false w := by
  rw [equal_succ, Op.equalIn]
  simp [run_underlying h]
theorem run_equal_nilFunc {t : TypeId} {ps rs : Array TypeId} {v : Bool} {w : World} (h : P.underlying t = some (.func ps rs v)) : (Op.equal t .nilFunc .nilFunc).run P w = .ok true w := by
  rw [equal_succ, Op.equalIn]
  simp [run_underlying h]
def eqlV : Value → Bool
  | .bool _ | .pointer _ | .slice .. | .func .. | .nilFunc | .map _ => true
  | _ => false
theorem binOp_eql {t : TypeId} {a b : Value} (h : eqlV a = true) (hb : eqlV b = true) : binOp .eql t a b = (do pure (.bool (← Op.equal t a b))) := by
  cases a <;> simp [eqlV] at h <;> cases b <;> simp [eqlV] at hb <;> rfl
theorem binOp_neq {t : TypeId} {a b : Value} (h : eqlV a = true) (hb : eqlV b = true) : binOp .neq t a b = (do pure (.bool (!(← Op.equal t a b)))) := by
  cases a <;> simp [eqlV] at h <;> cases b <;> simp [eqlV] at hb <;> rfl
def eqR : BinOp → Bool → Option Bool
  | .eql, r => some r
  | .neq, r => some (!r)
  | _, _ => none
theorem pure_eq {op : BinOp} {xt yt : TypeId} {x y : Operand} {a b : Value} {r r' : Bool} (hx : lk x = some (true, a)) (hy : lk y = some (true, b)) (h : eqlV a = true) (hb : eqlV b = true)
    (hr : ∀ w, (Op.equal xt a b).run P w = .ok r w) (hop : eqR op r = some r') : PureL P lk ⟨d, .binOp op xt x y yt, ty, p, af, g⟩ (.bool r') := fun ρ ha w => by
  have h1 := ha x (by simp [Op.operands]) _ hx
  have h2 := ha y (by simp [Op.operands]) _ hy
  refine exec_binOp (by rw [h1, h2]; exact run_eqGuard_other (by intro cs hcs; subst hcs; simp [eqlV] at h) (by intro hcs; subst hcs; simp [eqlV] at h)) ?_
  rw [h1, h2]
  cases op <;> simp only [eqR, Option.some.injEq, reduceCtorEq] at hop <;> subst hop
  · rw [binOp_eql h hb]; simp only [Sem.run_bind, hr, Result.andThen_ok, Sem.run_pure]
  · rw [binOp_neq h hb]; simp only [Sem.run_bind, hr, Result.andThen_ok, Sem.run_pure]
theorem pure_beq {T : Tab} (hT : TabOk P T) {op : BinOp} {xt yt : TypeId} {x y : Operand} {a b r : Bool} {s bb : Nat} (ht : T.find xt = some ⟨.bool, s, bb⟩) (hx : lk x = some (true, .bool a)) (hy : lk y = some (true, .bool b)) (hr : eqR op (a == b) = some r) :
    PureL P lk ⟨d, .binOp op xt x y yt, ty, p, af, g⟩ (.bool r) := pure_eq hx hy rfl rfl (fun _ => run_equal_bool (hT.bool ht)) hr
def nilq : BinOp → Value → Value → Option Bool
  | .eql, .pointer none, .pointer none => some true
  | .eql, .pointer (some _), .pointer none => some false
  | .eql, .pointer none, .pointer (some _) => some false
  | .neq, .pointer none, .pointer none => some false
  | .neq, .pointer (some _), .pointer none => some true
  | .neq, .pointer none, .pointer (some _) => some true
  | _, _, _ => none
theorem pure_nilq {T : Tab} (hT : TabOk P T) {op : BinOp} {xt yt : TypeId} {x y : Operand} {a b : Value} {r : Bool} {el s bb : Nat} (ht : T.find xt = some ⟨.ptr el, s, bb⟩) (hx : lk x = some (true, a)) (hy : lk y = some (true, b)) (hr : nilq op a b = some r) :
    PureL P lk ⟨d, .binOp op xt x y yt, ty, p, af, g⟩ (.bool r) := by
  unfold nilq at hr
  split at hr <;> simp only [Option.some.injEq, reduceCtorEq] at hr <;> subst hr
  · exact pure_eq hx hy rfl rfl (fun _ => run_equal_ptr_nil (hT.ptr ht)) rfl
  · exact pure_eq hx hy rfl rfl (fun _ => run_equal_ptr_nil (hT.ptr ht)) rfl
  · exact pure_eq hx hy rfl rfl (fun _ => run_equal_nil_ptr (hT.ptr ht)) rfl
  · exact pure_eq hx hy rfl rfl (fun _ => run_equal_ptr_nil (hT.ptr ht)) rfl
  · exact pure_eq hx hy rfl rfl (fun _ => run_equal_ptr_nil (hT.ptr ht)) rfl
  · exact pure_eq hx hy rfl rfl (fun _ => run_equal_nil_ptr (hT.ptr ht)) rfl
def nilqS : BinOp → Value → Value → Option Bool
  | .eql, .slice none _ _, .slice none _ _ => some true
  | .eql, .slice (some _) _ _, .slice none _ _ => some false
  | .neq, .slice none _ _, .slice none _ _ => some false
  | .neq, .slice (some _) _ _, .slice none _ _ => some true
  | _, _, _ => none
theorem pure_nilqS {T : Tab} (hT : TabOk P T) {op : BinOp} {xt yt : TypeId} {x y : Operand} {a b : Value} {r : Bool} {el s bb : Nat} (ht : T.find xt = some ⟨.slice el, s, bb⟩) (hx : lk x = some (true, a)) (hy : lk y = some (true, b)) (hr : nilqS op a b = some r) :
    PureL P lk ⟨d, .binOp op xt x y yt, ty, p, af, g⟩ (.bool r) := by
  unfold nilqS at hr
  split at hr <;> simp only [Option.some.injEq, reduceCtorEq] at hr <;> subst hr <;> exact pure_eq hx hy rfl rfl (fun _ => run_equal_slice_nil (hT.slice ht)) rfl
def nilqF : BinOp → Value → Value → Option Bool
  | .eql, .nilFunc, .nilFunc => some true
  | .eql, .func .., .nilFunc => some false
  | .neq, .nilFunc, .nilFunc => some false
  | .neq, .func .., .nilFunc => some true
  | _, _, _ => none
theorem pure_nilqF {T : Tab} (hT : TabOk P T) {op : BinOp} {xt yt : TypeId} {x y : Operand} {a b : Value} {r : Bool} {s bb : Nat} (ht : T.find xt = some ⟨.func, s, bb⟩) (hx : lk x = some (true, a)) (hy : lk y = some (true, b)) (hr : nilqF op a b = some r) :
    PureL P lk ⟨d, .binOp op xt x y yt, ty, p, af, g⟩ (.bool r) := by
  obtain ⟨ps, rs, v, hu⟩ := hT.func ht
  unfold nilqF at hr
  split at hr <;> simp only [Option.some.injEq, reduceCtorEq] at hr <;> subst hr
  · exact pure_eq hx hy rfl rfl (fun _ => run_equal_nilFunc hu) rfl
  · exact pure_eq hx hy rfl rfl (fun _ => run_equal_func_nil hu) rfl
  · exact pure_eq hx hy rfl rfl (fun _ => run_equal_nilFunc hu) rfl
  · exact pure_eq hx hy rfl rfl (fun _ => run_equal_func_nil hu) rfl
theorem pure_not {xt : TypeId} {x : Operand} {a : Bool} (hx : lk x = some (true, .bool a)) : PureL P lk ⟨d, .unOp .not xt x, ty, p, af, g⟩ (.bool (!a)) := fun ρ ha w => by
  have h1 := ha x (by simp [Op.operands]) _ hx
  simp [execOp, h1, Op.unary]
theorem pure_field {T : Tab} (hT : TabOk P T) {s f : Nat} {x : Operand} {b off : Nat} {l : List (Nat × Nat)} {sz by_ fo ft : Nat} {i : TyI} (ht : T.find s = some ⟨.struct l, sz, by_⟩) (hf : l[f]? = some (fo, ft)) (hi : T.find ft = some i) (hz : Nat.beq i.size 0 = false)
    (hx : lk x = some (true, .pointer (some ⟨b, off, none⟩))) : PureL P lk ⟨d, .fieldAddr s x f, ty, p, af, g⟩ (.pointer (some ⟨b, off + fo, none⟩)) := fun ρ ha w => by
  have h1 := ha x (by simp [Op.operands]) _ hx
  obtain ⟨fs, hfs, hl⟩ := hT.struct ht
  subst hl
  rw [List.getElem?_map] at hf
  cases hfd : fs.toList[f]? with
  | none => simp [hfd] at hf
  | some fd =>
    simp only [hfd, Option.map_some, Option.some.injEq, Prod.mk.injEq] at hf
    obtain ⟨rfl, rfl⟩ := hf
    have hfd' : fs[f]? = some fd := by simpa using hfd
    have hne : i.size ≠ 0 := by
      intro h0
      rw [h0] at hz
      cases hz
    have hadd : (⟨b, off, none⟩ : Addr).add fd.offset = ⟨b, off + fd.offset, none⟩ := by unfold Addr.add; split <;> simp_all
    simp [execOp, h1, Instr.fieldAt, Instr.sureAddr, run_underlying hfs, hfd', fieldPlace, hT.size hi, hne, hadd]
theorem pure_makeFunc {fn : Fn} {l1 l2 : List Operand} {v1 v2 : List Value} (h1 : l1.map lk = v1.map (fun v => some (true, v))) (h2 : l2.map lk = v2.map (fun v => some (true, v))) :
    PureL P lk ⟨d, .makeFunc fn l1.toArray l2.toArray, ty, p, af, g⟩ (.func fn v1.toArray v2.toArray) := fun ρ ha w => by
  have key : ∀ (l : List Operand) (v : List Value), (∀ x ∈ l, x ∈ (l1.toArray ++ l2.toArray)) → l.map lk = v.map (fun v => some (true, v)) → l.map ρ = v := by
    intro l
    induction l with
    | nil => intro v _ h; cases v with | nil => rfl | cons _ _ => simp at h
    | cons x l ih =>
      intro v hm h
      cases v with
      | nil => simp at h
      | cons u v =>
        simp only [List.map_cons, List.cons.injEq] at h
        simp only [List.map_cons, List.cons.injEq]
        exact ⟨ha x (hm x (by simp)) u h.1, ih v (fun y hy => hm y (by simp [hy])) h.2⟩
  have e1 := key l1 v1 (fun x hx => by simp [hx]) h1
  have e2 := key l2 v2 (fun x hx => by simp [hx]) h2
  simp [execOp, Instr.makeFunc, e1, e2]
theorem pure_lenS {T : Tab} (hT : TabOk P T) {x : Operand} {t el s b : Nat} {a : Option Addr} {len cap : Nat} (ht : T.find t = some ⟨.slice el, s, b⟩) (hx : lk x = some (true, .slice a len cap)) :
    PureL P lk ⟨d, .call { callee := .builtin .len, args := #[x], argTypes := #[t] }, ty, p, af, g⟩ (.int .i64 len) := fun ρ ha w => by
  have h1 := ha x (by simp [Op.operands, Call.operands]) _ hx
  simp [execOp, resolve, invoke, builtin, Builtin.len_, h1, run_underlying (hT.slice ht), goInt]
theorem pure_lenStr {T : Tab} (hT : TabOk P T) {x : Operand} {t s b : Nat} {a : ByteArray} (ht : T.find t = some ⟨.str, s, b⟩) (hx : lk x = some (true, .string a)) :
    PureL P lk ⟨d, .call { callee := .builtin .len, args := #[x], argTypes := #[t] }, ty, p, af, g⟩ (.int .i64 a.size) := fun ρ ha w => by
  have h1 := ha x (by simp [Op.operands, Call.operands]) _ hx
  simp [execOp, resolve, invoke, builtin, Builtin.len_, h1, run_underlying (hT.str ht), goInt]
theorem pure_lenArr {T : Tab} (hT : TabOk P T) {x : Operand} {t n el s b : Nat} {v : Value} (ht : T.find t = some ⟨.arr n el, s, b⟩) (hx : lk x = some (true, v)) :
    PureL P lk ⟨d, .call { callee := .builtin .len, args := #[x], argTypes := #[t] }, ty, p, af, g⟩ (.int .i64 n) := fun ρ ha w => by
  have h1 := ha x (by simp [Op.operands, Call.operands]) _ hx
  simp [execOp, resolve, invoke, builtin, Builtin.len_, h1, run_underlying (hT.arr ht), goInt]
theorem pure_max {x y : Operand} {ts : Array TypeId} {k : IntKind} {a b : Int} (hx : lk x = some (true, .int k a)) (hy : lk y = some (true, .int k b)) :
    PureL P lk ⟨d, .call { callee := .builtin .max, args := #[x, y], argTypes := ts }, ty, p, af, g⟩ (.int k (max a b)) := fun ρ ha w => by
  have h1 := ha x (by simp [Op.operands, Call.operands]) _ hx
  have h2 := ha y (by simp [Op.operands, Call.operands]) _ hy
  have e : (if b > a then b else a) = max a b := by split <;> omega
  simp [execOp, resolve, invoke, builtin, Builtin.max_, Builtin.max2, h1, h2, e]
theorem pure_min {x y : Operand} {ts : Array TypeId} {k : IntKind} {a b : Int} (hx : lk x = some (true, .int k a)) (hy : lk y = some (true, .int k b)) :
    PureL P lk ⟨d, .call { callee := .builtin .min, args := #[x, y], argTypes := ts }, ty, p, af, g⟩ (.int k (min a b)) := fun ρ ha w => by
  have h1 := ha x (by simp [Op.operands, Call.operands]) _ hx
  have h2 := ha y (by simp [Op.operands, Call.operands]) _ hy
  have e : (if b < a then b else a) = min a b := by split <;> omega
  simp [execOp, resolve, invoke, builtin, Builtin.min_, Builtin.min2, h1, h2, e]
def fillL (place : Nat → Option (Nat × Nat)) : List Value → List (Nat × Value) → Option (List Value)
  | cells, [] => some cells
  | cells, (i, v) :: r => match place i with
    | none => none
    | some (off, size) => bif Nat.beq v.cells.size size && Nat.ble (off + size) cells.length then fillL place (cells.take off ++ v.cells.toList ++ cells.drop (off + size)) r else none
theorem foldl_set (off : Nat) : ∀ (vs : List Value) (j : Nat) (cs : Array Value), off + j + vs.length ≤ cs.size →
    ((vs.zipIdx j).foldl (fun cs (c, j) => cs.setIfInBounds (off + j) c) cs).toList = cs.toList.take (off + j) ++ vs ++ cs.toList.drop (off + j + vs.length)
  | [], j, cs, h => by simp
  | v :: vs, j, cs, h => by
    simp only [List.length_cons] at h
    rw [List.zipIdx_cons, List.foldl_cons, foldl_set off vs (j + 1) _ (by simp; omega)]
    simp only [Array.toList_setIfInBounds]
    have hlt : off + j < cs.toList.length := by simp; omega
    have e1 : off + (j + 1) = off + j + 1 := by omega
    rw [e1, List.take_succ_eq_append_getElem (by simp; omega), List.take_set_of_le (Nat.le_refl _)]
    simp only [List.getElem_set_self, List.length_cons, List.append_assoc, List.cons_append, List.nil_append]
    congr 2
    congr 1
    have e2 : off + j + (vs.length + 1) = off + j + 1 + vs.length := by omega
    rw [e2, List.drop_set_of_lt (by omega)]
theorem fill_fillL {place : Nat → Option (Nat × Nat)} : ∀ (l : List (Nat × Value)) (cells : List Value) (r : List Value), fillL place cells l = some r → Instr.fill place cells.toArray l = some r.toArray
  | [], cells, r, h => by simp only [fillL, Option.some.injEq] at h; subst h; rfl
  | (i, v) :: l, cells, r, h => by
    simp only [fillL] at h
    unfold Instr.fill
    cases hp : place i with
    | none => simp [hp] at h
    | some os =>
      obtain ⟨off, size⟩ := os
      simp only [hp] at h
      cases hb : Nat.beq v.cells.size size && Nat.ble (off + size) cells.length with
      | false => simp [hb] at h
      | true =>
        simp only [hb, cond_true] at h
        simp only [Bool.and_eq_true] at hb
        have h1 := Nat.eq_of_beq_eq_true hb.1
        have h2 := Nat.le_of_ble_eq_true hb.2
        subst h1
        have hno : ¬ ((decide (v.cells.size ≠ v.cells.size) || decide (off + v.cells.size > cells.toArray.size)) = true) := by simp; omega
        simp only
        rw [if_neg hno]
        have hf := foldl_set off v.cells.toList 0 cells.toArray (by simpa using h2)
        have hz : v.cells.zipIdx.foldl (fun cs (c, j) => cs.setIfInBounds (off + j) c) cells.toArray = (cells.take off ++ v.cells.toList ++ cells.drop (off + v.cells.size)).toArray := by
          apply Array.toList_inj.1
          rw [← Array.foldl_toList, Array.toList_zipIdx]
          simpa using hf
        have := fill_fillL l _ r h
        rw [← hz] at this
        exact this
def placeS (T : Tab) (l : List (Nat × Nat)) (i : Nat) : Option (Nat × Nat) := match l[i]? with
  | some (off, ft) => match T.find ft with
    | some j => some (off, j.size)
    | none => none
  | none => none
theorem run_mapM {α β : Type} {f : α → Sem β} {h : α → β} {w : World} : ∀ (l : List α), (∀ x ∈ l, (f x).run P w = .ok (h x) w) → (l.mapM f).run P w = .ok (l.map h) w
  | [], _ => by simp
  | x :: r, hx => by
    have h1 := hx x (by simp)
    have h2 := run_mapM r (fun y hy => hx y (by simp [hy]))
    rw [List.mapM_cons]
    simp [h1, h2]
theorem pure_buildS {T : Tab} (hT : TabOk P T) {t : TypeId} {l : List (Nat × Nat)} {s b : Nat} {zs : List Value} {parts : List (Nat × Operand)} {vs : List (Nat × Value)} {r : List Value} (ht : T.find t = some ⟨.struct l, s, b⟩) (hz : zeroC T zeroFuel t = some zs)
    (hall : l.all (fun p => (T.find p.2).isSome) = true) (hp : parts.map (fun p => (p.1, lk p.2)) = vs.map (fun p => (p.1, some (true, p.2)))) (hf : fillL (placeS T l) zs vs = some r) :
    PureL P lk ⟨d, .build t parts.toArray, ty, p, af, g⟩ (.agg r.toArray) := fun ρ ha w => by
  obtain ⟨z, hz1, hzs⟩ := hT.zero hz w
  obtain ⟨fs, hfs, hl⟩ := hT.struct ht
  have hparts : parts.map (fun p => (p.1, ρ p.2)) = vs := by
    have key : ∀ (ps : List (Nat × Operand)) (vs : List (Nat × Value)), (∀ q ∈ ps, q ∈ parts) → ps.map (fun p => (p.1, lk p.2)) = vs.map (fun p => (p.1, some (true, p.2))) → ps.map (fun p => (p.1, ρ p.2)) = vs := by
      intro ps
      induction ps with
      | nil => intro vs _ h; cases vs with | nil => rfl | cons _ _ => simp at h
      | cons q ps ih =>
        intro vs hm h
        cases vs with
        | nil => simp at h
        | cons u vs =>
          simp only [List.map_cons, List.cons.injEq, Prod.mk.injEq] at h
          simp only [List.map_cons, List.cons.injEq]
          refine ⟨?_, ih vs (fun y hy => hm y (by simp [hy])) h.2⟩
          rw [h.1.1, ha q.2 (by simp [Op.operands]; exact ⟨q.1, hm q (by simp)⟩) u.2 h.1.2]
    exact key parts vs (fun _ h => h) hp
  have hpl : ∀ i, (fs.toList.map fun f => (f.offset, (T.find f.type).elim 0 (·.size)))[i]? = placeS T l i := by
    intro i
    unfold placeS
    rw [← hl]
    simp only [List.getElem?_map]
    cases hfi : fs.toList[i]? with
    | none => simp
    | some f =>
      simp only [Option.map_some]
      have hmem : (f.offset, f.type) ∈ l := by rw [← hl]; exact List.mem_map.2 ⟨f, List.mem_of_getElem? hfi, rfl⟩
      have := List.all_eq_true.1 hall _ hmem
      cases hft : T.find f.type with
      | none => simp [hft] at this
      | some j => simp
  have hmap := run_mapM (P := P) (w := w) (f := fun (f : Field) => do pure (f.offset, ← Go.sizeOf f.type)) (h := fun f => (f.offset, (T.find f.type).elim 0 (·.size))) fs.toList (fun f hf => by
    have hmem : (f.offset, f.type) ∈ l := by rw [← hl]; exact List.mem_map.2 ⟨f, hf, rfl⟩
    have := List.all_eq_true.1 hall _ hmem
    cases hft : T.find f.type with
    | none => simp [hft] at this
    | some j => simp [hT.size hft])
  have hfill := fill_fillL vs zs r hf
  have hplace : (fun i => (fs.toList.map fun f => (f.offset, (T.find f.type).elim 0 (·.size))).toArray[i]?) = placeS T l := by
    funext i
    simpa using hpl i
  have hx : execOp ρ ⟨d, .build t parts.toArray, ty, p, af, g⟩ = (do pure (.value (← Instr.build t (parts.toArray.map fun (i, x) => (i, ρ x))))) := rfl
  rw [hx]
  have hpa : (parts.toArray.map fun (i, x) => (i, ρ x)) = vs.toArray := by simp [hparts]
  rw [hpa]
  unfold Instr.build
  simp only [Sem.run_bind, hz1, Result.andThen_ok, run_underlying hfs, Array.mapM_eq_mapM_toList, Sem.run_map, hmap, hzs]
  rw [hplace, hfill]
  simp
theorem pure_buildA {T : Tab} (hT : TabOk P T) {t : TypeId} {n el s b : Nat} {ie : TyI} {zs : List Value} {parts : List (Nat × Operand)} {vs : List (Nat × Value)} {r : List Value} (ht : T.find t = some ⟨.arr n el, s, b⟩) (he : T.find el = some ie) (hz : zeroC T zeroFuel t = some zs)
    (hp : parts.map (fun p => (p.1, lk p.2)) = vs.map (fun p => (p.1, some (true, p.2)))) (hf : fillL (fun i => some (i * ie.size, ie.size)) zs vs = some r) :
    PureL P lk ⟨d, .build t parts.toArray, ty, p, af, g⟩ (.agg r.toArray) := fun ρ ha w => by
  obtain ⟨z, hz1, hzs⟩ := hT.zero hz w
  have hparts : parts.map (fun p => (p.1, ρ p.2)) = vs := by
    have key : ∀ (ps : List (Nat × Operand)) (vs : List (Nat × Value)), (∀ q ∈ ps, q ∈ parts) → ps.map (fun p => (p.1, lk p.2)) = vs.map (fun p => (p.1, some (true, p.2))) → ps.map (fun p => (p.1, ρ p.2)) = vs := by
      intro ps
      induction ps with
      | nil => intro vs _ h; cases vs with | nil => rfl | cons _ _ => simp at h
      | cons q ps ih =>
        intro vs hm h
        cases vs with
        | nil => simp at h
        | cons u vs =>
          simp only [List.map_cons, List.cons.injEq, Prod.mk.injEq] at h
          simp only [List.map_cons, List.cons.injEq]
          refine ⟨?_, ih vs (fun y hy => hm y (by simp [hy])) h.2⟩
          rw [h.1.1, ha q.2 (by simp [Op.operands]; exact ⟨q.1, hm q (by simp)⟩) u.2 h.1.2]
    exact key parts vs (fun _ h => h) hp
  have hfill := fill_fillL vs zs r hf
  have hx : execOp ρ ⟨d, .build t parts.toArray, ty, p, af, g⟩ = (do pure (.value (← Instr.build t (parts.toArray.map fun (i, x) => (i, ρ x))))) := rfl
  rw [hx]
  have hpa : (parts.toArray.map fun (i, x) => (i, ρ x)) = vs.toArray := by simp [hparts]
  rw [hpa]
  unfold Instr.build
  simp [hz1, run_underlying (hT.arr ht), hT.size he, hzs, hfill]
theorem run_fieldV {T : Tab} (hT : TabOk P T) {s f : Nat} {l : List (Nat × Nat)} {sz by_ fo ft : Nat} {i : TyI} (ht : T.find s = some ⟨.struct l, sz, by_⟩) (hf : l[f]? = some (fo, ft)) (hi : T.find ft = some i) (ho : i.d ≠ .other) (cs : List Value) (w : World)
    {v : Value} (hv : (i.d.agg = true ∧ v = .agg ((cs.drop fo).take i.size).toArray) ∨ (i.d.agg = false ∧ cs[fo]? = some v)) : (Instr.field s (.agg cs.toArray) f).run P w = .ok v w := by
  obtain ⟨fs, hfs, hl⟩ := hT.struct ht
  subst hl
  rw [List.getElem?_map] at hf
  cases hfd : fs.toList[f]? with
  | none => simp [hfd] at hf
  | some fd =>
    simp only [hfd, Option.map_some, Option.some.injEq, Prod.mk.injEq] at hf
    obtain ⟨rfl, rfl⟩ := hf
    have hfd' : fs[f]? = some fd := by simpa using hfd
    rcases hv with ⟨hag, rfl⟩ | ⟨hag, hv⟩
    · simp [Instr.field, run_underlying hfs, hfd', asAgg, part, hT.isAgg hi ho, hag, hT.size hi, List.extract_eq_take_drop]
    · simp [Instr.field, run_underlying hfs, hfd', asAgg, part, hT.isAgg hi ho, hag, hv]
theorem pure_fieldV {T : Tab} (hT : TabOk P T) {s f : Nat} {x : Operand} {l : List (Nat × Nat)} {sz by_ fo ft : Nat} {i : TyI} (ht : T.find s = some ⟨.struct l, sz, by_⟩) (hf : l[f]? = some (fo, ft)) (hi : T.find ft = some i) (ho : i.d ≠ .other) {cs : List Value}
    {v : Value} (hx : lk x = some (true, .agg cs.toArray)) (hv : (i.d.agg = true ∧ v = .agg ((cs.drop fo).take i.size).toArray) ∨ (i.d.agg = false ∧ cs[fo]? = some v)) : PureL P lk ⟨d, .field s x f, ty, p, af, g⟩ v := fun ρ ha w => by
  have h1 := ha x (by simp [Op.operands]) _ hx
  have hx : execOp ρ ⟨d, .field s x f, ty, p, af, g⟩ = (do pure (.value (← Instr.field s (ρ x) f))) := rfl
  rw [hx, h1]
  simp [run_fieldV hT ht hf hi ho cs w hv]
def slOff (cap l off size : Nat) : Nat := if cap = l then off else off + l * size
theorem run_bound {x : Value} {k : IntKind} {i : Int} {y : Nat} {code : BoundsCode} (hx : x = .int k i) (h : 0 ≤ i ∧ i ≤ (y : Int)) (w : World) : (Instr.sliceBound x y code).run P w = .ok i.toNat w := by
  subst hx
  simp [Instr.sliceBound, asIntOf, h.1, h.2]
theorem addr_map (b off n : Nat) : (⟨b, off, none⟩ : Addr).add n = ⟨b, off + n, none⟩ := by
  unfold Addr.add
  split
  · rename_i h; rw [h]; rfl
  · rfl
theorem pure_sliceH {T : Tab} (hT : TabOk P T) {t : TypeId} {x y : Operand} {el s b : Nat} {i : TyI} {a : Option Addr} {len cap : Nat} {k : IntKind} {j : Int} (ht : T.find t = some ⟨.slice el, s, b⟩) (hi : T.find el = some i) (hx : lk x = some (true, .slice a len cap)) (hy : lk y = some (true, .int k j)) (hj : 0 ≤ j ∧ j ≤ (cap : Int)) :
    PureL P lk ⟨d, .slice t x none (some y) none, ty, p, af, g⟩ (.slice a j.toNat cap) := fun ρ ha w => by
  have h1 := ha x (by simp [Op.operands]) _ hx
  have h2 := ha y (by simp [Op.operands]) _ hy
  have ha0 : a.map (·.add 0) = a := by cases a with | none => rfl | some a => simp [Addr.add]
  have hx : execOp ρ ⟨d, .slice t x none (some y) none, ty, p, af, g⟩ = (do pure (.value (← Instr.sliceAt t (ρ x) none (some (ρ y)) none))) := rfl
  rw [hx, h1, h2]
  simp [Instr.sliceAt, Instr.slice, Instr.sliceBounds, run_underlying (hT.slice ht), run_bound rfl hj, hT.size hi, ha0]
theorem pure_sliceL {T : Tab} (hT : TabOk P T) {t : TypeId} {x y : Operand} {el s b0 : Nat} {i : TyI} {b off len cap : Nat} {k : IntKind} {l : Int} (ht : T.find t = some ⟨.slice el, s, b0⟩) (hi : T.find el = some i) (hx : lk x = some (true, .slice (some ⟨b, off, none⟩) len cap)) (hy : lk y = some (true, .int k l)) (hl : 0 ≤ l ∧ l ≤ (len : Int)) :
    PureL P lk ⟨d, .slice t x (some y) none none, ty, p, af, g⟩ (.slice (some ⟨b, slOff cap l.toNat off i.size, none⟩) (len - l.toNat) (cap - l.toNat)) := fun ρ ha w => by
  have h1 := ha x (by simp [Op.operands]) _ hx
  have h2 := ha y (by simp [Op.operands]) _ hy
  have hx : execOp ρ ⟨d, .slice t x (some y) none none, ty, p, af, g⟩ = (do pure (.value (← Instr.sliceAt t (ρ x) (some (ρ y)) none none))) := rfl
  rw [hx, h1, h2]
  unfold slOff
  simp [Instr.sliceAt, Instr.slice, Instr.sliceBounds, run_underlying (hT.slice ht), run_bound rfl hl, hT.size hi, addr_map]
  split <;> rfl
theorem pure_sliceLH {T : Tab} (hT : TabOk P T) {t : TypeId} {x y z : Operand} {el s b0 : Nat} {i : TyI} {b off len cap : Nat} {k k' : IntKind} {l h : Int} (ht : T.find t = some ⟨.slice el, s, b0⟩) (hi : T.find el = some i) (hx : lk x = some (true, .slice (some ⟨b, off, none⟩) len cap)) (hy : lk y = some (true, .int k l)) (hz : lk z = some (true, .int k' h)) (hl : 0 ≤ l ∧ l ≤ h ∧ h ≤ (cap : Int)) :
    PureL P lk ⟨d, .slice t x (some y) (some z) none, ty, p, af, g⟩ (.slice (some ⟨b, slOff cap l.toNat off i.size, none⟩) (h.toNat - l.toNat) (cap - l.toNat)) := fun ρ ha w => by
  have h1 := ha x (by simp [Op.operands]) _ hx
  have h2 := ha y (by simp [Op.operands]) _ hy
  have h3 := ha z (by simp [Op.operands]) _ hz
  have hx : execOp ρ ⟨d, .slice t x (some y) (some z) none, ty, p, af, g⟩ = (do pure (.value (← Instr.sliceAt t (ρ x) (some (ρ y)) (some (ρ z)) none))) := rfl
  rw [hx, h1, h2, h3]
  have b1 : 0 ≤ h ∧ h ≤ (cap : Int) := by omega
  have b2 : 0 ≤ l ∧ l ≤ (h.toNat : Int) := by omega
  unfold slOff
  simp [Instr.sliceAt, Instr.slice, Instr.sliceBounds, run_underlying (hT.slice ht), run_bound rfl b1, run_bound rfl b2, hT.size hi, addr_map]
  split <;> rfl
theorem pure_sliceA {T : Tab} (hT : TabOk P T) {t : TypeId} {x y : Operand} {n el s b0 : Nat} {i : TyI} {b off : Nat} {k : IntKind} {l : Int} (ht : T.find t = some ⟨.arr n el, s, b0⟩) (hi : T.find el = some i) (hx : lk x = some (true, .pointer (some ⟨b, off, none⟩))) (hy : lk y = some (true, .int k l)) (hl : 0 ≤ l ∧ l ≤ (n : Int)) :
    PureL P lk ⟨d, .slice t x (some y) none none, ty, p, af, g⟩ (.slice (some ⟨b, slOff n l.toNat off i.size, none⟩) (n - l.toNat) (n - l.toNat)) := fun ρ ha w => by
  have h1 := ha x (by simp [Op.operands]) _ hx
  have h2 := ha y (by simp [Op.operands]) _ hy
  have hx : execOp ρ ⟨d, .slice t x (some y) none none, ty, p, af, g⟩ = (do pure (.value (← Instr.sliceAt t (ρ x) (some (ρ y)) none none))) := rfl
  rw [hx, h1, h2]
  unfold slOff
  simp [Instr.sliceAt, Instr.sureAddr, Instr.sliceBounds, run_underlying (hT.arr ht), run_bound rfl hl, hT.size hi, addr_map]
  split <;> rfl
theorem pure_sliceAH {T : Tab} (hT : TabOk P T) {t : TypeId} {x y z : Operand} {n el s b0 : Nat} {i : TyI} {b off : Nat} {k k' : IntKind} {l h : Int} (ht : T.find t = some ⟨.arr n el, s, b0⟩) (hi : T.find el = some i) (hx : lk x = some (true, .pointer (some ⟨b, off, none⟩))) (hy : lk y = some (true, .int k l)) (hz : lk z = some (true, .int k' h)) (hl : 0 ≤ l ∧ l ≤ h ∧ h ≤ (n : Int)) :
    PureL P lk ⟨d, .slice t x (some y) (some z) none, ty, p, af, g⟩ (.slice (some ⟨b, slOff n l.toNat off i.size, none⟩) (h.toNat - l.toNat) (n - l.toNat)) := fun ρ ha w => by
  have h1 := ha x (by simp [Op.operands]) _ hx
  have h2 := ha y (by simp [Op.operands]) _ hy
  have h3 := ha z (by simp [Op.operands]) _ hz
  have hx : execOp ρ ⟨d, .slice t x (some y) (some z) none, ty, p, af, g⟩ = (do pure (.value (← Instr.sliceAt t (ρ x) (some (ρ y)) (some (ρ z)) none))) := rfl
  rw [hx, h1, h2, h3]
  have b1 : 0 ≤ h ∧ h ≤ (n : Int) := by omega
  have b2 : 0 ≤ l ∧ l ≤ (h.toNat : Int) := by omega
  unfold slOff
  simp [Instr.sliceAt, Instr.sureAddr, Instr.sliceBounds, run_underlying (hT.arr ht), run_bound rfl b1, run_bound rfl b2, hT.size hi, addr_map]
  split <;> rfl
def andV (k : IntKind) (a b : Int) : Int := k.wrap (BitVec.ofInt k.bits a &&& BitVec.ofInt k.bits b).toNat
theorem pure_and_bits {xt yt : TypeId} {x y : Operand} {k : IntKind} {a b : Int} (hx : lk x = some (true, .int k a)) (hy : lk y = some (true, .int k b)) :
    PureL P lk ⟨d, .binOp .and xt x y yt, ty, p, af, g⟩ (.int k (andV k a b)) := fun ρ ha w => by
  have h1 := ha x (by simp [Op.operands]) _ hx
  have h2 := ha y (by simp [Op.operands]) _ hy
  refine exec_binOp (by rw [h1, h2]; exact run_eqGuard_int) ?_
  rw [h1, h2]
  simp [binOp, Op.intBits, andV]
theorem pure_shr {xt yt : TypeId} {x y : Operand} {k k' : IntKind} {a b : Int} (hx : lk x = some (true, .int k a)) (hy : lk y = some (true, .int k' b)) (hb : 0 ≤ b) :
    PureL P lk ⟨d, .binOp .shr xt x y yt, ty, p, af, g⟩ (.int k (a.fdiv (2 ^ (min b.toNat k.bits)))) := fun ρ ha w => by
  have h1 := ha x (by simp [Op.operands]) _ hx
  have h2 := ha y (by simp [Op.operands]) _ hy
  refine exec_binOp (by rw [h1, h2]; exact run_eqGuard_int) ?_
  rw [h1, h2]
  have hn : ¬ b < 0 := by omega
  simp [binOp, Op.shift, hn]
end
end Eng
namespace Eng
open Go
def kEq : IntKind → IntKind → Bool
  | .i8, .i8 | .i16, .i16 | .i32, .i32 | .i64, .i64 | .u8, .u8 | .u16, .u16 | .u32, .u32 | .u64, .u64 => true
  | _, _ => false
theorem kEq_eq {a b : IntKind} (h : kEq a b = true) : a = b := by cases a <;> cases b <;> first | rfl | (simp [kEq] at h)
inductive St where
  | val (v : Value) | cond (c : Prop) (v : Value) | stop
def fits : IntKind → Int → Prop
  | .i64, z => -9223372036854775808 ≤ z ∧ z ≤ 9223372036854775807
  | .i32, z => -2147483648 ≤ z ∧ z ≤ 2147483647
  | .i16, z => -32768 ≤ z ∧ z ≤ 32767
  | .i8, z => -128 ≤ z ∧ z ≤ 127
  | .u64, z => 0 ≤ z ∧ z ≤ 18446744073709551615
  | .u32, z => 0 ≤ z ∧ z ≤ 4294967295
  | .u16, z => 0 ≤ z ∧ z ≤ 65535
  | .u8, z => 0 ≤ z ∧ z ≤ 255
theorem fits_wrap : ∀ {k : IntKind} {z : Int}, fits k z → k.wrap z = z
  | .i64, z, h => IntWalk.i64_in z h
  | .i32, z, h => IntWalk.i32_in z h
  | .i16, z, h => IntWalk.i16_in z h
  | .i8, z, h => IntWalk.i8_in z h
  | .u64, z, h => IntWalk.u64_in z h
  | .u32, z, h => IntWalk.u32_in z h
  | .u16, z, h => IntWalk.u16_in z h
  | .u8, z, h => IntWalk.u8_in z h
def arithS (k : IntKind) (z : Int) : St :=
  match k with
  | .i64 => .cond (-9223372036854775808 ≤ z ∧ z ≤ 9223372036854775807) (.int .i64 z)
  | .i32 => .cond (-2147483648 ≤ z ∧ z ≤ 2147483647) (.int .i32 z)
  | .u64 => .cond (0 ≤ z ∧ z ≤ 18446744073709551615) (.int .u64 z)
  | .u32 => .cond (0 ≤ z ∧ z ≤ 4294967295) (.int .u32 z)
  | .u8 => .cond (0 ≤ z ∧ z ≤ 255) (.int .u8 z)
  | _ => .stop
def binS (op : BinOp) (k : IntKind) (a b : Int) : St :=
  match op with
  | .add => arithS k (a + b)
  | .sub => arithS k (a - b)
  | .mul => arithS k (a * b)
  | .quo => match k with
    | .i64 => .cond (0 ≤ a ∧ a ≤ 9223372036854775807 ∧ 1 ≤ b) (.int .i64 (a / b))
    | _ => .stop
  | .rem => .cond (0 ≤ a ∧ 1 ≤ b) (.int k (a % b))
  | .and => .val (.int k (andV k a b))
  | op => match cmpI op a b with
    | some r => .val (.bool r)
    | none => .stop
def lookL (lk : Lk) : List Operand → (List Value → St) → St
  | [], k => k []
  | x :: r, k => match lk x with
    | some (true, v) => lookL lk r fun vs => k (v :: vs)
    | _ => .stop
def lookP (lk : Lk) : List (Nat × Operand) → (List (Nat × Value) → St) → St
  | [], k => k []
  | (i, x) :: r, k => match lk x with
    | some (true, v) => lookP lk r fun vs => k ((i, v) :: vs)
    | _ => .stop
def forceL : List Value → (List Value → St) → St
  | [], k => k []
  | x :: r, k => forceL r fun r' => k (x :: r')
def TyD.known : TyD → Bool
  | .other => false
  | _ => true
def fvL (i : TyI) (off : Nat) (xs : List Value) : Option Value :=
  bif i.d.agg then some (.agg ((xs.drop off).take i.size).toArray) else xs[off]?
def eqFs (eq : Nat → Value → Value → (Bool → St) → St) (T : Tab) (xs ys : List Value) : List (Nat × Nat) → (Bool → St) → St
  | [], k => k true
  | (off, ft) :: r, k => match T.find ft with
    | some i => bif i.d.known then match fvL i off xs, fvL i off ys with
        | some a, some b => eq ft a b fun c => match r with
          | [] => k c
          | _ :: _ => eqFs eq T xs ys r fun c' => k (c && c')
        | _, _ => .stop
      else .stop
    | none => .stop
def eqK (T : Tab) : Nat → Nat → Value → Value → (Bool → St) → St
  | 0, _, _, _, _ => .stop
  | f + 1, t, a, b, k => match T.find t with
    | some ⟨.int _, _, _⟩ => match a, b with
      | .int j x, .int j' y => bif kEq j j' then k (decide (x = y)) else .stop
      | _, _ => .stop
    | some ⟨.bool, _, _⟩ => match a, b with
      | .bool x, .bool y => k (x == y)
      | _, _ => .stop
    | some ⟨.str, _, _⟩ => match a, b with
      | .string x, .string y => k (decide (x = y))
      | _, _ => .stop
    | some ⟨.struct l, _, _⟩ => match a, b with
      | .agg ⟨xs⟩, .agg ⟨ys⟩ => bif eqAt T 9 t then eqFs (eqK T f) T xs ys l k else .stop
      | _, _ => .stop
    | _ => .stop
def step (T : Tab) (o : Oper) (lk : Lk) : St :=
  match o.guard with
  | some _ => .stop
  | none => match o.op with
    | .move x | .assign x => match lk x with
      | some (true, v) => .val v
      | _ => .stop
    | .nilCheck x => match lk x with
      | some (true, .pointer (some a)) => .val (.pointer (some a))
      | some (true, .func (.func f) fs cs) => .val (.func (.func f) fs cs)
      | _ => .stop
    | .extract x j => match lk x with
      | some (true, .tuple ⟨vs⟩) => match vs[j]? with
        | some v => .val v
        | none => .stop
      | _ => .stop
    | .unOp .not _ x => match lk x with
      | some (true, .bool b) => .val (.bool (!b))
      | _ => .stop
    | .binOp op xt x y _ => match lk x with
      | some (true, .int k a) => match lk y with
        | some (true, .int k' b) => match op with
          | .shr => .cond (0 ≤ b) (.int k (a.fdiv (2 ^ (min b.toNat k.bits))))
          | op => bif kEq k k' then binS op k a b else .stop
        | _ => .stop
      | some (true, .bool a) => match lk y with
        | some (true, .bool b) => match T.find xt with
          | some ⟨.bool, _, _⟩ => match eqR op (a == b) with
            | some r => .val (.bool r)
            | none => .stop
          | _ => .stop
        | _ => .stop
      | some (true, .string a) => match lk y with
        | some (true, .string b) => match op with
          | .eql => .val (.bool (decide (a = b)))
          | .neq => .val (.bool (!decide (a = b)))
          | _ => .stop
        | _ => .stop
      | some (true, .agg xs) => match lk y with
        | some (true, .agg ys) => match T.find xt with
          | some ⟨.struct _, _, _⟩ => bif eqAt T 9 xt then eqK T 9 xt (.agg xs) (.agg ys) fun c => match op with
              | .eql => .val (.bool c)
              | .neq => .val (.bool (!c))
              | _ => .stop
            else .stop
          | _ => .stop
        | _ => .stop
      | some (true, .pointer a) => match lk y with
        | some (true, .pointer b) => match T.find xt with
          | some ⟨.ptr _, _, _⟩ => match nilq op (.pointer a) (.pointer b) with
            | some r => .val (.bool r)
            | none => .stop
          | _ => .stop
        | _ => .stop
      | some (true, .slice a n c) => match lk y with
        | some (true, .slice b n' c') => match T.find xt with
          | some ⟨.slice _, _, _⟩ => match nilqS op (.slice a n c) (.slice b n' c') with
            | some r => .val (.bool r)
            | none => .stop
          | _ => .stop
        | _ => .stop
      | some (true, .func f fs cs) => match lk y with
        | some (true, v) => match T.find xt with
          | some ⟨.func, _, _⟩ => match nilqF op (.func f fs cs) v with
            | some r => .val (.bool r)
            | none => .stop
          | _ => .stop
        | _ => .stop
      | some (true, .nilFunc) => match lk y with
        | some (true, v) => match T.find xt with
          | some ⟨.func, _, _⟩ => match nilqF op .nilFunc v with
            | some r => .val (.bool r)
            | none => .stop
          | _ => .stop
        | _ => .stop
      | _ => .stop
    | .convert src dst x => match lk x with
      | some (true, .int k a) => match T.find dst with
        | some ⟨.int k', _, _⟩ => match T.find src with
          | some _ => bif kEq k k' then arithS k' a else .val (.int k' (k'.wrap a))
          | none => .stop
        | _ => .stop
      | _ => .stop
    | .fieldAddr s x f => match lk x with
      | some (true, .pointer (some ⟨b, off, none⟩)) => match T.find s with
        | some ⟨.struct l, _, _⟩ => match l[f]? with
          | some (fo, ft) => match T.find ft with
            | some i => bif Nat.beq i.size 0 then .stop else .val (.pointer (some ⟨b, off + fo, none⟩))
            | none => .stop
          | none => .stop
        | _ => .stop
      | _ => .stop
    | .indexAddr t x i => match lk i with
      | some (true, .int _ j) => match lk x with
        | some (true, .slice (some ⟨b, off, none⟩) len _) => match T.find t with
          | some ⟨.slice el, _, _⟩ => match T.find el with
            | some ⟨_, s, _⟩ => match s with
              | 1 => .cond (0 ≤ j ∧ j < (len : Int)) (.pointer (some ⟨b, off + j.toNat, none⟩))
              | s => .cond (0 ≤ j ∧ j < (len : Int)) (.pointer (some ⟨b, off + j.toNat * s, none⟩))
            | none => .stop
          | _ => .stop
        | some (true, .pointer (some ⟨b, off, none⟩)) => match T.find t with
          | some ⟨.arr n el, _, _⟩ => match T.find el with
            | some ⟨_, s, _⟩ => match s with
              | 1 => .cond (0 ≤ j ∧ j < (n : Int)) (.pointer (some ⟨b, off + j.toNat, none⟩))
              | s => .cond (0 ≤ j ∧ j < (n : Int)) (.pointer (some ⟨b, off + j.toNat * s, none⟩))
            | none => .stop
          | _ => .stop
        | _ => .stop
      | _ => .stop
    | .build t parts => match T.find t with
      | some ⟨.struct l, _, _⟩ => match zeroC T zeroFuel t with
        | some zs => bif l.all (fun p => (T.find p.2).isSome) then
            lookP lk parts.toList fun vs => match fillL (placeS T l) zs vs with
              | some r => forceL r fun r' => .val (.agg r'.toArray)
              | none => .stop
          else .stop
        | none => .stop
      | some ⟨.arr _ el, _, _⟩ => match T.find el with
        | some ie => match zeroC T zeroFuel t with
          | some zs => lookP lk parts.toList fun vs => match fillL (fun i => some (i * ie.size, ie.size)) zs vs with
            | some r => forceL r fun r' => .val (.agg r'.toArray)
            | none => .stop
          | none => .stop
        | none => .stop
      | _ => .stop
    | .field s x f => match lk x with
      | some (true, .agg ⟨cs⟩) => match T.find s with
        | some ⟨.struct l, _, _⟩ => match l[f]? with
          | some (fo, ft) => match T.find ft with
            | some i => bif i.d.known then
                (bif i.d.agg then forceL ((cs.drop fo).take i.size) fun r' => .val (.agg r'.toArray)
                 else match cs[fo]? with
                  | some v => .val v
                  | none => .stop)
              else .stop
            | none => .stop
          | none => .stop
        | _ => .stop
      | _ => .stop
    | .slice t x none (some y) none => match lk x with
      | some (true, .slice a _ cap) => match lk y with
        | some (true, .int _ j) => match T.find t with
          | some ⟨.slice el, _, _⟩ => match T.find el with
            | some _ => .cond (0 ≤ j ∧ j ≤ (cap : Int)) (.slice a j.toNat cap)
            | none => .stop
          | _ => .stop
        | _ => .stop
      | _ => .stop
    | .slice t x (some y) none none => match lk y with
      | some (true, .int _ l) => match lk x with
        | some (true, .slice (some ⟨b, off, none⟩) len cap) => match T.find t with
          | some ⟨.slice el, _, _⟩ => match T.find el with
            | some ⟨_, s, _⟩ => .cond (0 ≤ l ∧ l ≤ (len : Int)) (.slice (some ⟨b, slOff cap l.toNat off s, none⟩) (len - l.toNat) (cap - l.toNat))
            | none => .stop
          | _ => .stop
        | some (true, .pointer (some ⟨b, off, none⟩)) => match T.find t with
          | some ⟨.arr n el, _, _⟩ => match T.find el with
            | some ⟨_, s, _⟩ => .cond (0 ≤ l ∧ l ≤ (n : Int)) (.slice (some ⟨b, slOff n l.toNat off s, none⟩) (n - l.toNat) (n - l.toNat))
            | none => .stop
          | _ => .stop
        | _ => .stop
      | _ => .stop
    | .slice t x (some y) (some z) none => match lk y with
      | some (true, .int _ l) => match lk z with
        | some (true, .int _ h) => match lk x with
          | some (true, .slice (some ⟨b, off, none⟩) _ cap) => match T.find t with
            | some ⟨.slice el, _, _⟩ => match T.find el with
              | some ⟨_, s, _⟩ => .cond (0 ≤ l ∧ l ≤ h ∧ h ≤ (cap : Int)) (.slice (some ⟨b, slOff cap l.toNat off s, none⟩) (h.toNat - l.toNat) (cap - l.toNat))
              | none => .stop
            | _ => .stop
          | some (true, .pointer (some ⟨b, off, none⟩)) => match T.find t with
            | some ⟨.arr n el, _, _⟩ => match T.find el with
              | some ⟨_, s, _⟩ => .cond (0 ≤ l ∧ l ≤ h ∧ h ≤ (n : Int)) (.slice (some ⟨b, slOff n l.toNat off s, none⟩) (h.toNat - l.toNat) (n - l.toNat))
              | none => .stop
            | _ => .stop
          | _ => .stop
        | _ => .stop
      | _ => .stop
    | .makeFunc fn l1 l2 => lookL lk l1.toList fun v1 => lookL lk l2.toList fun v2 => .val (.func fn v1.toArray v2.toArray)
    | .call { callee := .builtin b, args := l, argTypes := ts } => match b with
      | .len => match l.toList, ts.toList with
        | [x], [t] => match lk x with
          | some (true, .slice _ n _) => match T.find t with
            | some ⟨.slice _, _, _⟩ => .val (.int .i64 (n : Int))
            | _ => .stop
          | some (true, .string s) => match T.find t with
            | some ⟨.str, _, _⟩ => .val (.int .i64 (s.size : Int))
            | _ => .stop
          | some (true, _) => match T.find t with
            | some ⟨.arr n _, _, _⟩ => .val (.int .i64 (n : Int))
            | _ => .stop
          | _ => .stop
        | _, _ => .stop
      | .max => match l.toList with
        | [x, y] => match lk x with
          | some (true, .int k a) => match lk y with
            | some (true, .int k' b) => bif kEq k k' then .val (.int k (max a b)) else .stop
            | _ => .stop
          | _ => .stop
        | _ => .stop
      | .min => match l.toList with
        | [x, y] => match lk x with
          | some (true, .int k a) => match lk y with
            | some (true, .int k' b) => bif kEq k k' then .val (.int k (min a b)) else .stop
            | _ => .stop
          | _ => .stop
        | _ => .stop
      | _ => .stop
    | _ => .stop
def St.Ok (P : Program) (lk : Lk) (o : Oper) : St → Prop
  | .val v => PureL P lk o v
  | .cond c v => c → PureL P lk o v
  | .stop => True
section
variable {P : Program} {lk : Lk} {d : Option Nat} {ty : TypeId} {p : String} {af : Array Edge} {g : Option (Nat × Bool)}
theorem pure_wrap {op : BinOp} {xt yt : TypeId} {x y : Operand} {k : IntKind} {a b z : Int} (hx : lk x = some (true, .int k a)) (hy : lk y = some (true, .int k b))
    (hz : (op = .add ∧ z = a + b) ∨ (op = .sub ∧ z = a - b) ∨ (op = .mul ∧ z = a * b)) : PureL P lk ⟨d, .binOp op xt x y yt, ty, p, af, g⟩ (.int k (k.wrap z)) := fun ρ ha w => by
  have h1 := ha x (by simp [Op.operands]) _ hx
  have h2 := ha y (by simp [Op.operands]) _ hy
  refine exec_binOp (by rw [h1, h2]; exact run_eqGuard_int) ?_
  rw [h1, h2]
  rcases hz with ⟨rfl, rfl⟩ | ⟨rfl, rfl⟩ | ⟨rfl, rfl⟩ <;> simp [binOp, Op.intArith]
theorem arithS_ok {o : Oper} {k : IntKind} {z : Int} (h : fits k z → PureL P lk o (.int k z)) : (arithS k z).Ok P lk o := by
  cases k <;> simp only [arithS, St.Ok] <;> exact h
theorem pure_quo {xt yt : TypeId} {x y : Operand} {a b : Int} (hx : lk x = some (true, .int .i64 a)) (hy : lk y = some (true, .int .i64 b)) (h : 0 ≤ a ∧ a ≤ 9223372036854775807 ∧ 1 ≤ b) :
    PureL P lk ⟨d, .binOp .quo xt x y yt, ty, p, af, g⟩ (.int .i64 (a / b)) := fun ρ ha w => by
  have h1 := ha x (by simp [Op.operands]) _ hx
  have h2 := ha y (by simp [Op.operands]) _ hy
  refine exec_binOp (by rw [h1, h2]; exact run_eqGuard_int) ?_
  rw [h1, h2]
  have hb : b ≠ 0 := by omega
  simp [binOp, Op.intDiv, hb, IntWalk.i64_quo a b h]
theorem pure_rem {xt yt : TypeId} {x y : Operand} {k : IntKind} {a b : Int} (hx : lk x = some (true, .int k a)) (hy : lk y = some (true, .int k b)) (h : 0 ≤ a ∧ 1 ≤ b) :
    PureL P lk ⟨d, .binOp .rem xt x y yt, ty, p, af, g⟩ (.int k (a % b)) := fun ρ ha w => by
  have h1 := ha x (by simp [Op.operands]) _ hx
  have h2 := ha y (by simp [Op.operands]) _ hy
  refine exec_binOp (by rw [h1, h2]; exact run_eqGuard_int) ?_
  rw [h1, h2]
  have hb : b ≠ 0 := by omega
  simp [binOp, Op.intDiv, hb, IntWalk.rem_in a b h.1]
theorem pure_conv {T : Tab} (hT : TabOk P T) {src dst : TypeId} {x : Operand} {k k' : IntKind} {a : Int} {s b : Nat} (ht : T.find dst = some ⟨.int k', s, b⟩) (hs : ∃ d, P.underlying src = some d) (hx : lk x = some (true, .int k a)) :
    PureL P lk ⟨d, .convert src dst x, ty, p, af, g⟩ (.int k' (k'.wrap a)) := fun ρ ha w => by
  have h1 := ha x (by simp [Op.operands]) _ hx
  obtain ⟨ds, hs⟩ := hs
  have : execOp ρ ⟨d, .convert src dst x, ty, p, af, g⟩ = (do pure (.value (← convert src dst (ρ x)))) := rfl
  rw [this, h1]
  simp [convert, run_underlying hs, run_underlying (hT.int ht), Conv.intToInt]
theorem pure_indexS {T : Tab} (hT : TabOk P T) {t : TypeId} {x i : Operand} {el s b0 : Nat} {ie : TyI} {b off len cap : Nat} {k : IntKind} {j : Int} (ht : T.find t = some ⟨.slice el, s, b0⟩) (he : T.find el = some ie)
    (hx : lk x = some (true, .slice (some ⟨b, off, none⟩) len cap)) (hi : lk i = some (true, .int k j)) (h : 0 ≤ j ∧ j < (len : Int)) :
    PureL P lk ⟨d, .indexAddr t x i, ty, p, af, g⟩ (.pointer (some ⟨b, off + j.toNat * ie.size, none⟩)) := fun ρ ha w => by
  have h1 := ha x (by simp [Op.operands]) _ hx
  have h2 := ha i (by simp [Op.operands]) _ hi
  have hadd : (⟨b, off, none⟩ : Addr).add (j.toNat * ie.size) = ⟨b, off + j.toNat * ie.size, none⟩ := by
    unfold Addr.add
    split
    · rename_i h0; rw [h0]; rfl
    · rfl
  simp [execOp, Instr.indexAt, h1, h2, asIntOf, run_underlying (hT.slice ht), h.1, h.2, hT.size he, hadd]
theorem pure_indexA {T : Tab} (hT : TabOk P T) {t : TypeId} {x i : Operand} {n el s b0 : Nat} {ie : TyI} {b off : Nat} {k : IntKind} {j : Int} (ht : T.find t = some ⟨.arr n el, s, b0⟩) (he : T.find el = some ie)
    (hx : lk x = some (true, .pointer (some ⟨b, off, none⟩))) (hi : lk i = some (true, .int k j)) (h : 0 ≤ j ∧ j < (n : Int)) :
    PureL P lk ⟨d, .indexAddr t x i, ty, p, af, g⟩ (.pointer (some ⟨b, off + j.toNat * ie.size, none⟩)) := fun ρ ha w => by
  have h1 := ha x (by simp [Op.operands]) _ hx
  have h2 := ha i (by simp [Op.operands]) _ hi
  have hadd : (⟨b, off, none⟩ : Addr).add (j.toNat * ie.size) = ⟨b, off + j.toNat * ie.size, none⟩ := by
    unfold Addr.add
    split
    · rename_i h0; rw [h0]; rfl
    · rfl
  simp [execOp, Instr.indexAt, h1, h2, asIntOf, Instr.sureAddr, run_underlying (hT.arr ht), h.1, h.2, hT.size he, hadd]
theorem binS_ok {op : BinOp} {xt yt : TypeId} {x y : Operand} {k : IntKind} {a b : Int} (hx : lk x = some (true, .int k a)) (hy : lk y = some (true, .int k b)) :
    (binS op k a b).Ok P lk ⟨d, .binOp op xt x y yt, ty, p, af, g⟩ := by
  have cmp : ∀ op', op = op' → (match cmpI op' a b with | some r => St.val (.bool r) | none => .stop).Ok P lk ⟨d, .binOp op xt x y yt, ty, p, af, g⟩ := by
    rintro op' rfl
    cases h : cmpI op a b with
    | none => trivial
    | some r => exact pure_cmp hx hy h
  cases op <;> simp only [binS]
  case add => exact arithS_ok fun h => by have := pure_wrap (P := P) (d := d) (xt := xt) (yt := yt) (ty := ty) (p := p) (af := af) (g := g) (op := .add) hx hy (.inl ⟨rfl, rfl⟩); rwa [fits_wrap h] at this
  case sub => exact arithS_ok fun h => by have := pure_wrap (P := P) (d := d) (xt := xt) (yt := yt) (ty := ty) (p := p) (af := af) (g := g) (op := .sub) hx hy (.inr (.inl ⟨rfl, rfl⟩)); rwa [fits_wrap h] at this
  case mul => exact arithS_ok fun h => by have := pure_wrap (P := P) (d := d) (xt := xt) (yt := yt) (ty := ty) (p := p) (af := af) (g := g) (op := .mul) hx hy (.inr (.inr ⟨rfl, rfl⟩)); rwa [fits_wrap h] at this
  case quo =>
    cases k <;> simp only [St.Ok]
    exact fun h => pure_quo hx hy h
  case rem => exact fun h => pure_rem hx hy h
  case and => exact pure_and_bits hx hy
  all_goals exact cmp _ rfl
theorem lookL_ok {o : Oper} : ∀ (l : List Operand) (k : List Value → St), (∀ vs, l.map lk = vs.map (fun v => some (true, v)) → (k vs).Ok P lk o) → (lookL lk l k).Ok P lk o
  | [], k, h => h [] rfl
  | x :: r, k, h => by
    simp only [lookL]
    split
    · rename_i v hv
      exact lookL_ok r _ fun vs hvs => h (v :: vs) (by simp [hv, hvs])
    · trivial
theorem lookP_ok {o : Oper} : ∀ (l : List (Nat × Operand)) (k : List (Nat × Value) → St), (∀ vs, l.map (fun p => (p.1, lk p.2)) = vs.map (fun p => (p.1, some (true, p.2))) → (k vs).Ok P lk o) → (lookP lk l k).Ok P lk o
  | [], k, h => h [] rfl
  | (i, x) :: r, k, h => by
    simp only [lookP]
    split
    · rename_i v hv
      exact lookP_ok r _ fun vs hvs => h ((i, v) :: vs) (by simp [hv, hvs])
    · trivial
theorem forceL_eq : ∀ (l : List Value) (k : List Value → St), forceL l k = k l
  | [], _ => rfl
  | x :: r, k => by rw [forceL, forceL_eq r]
theorem part_fvL {T : Tab} (hT : TabOk P T) {ft off : Nat} {i : TyI} (hi : T.find ft = some i) (hk : i.d.known = true) {xs : List Value} {v : Value} (h : fvL i off xs = some v) (w : World) : (part ft xs.toArray off).run P w = .ok v w := by
  have ho : i.d ≠ .other := by intro h; rw [h] at hk; cases hk
  unfold fvL at h
  cases hag : i.d.agg with
  | true =>
    rw [hag] at h
    simp only [cond_true, Option.some.injEq] at h
    subst h
    simp [part, hT.isAgg hi ho, hag, hT.size hi, List.extract_eq_take_drop]
  | false =>
    rw [hag] at h
    simp only [cond_false] at h
    simp [part, hT.isAgg hi ho, hag, h]
theorem bytes_beq (a b : ByteArray) : (a == b) = decide (a = b) := by
  obtain ⟨⟨x⟩⟩ := a
  obtain ⟨⟨y⟩⟩ := b
  have h : ((⟨⟨x⟩⟩ : ByteArray) == ⟨⟨y⟩⟩) = ((⟨x⟩ : Array UInt8) == ⟨y⟩) := rfl
  rw [h, Bool.eq_iff_iff]
  simp
theorem eqFs_ok {T : Tab} (hT : TabOk P T) {o : Oper} {f : Nat} {eq : Nat → Value → Value → (Bool → St) → St} {xs ys : List Value}
    (heq : ∀ t a b k, (∀ c, (∀ d, f ≤ d → ∀ w, (Op.equalIn d t a b).run P w = .ok c w) → (k c).Ok P lk o) → (eq t a b k).Ok P lk o) :
    ∀ (fs : List Field) (k : Bool → St), (∀ g ∈ fs, g.name ≠ "_") → (∀ c, (∀ d, f ≤ d → ∀ w, (Op.eqFields d xs.toArray ys.toArray fs).run P w = .ok c w) → (k c).Ok P lk o) →
      (eqFs eq T xs ys (fs.map fun g => (g.offset, g.type)) k).Ok P lk o
  | [], k, _, h => h true (fun d _ w => by simp [Op.eqFields])
  | g :: fs, k, hn, h => by
    simp only [List.map_cons, eqFs]
    split
    · rename_i i hi
      cases hk : i.d.known with
      | false => trivial
      | true =>
        simp only [cond_true]
        split
        · rename_i a b ha hb
          have hg := hn g (by simp)
          refine heq _ _ _ _ fun c hc => ?_
          have one : ∀ d, f ≤ d → ∀ w, (Op.eqFields d xs.toArray ys.toArray (g :: fs)).run P w = (if c = true then (Op.eqFields d xs.toArray ys.toArray fs).run P w else .ok false w) := by
            intro d hd w
            simp only [Op.eqFields, hg, ne_eq, not_false_eq_true, if_true, Sem.run_bind, part_fvL hT hi hk ha, part_fvL hT hi hk hb, hc d hd, Result.andThen_ok]
            cases c <;> simp
          split
          · rename_i hfs
            have : fs = [] := by simpa using hfs
            subst this
            refine h c fun d hd w => ?_
            rw [one d hd w]
            cases c <;> simp [Op.eqFields]
          · rename_i p r hfs
            refine eqFs_ok hT heq fs _ (fun g' hg' => hn g' (by simp [hg'])) fun c' hc' => ?_
            refine h _ fun d hd w => ?_
            rw [one d hd w, hc' d hd w]
            cases c <;> simp
        · trivial
    · trivial
theorem eqK_ok {T : Tab} (hT : TabOk P T) {o : Oper} : ∀ (f t : Nat) (a b : Value) (k : Bool → St), (∀ c, (∀ d, f ≤ d → ∀ w, (Op.equalIn d t a b).run P w = .ok c w) → (k c).Ok P lk o) → (eqK T f t a b k).Ok P lk o
  | 0, t, a, b, k, h => trivial
  | f + 1, t, a, b, k, h => by
    simp only [eqK]
    split
    · rename_i j s bb ht
      split
      · rename_i j1 x j2 y
        cases hk : kEq j1 j2 with
        | false => trivial
        | true =>
          have := kEq_eq hk
          subst this
          refine h _ fun d hd w => ?_
          obtain ⟨d, rfl⟩ : ∃ d', d = d' + 1 := ⟨d - 1, by omega⟩
          rw [run_equalIn_int w d t j1 _ x y (hT.int ht), int_beq]
      · trivial
    · rename_i s bb ht
      split
      · rename_i x y
        refine h _ fun d hd w => ?_
        obtain ⟨d, rfl⟩ : ∃ d', d = d' + 1 := ⟨d - 1, by omega⟩
        exact run_equalIn_bool' w d t x y (hT.bool ht)
      · trivial
    · rename_i s bb ht
      split
      · rename_i x y
        refine h _ fun d hd w => ?_
        obtain ⟨d, rfl⟩ : ∃ d', d = d' + 1 := ⟨d - 1, by omega⟩
        rw [run_equalIn_string w d t x y (hT.str ht), ← beq_toListBytes]
        rw [bytes_beq]
      · trivial
    · rename_i l s bb ht
      split
      · rename_i xs ys
        obtain ⟨fs, hfs, hl⟩ := hT.struct ht
        cases he : eqAt T 9 t with
        | false => trivial
        | true =>
        simp only [cond_true]
        have h1 := Tab.find_all hT.structs ht
        simp only [he, Bool.not_true, Bool.false_or, structOk, hfs, Bool.and_eq_true, Bool.not_eq_true'] at h1
        have hfo : P.fieldsOf t = fs := by simp [Program.fieldsOf, hfs]
        subst hl
        refine eqFs_ok hT (fun t a b k h => eqK_ok hT f t a b k h) fs.toList k (fun g hg => by simpa using List.all_eq_true.1 h1.2 g hg) fun c hc => ?_
        refine h c fun d hd w => ?_
        obtain ⟨d, rfl⟩ : ∃ d', d = d' + 1 := ⟨d - 1, by omega⟩
        have h2 := run_equalIn_struct w d t xs.toArray ys.toArray (by rw [hfo]; exact hfs) h1.1
        rw [hfo, hc d (by omega) w] at h2
        exact h2
      · trivial
    · trivial
theorem eqStr_ok {op : BinOp} {xt yt : TypeId} {x y : Operand} {a b : ByteArray} (hx : lk x = some (true, .string a)) (hy : lk y = some (true, .string b)) :
    (match op with | .eql => St.val (.bool (decide (a = b))) | .neq => .val (.bool (!decide (a = b))) | _ => .stop).Ok P lk ⟨d, .binOp op xt x y yt, ty, p, af, g⟩ := by
  have e1 : (a.toList == b.toList) = decide (a = b) := by rw [← beq_toListBytes]; exact bytes_beq a b
  cases op <;> simp only [St.Ok]
  case eql =>
    intro ρ ha w
    have h1 := ha x (by simp [Op.operands]) _ hx
    have h2 := ha y (by simp [Op.operands]) _ hy
    refine exec_binOp (by rw [h1, h2]; exact run_eqGuard_other (by simp) (by simp)) ?_
    rw [h1, h2]
    simp [binOp, Op.stringOp, e1]
  case neq =>
    intro ρ ha w
    have h1 := ha x (by simp [Op.operands]) _ hx
    have h2 := ha y (by simp [Op.operands]) _ hy
    refine exec_binOp (by rw [h1, h2]; exact run_eqGuard_other (by simp) (by simp)) ?_
    rw [h1, h2]
    simp [binOp, Op.stringOp, e1]
theorem eqAgg_ok {T : Tab} (hT : TabOk P T) {op : BinOp} {xt yt : TypeId} {x y : Operand} {xs ys : Array Value} {l : List (Nat × Nat)} {s b : Nat} (ht : T.find xt = some ⟨.struct l, s, b⟩) (he : eqAt T 9 xt = true) (hx : lk x = some (true, .agg xs)) (hy : lk y = some (true, .agg ys)) :
    (eqK T 9 xt (.agg xs) (.agg ys) fun c => match op with | .eql => St.val (.bool c) | .neq => .val (.bool (!c)) | _ => .stop).Ok P lk ⟨d, .binOp op xt x y yt, ty, p, af, g⟩ := by
  have h1 := Tab.find_all hT.guards ht
  simp only [he, Bool.not_true, Bool.false_or, Bool.not_eq_true'] at h1
  refine eqK_ok hT 9 xt _ _ _ fun c hc => ?_
  cases op <;> simp only [St.Ok]
  case eql =>
    intro ρ ha w
    have h2 := ha x (by simp [Op.operands]) _ hx
    have h3 := ha y (by simp [Op.operands]) _ hy
    refine exec_binOp (w' := w) (by rw [h2, h3]; exact run_eqGuard_agg w _ _ _ _ _ _ h1) ?_
    rw [h2, h3, run_eql_struct, hc 10000 (by omega) w]
    rfl
  case neq =>
    intro ρ ha w
    have h2 := ha x (by simp [Op.operands]) _ hx
    have h3 := ha y (by simp [Op.operands]) _ hy
    refine exec_binOp (w' := w) (by rw [h2, h3]; exact run_eqGuard_agg w _ _ _ _ _ _ h1) ?_
    rw [h2, h3, run_neq_struct, hc 10000 (by omega) w]
    rfl
theorem step_ok {T : Tab} (hT : TabOk P T) (o : Oper) : (step T o lk).Ok P lk o := by
  obtain ⟨d, op, ty, p, af, g⟩ := o
  unfold step
  cases g with
  | some _ => trivial
  | none =>
    simp only
    cases op
    case move x => simp only; split <;> first | trivial | (rename_i h; exact pure_move h)
    case assign x => simp only; split <;> first | trivial | (rename_i h; exact pure_assign h)
    case nilCheck x =>
      simp only; split
      · rename_i h; exact pure_nilCheck h
      · rename_i h; exact pure_nilCheckF h
      · trivial
    case extract x j =>
      simp only; split
      · rename_i h; split
        · rename_i hv; exact pure_extract h (by simpa using hv)
        · trivial
      · trivial
    case unOp op xt x =>
      cases op <;> simp only <;> try trivial
      split
      · rename_i h; exact pure_not h
      · trivial
    case binOp op xt x y yt =>
      simp only
      split
      · rename_i k a hx
        split
        · rename_i k' b hy
          split
          · exact fun h => pure_shr hx hy h
          · cases hk : kEq k k' with
            | false => trivial
            | true => have := kEq_eq hk; subst this; exact binS_ok hx hy
        · trivial
      · rename_i a hx
        split
        · rename_i b hy
          split
          · rename_i ht
            split
            · rename_i r hr; exact pure_beq hT ht hx hy hr
            · trivial
          · trivial
        · trivial
      · rename_i a hx
        split
        · rename_i b hy
          exact eqStr_ok hx hy
        · trivial
      · rename_i xs hx
        split
        · rename_i ys hy
          split
          · rename_i ht
            cases he : eqAt T 9 xt with
            | false => trivial
            | true => exact eqAgg_ok hT ht he hx hy
          · trivial
        · trivial
      · rename_i a hx
        split
        · rename_i b hy
          split
          · rename_i ht
            split
            · rename_i r hr; exact pure_nilq hT ht hx hy hr
            · trivial
          · trivial
        · trivial
      · rename_i a n c hx
        split
        · rename_i b n' c' hy
          split
          · rename_i ht
            split
            · rename_i r hr; exact pure_nilqS hT ht hx hy hr
            · trivial
          · trivial
        · trivial
      · rename_i hx
        split
        · rename_i hy
          split
          · rename_i ht
            split
            · rename_i r hr; exact pure_nilqF hT ht hx hy hr
            · trivial
          · trivial
        · trivial
      · rename_i hx
        split
        · rename_i hy
          split
          · rename_i ht
            split
            · rename_i r hr; exact pure_nilqF hT ht hx hy hr
            · trivial
          · trivial
        · trivial
      · trivial
    case convert src dst x =>
      simp only
      split
      · rename_i k a hx
        split
        · rename_i k' s b ht
          split
          · rename_i si hsi
            have hs : ∃ d, P.underlying src = some d := by obtain ⟨d, hd, _⟩ := hT.under hsi; exact ⟨d, hd⟩
            cases hk : kEq k k' with
            | true => exact arithS_ok fun h => by have := pure_conv (d := d) (ty := ty) (p := p) (af := af) (g := none) hT ht hs hx; rwa [fits_wrap h] at this
            | false => exact pure_conv hT ht hs hx
          · trivial
        · trivial
      · trivial
    case fieldAddr s x f =>
      simp only
      split
      · rename_i b off hx
        split
        · rename_i l sz by_ ht
          split
          · rename_i fo ft hf
            split
            · rename_i i hi
              cases hz : Nat.beq i.size 0 with
              | true => trivial
              | false => exact pure_field hT ht hf hi hz hx
            · trivial
          · trivial
        · trivial
      · trivial
    case indexAddr t x i =>
      simp only
      split
      · rename_i k j hi
        split
        · rename_i b off len cap hx
          split
          · rename_i el s b0 ht
            split
            · rename_i id s by_ he
              split
              · exact fun h => by have := pure_indexS (d := d) (ty := ty) (p := p) (af := af) (g := none) hT ht he hx hi h; rwa [Nat.mul_one] at this
              · exact fun h => pure_indexS hT ht he hx hi h
            · trivial
          · trivial
        · rename_i b off hx
          split
          · rename_i n el s b0 ht
            split
            · rename_i id s by_ he
              split
              · exact fun h => by have := pure_indexA (d := d) (ty := ty) (p := p) (af := af) (g := none) hT ht he hx hi h; rwa [Nat.mul_one] at this
              · exact fun h => pure_indexA hT ht he hx hi h
            · trivial
          · trivial
        · trivial
      · trivial
    case build t parts =>
      obtain ⟨parts⟩ := parts
      simp only
      split
      · rename_i l s b ht
        split
        · rename_i zs hz
          cases hall : l.all (fun p => (T.find p.2).isSome) with
          | false => trivial
          | true =>
            simp only [cond_true]
            refine lookP_ok parts _ fun vs hvs => ?_
            split
            · rename_i r hr
              rw [forceL_eq]
              exact pure_buildS hT ht hz hall hvs hr
            · trivial
        · trivial
      · rename_i n el s b ht
        split
        · rename_i ie he
          split
          · rename_i zs hz
            refine lookP_ok parts _ fun vs hvs => ?_
            split
            · rename_i r hr
              rw [forceL_eq]
              exact pure_buildA hT ht he hz hvs hr
            · trivial
          · trivial
        · trivial
      · trivial
    case field s x f =>
      simp only
      split
      · rename_i cs hx
        split
        · rename_i l sz by_ ht
          split
          · rename_i fo ft hf
            split
            · rename_i i hi
              cases hk : i.d.known with
              | false => trivial
              | true =>
                have ho : i.d ≠ .other := by intro h; rw [h] at hk; cases hk
                simp only [cond_true]
                cases hag : i.d.agg with
                | true =>
                  simp only [cond_true]
                  rw [forceL_eq]
                  exact pure_fieldV hT ht hf hi ho hx (.inl ⟨hag, rfl⟩)
                | false =>
                  simp only [cond_false]
                  split
                  · rename_i v hv
                    exact pure_fieldV hT ht hf hi ho hx (.inr ⟨hag, hv⟩)
                  · trivial
            · trivial
          · trivial
        · trivial
      · trivial
    case slice t x lo hi mx =>
      cases mx with
      | some m => cases lo <;> cases hi <;> trivial
      | none =>
      cases lo with
      | none =>
        cases hi with
        | none => trivial
        | some y =>
          simp only
          split
          · rename_i a len cap hx
            split
            · rename_i k j hy
              split
              · rename_i el s b ht
                split
                · rename_i i hi
                  exact fun h => pure_sliceH hT ht hi hx hy h
                · trivial
              · trivial
            · trivial
          · trivial
      | some y =>
        cases hi with
        | none =>
          simp only
          split
          · rename_i k l hy
            split
            · rename_i b off len cap hx
              split
              · rename_i el s b0 ht
                split
                · rename_i hi
                  exact fun h => pure_sliceL hT ht hi hx hy h
                · trivial
              · trivial
            · rename_i b off hx
              split
              · rename_i n el s b0 ht
                split
                · rename_i hi
                  exact fun h => pure_sliceA hT ht hi hx hy h
                · trivial
              · trivial
            · trivial
          · trivial
        | some z =>
          simp only
          split
          · rename_i k l hy
            split
            · rename_i k' h hz
              split
              · rename_i b off len cap hx
                split
                · rename_i el s b0 ht
                  split
                  · rename_i hi
                    exact fun h => pure_sliceLH hT ht hi hx hy hz h
                  · trivial
                · trivial
              · rename_i b off hx
                split
                · rename_i n el s b0 ht
                  split
                  · rename_i hi
                    exact fun h => pure_sliceAH hT ht hi hx hy hz h
                  · trivial
                · trivial
              · trivial
            · trivial
          · trivial
    case makeFunc fn l1 l2 =>
      obtain ⟨l1⟩ := l1
      obtain ⟨l2⟩ := l2
      exact lookL_ok l1 _ fun v1 h1 => lookL_ok l2 _ fun v2 h2 => pure_makeFunc h1 h2
    case call c =>
      obtain ⟨callee, args, ts⟩ := c
      cases callee with
      | value f => trivial
      | invoke r m => trivial
      | builtin b =>
        obtain ⟨l⟩ := args
        obtain ⟨ts⟩ := ts
        cases b <;> simp only <;> try trivial
        case len =>
          split
          · rename_i x t
            split
            · rename_i a n c hx
              split
              · rename_i ht; exact pure_lenS hT ht hx
              · trivial
            · rename_i s hx
              split
              · rename_i ht; exact pure_lenStr hT ht hx
              · trivial
            · rename_i v _ _ hx
              split
              · rename_i ht; exact pure_lenArr hT ht hx
              · trivial
            · trivial
          · trivial
        case max =>
          split
          · rename_i x y
            split
            · rename_i k a hx
              split
              · rename_i k' b hy
                cases hk : kEq k k' with
                | false => trivial
                | true => have := kEq_eq hk; subst this; exact pure_max hx hy
              · trivial
            · trivial
          · trivial
        case min =>
          split
          · rename_i x y
            split
            · rename_i k a hx
              split
              · rename_i k' b hy
                cases hk : kEq k k' with
                | false => trivial
                | true => have := kEq_eq hk; subst this; exact pure_min hx hy
              · trivial
            · trivial
          · trivial
    all_goals trivial
end
def pex (T : Tab) : List Oper → Env → (List Oper → Env → Prop) → Prop
  | [], e, k => k [] e
  | o :: r, e, k => match step T o (look e) with
    | .val v => match o.dst with
      | some d => pex T r ((d, true, v) :: e) k
      | none => pex T r e k
    | .cond c v => match o.dst with
      | some d => c ∧ pex T r ((d, true, v) :: e) k
      | none => c ∧ pex T r e k
    | .stop => k (o :: r) e
theorem fresh_op {cf : Cfg} {op : Op} (h : isFresh (klassOp cf op) = true) : (∃ t, op = .alloc t) ∨ (∃ t x, op = .box t x) ∨ (∃ t n l, op = .buildSlice t n l) ∨ (∃ t x y, op = .makeSlice t x y) := by
  cases op
  case alloc t => exact .inl ⟨_, rfl⟩
  case box t x => exact .inr (.inl ⟨_, _, rfl⟩)
  case buildSlice t n l => exact .inr (.inr (.inl ⟨_, _, _, rfl⟩))
  case makeSlice t x y => exact .inr (.inr (.inr ⟨_, _, _, rfl⟩))
  case call c =>
    exfalso
    unfold klassOp at h
    simp only at h
    split at h
    case h_5 f hf =>
      have h2 : isFresh (bif cf.qf.any (Nat.beq f) then Kind.quiet else .m) = false := by cases cf.qf.any (Nat.beq f) <;> rfl
      rw [h2] at h
      cases h
    all_goals cases h
  case binOp op xt x y yt => exfalso; unfold klassOp at h; simp only at h; split at h <;> cases h
  all_goals exact absurd (show false = true from h) (by simp)
theorem fresh_step {T : Tab} {cf : Cfg} {o : Oper} {lk : Lk} (h : isFresh (klass cf o) = true) : step T o lk = .stop := by
  obtain ⟨d, op, ty, p, af, g⟩ := o
  unfold klass at h
  rw [isFresh_cond, Bool.and_eq_true] at h
  unfold step
  cases g with
  | some _ => rfl
  | none => rcases fresh_op h.2 with ⟨t, rfl⟩ | ⟨t, x, rfl⟩ | ⟨t, n, l, rfl⟩ | ⟨t, x, y, rfl⟩ <;> rfl
theorem nostop_fresh {T : Tab} {cf : Cfg} {o : Oper} {lk : Lk} (h : step T o lk ≠ .stop) : isFresh (klass cf o) = false := by
  cases hf : isFresh (klass cf o) with
  | false => rfl
  | true => exact absurd (fresh_step hf) h
theorem Ops.pex {W0 : World} {P : Program} {T : Tab} (hT : TabOk P T) {cf : Cfg} {arr : Array Oper} {k : Env → Heap → Prop} : ∀ {l : List Oper} {e : Env} {C : Heap},
    Eng.pex T l e (fun l e => Ops W0 P cf arr k l e C) → Ops W0 P cf arr k l e C
  | [], e, C, h => h
  | o :: r, e, C, h => by
    simp only [Eng.pex] at h
    have hok := step_ok (P := P) (lk := look e) hT o
    have hgd : o.guard = none ∨ step T o (look e) = .stop := by
      cases hg : o.guard with
      | none => exact .inl rfl
      | some _ => right; unfold step; rw [hg]
    cases hst : step T o (look e) with
    | val v =>
      rw [hst] at h hok
      refine Ops.pure (hgd.resolve_right (by rw [hst]; simp)) (nostop_fresh (T := T) (lk := look e) (by rw [hst]; simp)) hok (Ops.pex hT ?_)
      cases hd : o.dst with
      | none => rw [hd] at h; exact h
      | some d => rw [hd] at h; exact h
    | cond c v =>
      rw [hst] at h hok
      cases hd : o.dst with
      | none =>
        rw [hd] at h
        refine Ops.pure (hgd.resolve_right (by rw [hst]; simp)) (nostop_fresh (T := T) (lk := look e) (by rw [hst]; simp)) (hok h.1) (Ops.pex hT ?_)
        rw [hd]; exact h.2
      | some d =>
        rw [hd] at h
        refine Ops.pure (hgd.resolve_right (by rw [hst]; simp)) (nostop_fresh (T := T) (lk := look e) (by rw [hst]; simp)) (hok h.1) (Ops.pex hT ?_)
        rw [hd]; exact h.2
    | stop =>
      rw [hst] at h
      exact h
def forceE : Env → (Env → Prop) → Prop
  | [], k => k []
  | (t, g, v) :: r, k => forceE r fun r' => k ((t, g, v) :: r')
theorem forceE_eq : ∀ (e : Env) (k : Env → Prop), forceE e k = k e
  | [], _ => rfl
  | (t, g, v) :: r, k => by rw [forceE, forceE_eq r]
section
variable {W0 : World} {P : Program} {n : Nat} {K : Kont} {e : Env} {C : Heap}
theorem Does.go {f : FuncId} {l : List Value} {R : Value → Heap → Prop} {fn : Func} {c : Code} {rs : List ResultVar} {m : Nat} (hf : P.funcs[f]? = some fn) (hb : fn.body = some c) (hr : fn.results = rs.toArray)
    (hm : fn.ntmps = m) (hl : Nat.ble l.length m = true) (hrl : Nat.ble rs.length 4 = true) (h : forceE (enterEnv l) (fun e => V W0 P m (retK W0 P rs R) c e C)) : Does W0 P f l.toArray C R := by
  rw [forceE_eq] at h
  exact Does.enter hf hb hr hm hl hrl h
theorem V.reg {T : Tab} (hT : TabOk P T) {id : Nat} {l : List Oper} (hd : dstOk n l = true) (h : Eng.pex T l e (fun l' e' => Ops W0 P cfg0 l.toArray (fun e C => K .normal e C) l' e' C)) : V W0 P n K (.region id l.toArray false) e C :=
  V.region hd (Ops.pex hT h)
theorem V.drw {T : Tab} (hT : TabOk P T) (cf : Cfg) {id : Nat} {l : List Oper} (hm : P.follows .mixedOrders = true) (hc : chk n (l.map (klass cf)) l.toArray = true) (hD : Weak C cf.D)
    (h : Eng.pex T l e (fun l' e' => Ops W0 P cf l.toArray (fun e C => K .normal e C) l' e' C)) : V W0 P n K (.region id l.toArray true) e C :=
  V.draw cf hm hc hD (Ops.pex hT h)
end
end Eng
