/- A part of the engine: elements of slices that are read whole, whole structs written into a block that is known cell by cell. -/
import Derived.Test.YtkaonbolpaedmaaEngB
set_option maxRecDepth 100000
namespace Eng
open Go

theorem flat_at {α : Type} {f : α → List Value} {sz : Nat} (hf : ∀ x, (f x).length = sz) : ∀ (l : List α) (k j : Nat) (hk : k < l.length), j < sz → (l.map f).flatten[k * sz + j]? = (f l[k])[j]?
  | [], k, j, hk, hj => by simp at hk
  | a :: r, 0, j, hk, hj => by
    simp only [List.map_cons, List.flatten_cons, Nat.zero_mul, Nat.zero_add, List.getElem_cons_zero]
    rw [List.getElem?_append_left (by rw [hf]; exact hj)]
  | a :: r, k + 1, j, hk, hj => by
    simp only [List.map_cons, List.flatten_cons, List.getElem_cons_succ]
    rw [List.getElem?_append_right (by rw [hf, Nat.add_mul]; omega), hf]
    have := flat_at hf r k j (by simpa using hk) hj
    rw [← this]
    congr 1
    rw [Nat.add_mul]; omega

theorem flat_length {α : Type} {f : α → List Value} {sz : Nat} (hf : ∀ x, (f x).length = sz) : ∀ (l : List α), (l.map f).flatten.length = l.length * sz
  | [] => by simp
  | a :: r => by
    simp only [List.map_cons, List.flatten_cons, List.length_append, hf, flat_length hf r, List.length_cons, Nat.add_mul]
    omega

section
variable {W0 : World} {P : Program} {T : Tab} {cf : Cfg} {arr : Array Oper} {k : Env → Heap → Prop} {rest : List Oper} {e : Env} {C : Heap} {d : Nat} {ty : TypeId} {p : String} {af : Array Edge}

/-- Element k of a slice of structs, all its cells. -/
theorem RdL.elem {α : Type} {f : α → List Value} {sz : Nat} (hf : ∀ x, (f x).length = sz) {b off : Nat} {l : List α} (h : RdL W0 C b off (l.map f).flatten) {i : Nat} (hk : i < l.length) : RdL W0 C b (off + (i : Int).toNat * sz) (f l[i]) := fun j u hj => by
  have hlt : j < sz := by rw [← hf l[i]]; exact (List.getElem?_eq_some_iff.1 hj).1
  have h1 := h (i * sz + j) u (by rw [flat_at hf l i j hk hlt]; exact hj)
  rw [Int.toNat_natCast, Nat.add_assoc]
  exact h1

/-- One cell of a row. -/
theorem RdL.cell {b off j : Nat} {l : List Value} {u : Value} (h : RdL W0 C b off l) (hj : l[j]? = some u) : Rd W0 C ⟨b, off + j, none⟩ u := h j u hj

/-- A whole struct of what is read. -/
theorem Ops.loadE (hT : TabOk P T) {t : TypeId} {x : Operand} {b off : Nat} {vs : List Value} {i : TyI} (ht : T.find t = some i) (hs : i.d.agg = true) (hx : look e x = some (true, .pointer (some ⟨b, off, none⟩))) (hr : RdL W0 C b off vs) (hl : vs.length = i.size) (hk : notPure (klass cf ⟨some d, .load t x, ty, p, af, none⟩) = true)
    (h : Eng.pex T rest ((d, true, .agg vs.toArray) :: e) (fun l e => Ops W0 P cf arr k l e C)) : Ops W0 P cf arr k (⟨some d, .load t x, ty, p, af, none⟩ :: rest) e C :=
  Ops.loadN hT ht hs hx hl hr hk h

/-- Some cells are written over. -/
inductive PutL : Nat → List Value → List Value → List Value → Prop
  | nil {l} : PutL 0 [] l l
  | cons {v vs x l l'} : PutL 0 vs l l' → PutL 0 (v :: vs) (x :: l) (v :: l')
  | skip {n vs x l l'} : PutL n vs l l' → PutL (n + 1) vs (x :: l) (x :: l')

theorem PutL.eq {n : Nat} {vs l l' : List Value} (h : PutL n vs l l') : l' = l.take n ++ vs ++ l.drop (n + vs.length) ∧ n + vs.length ≤ l.length := by
  induction h with
  | nil => simp
  | cons _ ih =>
    obtain ⟨h1, h2⟩ := ih
    constructor
    · simpa using h1
    · simp only [List.length_cons] at h2 ⊢; omega
  | @skip n vs x l l' _ ih =>
    obtain ⟨h1, h2⟩ := ih
    constructor
    · rw [show n + 1 + vs.length = (n + vs.length) + 1 by omega]; simpa using h1
    · simp only [List.length_cons]; omega

theorem Ops.storeL (hT : TabOk P T) {t : TypeId} {x y : Operand} {b off : Nat} {l l' : List Value} {bt : TypeId} {vs : List Value} {C' : Heap} {i : TyI} (ht : T.find t = some i) (hx : look e x = some (true, .pointer (some ⟨b, off, none⟩))) (hy : look e y = some (true, .agg vs.toArray)) (hs : i.size = vs.length)
    (hv : vs.all (·.oneCell') = true) (u : Upd C b (.cells l.toArray bt (0, 0)) (.cells l'.toArray bt (0, 0)) C') (hp : PutL off vs l l') (hD : Weak C' cf.D) (h : Eng.pex T rest e (fun l e => Ops W0 P cf arr k l e C')) :
    Ops W0 P cf arr k (⟨none, .store t x y, ty, p, af, none⟩ :: rest) e C := by
  obtain ⟨rfl, hoff⟩ := hp.eq
  exact Ops.storeN hT ht hs hx hy hv u hoff hD h

end
end Eng
