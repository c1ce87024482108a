/- A part of the engine: rules for code that is walked with memory as a list of chunks. -/
import Derived.Test.YtofcmcgopdhfeaaEng8
import Derived.Deep.Slices
import Derived.ProofKit
import Derived.OpenShut
import Derived.Below
import Derived.Carry
namespace Eng
open Go Go.ChangeShapes Go.WideShapes Go.ChangeAt Go.RowKit Go.Deep

/-! What comes in, read off a row's frame. -/

theorem flat_get {sz : Nat} (hs : 1 ≤ sz) : ∀ {es : List (List Value)}, (∀ c ∈ es, c.length = sz) → ∀ {j : Nat} {u : Value}, es.flatten[j]? = some u →
    ∃ i k c, es[i]? = some c ∧ c[k]? = some u ∧ j = i * sz + k ∧ k < sz
  | [], _, j, u, h => by simp at h
  | c :: r, hc, j, u, h => by
    have hl : c.length = sz := hc c (by simp)
    simp only [List.flatten_cons] at h
    by_cases hj : j < sz
    · rw [List.getElem?_append_left (by omega)] at h
      exact ⟨0, j, c, by simp, h, by omega, hj⟩
    · rw [List.getElem?_append_right (by omega), hl] at h
      obtain ⟨i, k, c', h1, h2, h3, h4⟩ := flat_get hs (fun c h => hc c (by simp [h])) h
      refine ⟨i + 1, k, c', by simpa using h1, h2, ?_, h4⟩
      rw [Nat.add_mul]; omega

theorem flat_len {sz : Nat} : ∀ {es : List (List Value)}, (∀ c ∈ es, c.length = sz) → es.flatten.length = es.length * sz
  | [], _ => by simp
  | c :: r, hc => by
    have h1 := flat_len (es := r) (fun c h => hc c (by simp [h]))
    have h2 := hc c (by simp)
    simp only [List.flatten_cons, List.length_append, List.length_cons, h1, h2, Nat.add_mul]
    omega

theorem list_pick {α β : Type} {f : α → β} {Q : α → Prop} : ∀ {es : List β}, (∀ c ∈ es, ∃ a, c = f a ∧ Q a) → ∃ l : List α, es = l.map f ∧ ∀ a ∈ l, Q a
  | [], _ => ⟨[], rfl, by simp⟩
  | c :: r, h => by
    obtain ⟨a, ha, hq⟩ := h c (by simp)
    obtain ⟨l, hl, hQ⟩ := list_pick (es := r) (fun c hc => h c (by simp [hc]))
    refine ⟨a :: l, by simp [ha, hl], ?_⟩
    intro b hb
    rcases List.mem_cons.1 hb with rfl | hb
    · exact hq
    · exact hQ b hb

section
variable {H : Type} {enc : TypeId × Value → H} {P : Program} {W : World}

/-- An element's cells, of type e, read well. -/
def Reads (enc : TypeId × Value → H) (P : Program) (W : World) (e : TypeId) (c : List Value) : Prop :=
  ∃ fuel x, DataW.trod enc P W 0 (fun _ => true) true fuel e c = some x

theorem Reads.slice {t e sz : Nat} {c : List Value} (ht : P.underlying t = some (.slice e)) (hc : P.cellsOf e = sz) (hsz : 1 ≤ sz) (h : Reads enc P W t c) : ∃ (v : Value) (n : Nat) (es : List (List Value)), c = [v] ∧ RdS W [] sz v n es.flatten ∧ n ≤ maxLen ∧ es.length = n ∧ ∀ c ∈ es, c.length = sz ∧ Reads enc P W e c := by
  obtain ⟨fuel, x, hf⟩ := h
  subst hc
  rcases open_slice ht hf with ⟨hcs, _⟩ | ⟨a, len0, cap0, m, n, D, Pl, hcs, _, hl, hm, hmm, _, hx⟩
  · subst hcs
    exact ⟨_, 0, [], rfl, RdS.nil _, by omega, rfl, by simp⟩
  · subst hcs
    have hml : len0 ≤ m := by rw [hmm]; split <;> omega
    obtain ⟨E, hE⟩ := choose_lt (α := List Value) (p := fun i cs => W.cells? 0 (a.add (i * P.cellsOf e)) (P.cellsOf e) = some cs ∧ DataW.trod enc P W 0 (fun _ => true) true n e cs = some (D i, Pl i)) (n := len0) (fun i hi => by
      obtain ⟨cs', h1, h2⟩ := hx i (by omega)
      exact ⟨cs', h1, h2⟩)
    have hlen : ∀ c ∈ (List.range len0).map E, c.length = P.cellsOf e := by
      intro c hc
      obtain ⟨i, hi, rfl⟩ := List.mem_map.1 hc
      exact (World.cells?_some (hE i (by simpa using hi)).1).2.1
    refine ⟨_, len0, (List.range len0).map E, rfl, ⟨⟨some a, cap0, rfl, hl, fun h0 => ?_⟩, ?_⟩, by omega, by simp, fun c hc => ⟨hlen c hc, ?_⟩⟩
    · have hcell : ∀ i, i < len0 → ∀ k, k < P.cellsOf e → W.cell? ((a.add (i * P.cellsOf e)).add k) = (E i)[k]? := fun i hi => (World.cells?_some (hE i hi).1).2.2
      obtain ⟨b, off, spot⟩ := a
      have hz := hcell 0 h0 0 hsz
      have hlen0 : (E 0).length = P.cellsOf e := (World.cells?_some (hE 0 h0).1).2.1
      rw [List.getElem?_eq_getElem (by omega)] at hz
      have hspot : spot = none := by simpa [Addr.add] using World.cell?_spot hz
      subst hspot
      refine ⟨b, off, rfl, fun j u hj => Rd.base ?_⟩
      obtain ⟨i, k, c, h1, h2, h3, h4⟩ := flat_get hsz hlen hj
      have hi : i < len0 := by
        have := (List.getElem?_eq_some_iff.1 h1).1
        simpa using this
      have hci : c = E i := by
        rw [List.getElem?_map, List.getElem?_range hi] at h1
        simpa using h1.symm
      subst hci
      have := hcell i hi k h4
      rw [h2, addr_add, addr_add] at this
      rw [h3, ← Nat.add_assoc]
      exact this
    · rw [flat_len hlen]; simp
    · obtain ⟨i, hi, rfl⟩ := List.mem_map.1 hc
      exact ⟨n, _, (hE i (by simpa using hi)).2⟩

theorem rds_in {t e sz : Nat} {v : Value} {d : DataW H} {p : List MemPlace} (ht : P.underlying t = some (.slice e)) (hc : P.cellsOf e = sz) (hsz : 1 ≤ sz) (hv : ∃ a len cap, v = .slice a len cap)
    (h : DataW.Trod enc P W 0 (fun _ => true) true t v d p) : ∃ (n : Nat) (es : List (List Value)), RdS W [] sz v n es.flatten ∧ es.length = n ∧ ∀ c ∈ es, c.length = sz ∧ Reads enc P W e c := by
  obtain ⟨a0, len0, cap0, rfl⟩ := hv
  obtain ⟨fuel, hf⟩ := h
  obtain ⟨v, n, es, h1, h2, _, h3, h4⟩ := Reads.slice ht hc hsz ⟨fuel, _, hf⟩
  have hv : v = .slice a0 len0 cap0 := by simpa [Value.cells] using h1.symm
  subst hv
  exact ⟨n, es, h2, h3, h4⟩

theorem Reads.str {t : TypeId} {c : List Value} (ht : P.underlying t = some .string) (h : Reads enc P W t c) : ∃ s : ByteArray, c = [.string s] ∧ s.size ≤ maxLen := by
  obtain ⟨f, x, h⟩ := h
  obtain ⟨s, h1, _, h2⟩ := DataW.trod_string ht h
  exact ⟨s, h1, h2⟩

theorem Reads.int {t : TypeId} {k : IntKind} {c : List Value} (ht : P.underlying t = some (.int k)) (h : Reads enc P W t c) : ∃ n, c = [.int k n] ∧ (Lit.int k n).wf = true := by
  obtain ⟨f, x, h⟩ := h
  obtain ⟨n, h1, _, h2⟩ := DataW.trod_int ht h
  exact ⟨n, h1, h2⟩
theorem Reads.bool {t : TypeId} {c : List Value} (ht : P.underlying t = some .bool) (h : Reads enc P W t c) : ∃ b, c = [.bool b] := by
  obtain ⟨f, x, h⟩ := h
  obtain ⟨n, h1, _⟩ := DataW.trod_bool ht h
  exact ⟨n, h1⟩
theorem Reads.field {t : TypeId} {fs : Array Field} {c : List Value} {i : Nat} {f : Field} (ht : P.underlying t = some (.struct fs)) (hi : fs[i]? = some f) (h : Reads enc P W t c) : Reads enc P W f.type ((c.drop f.offset).take (P.cellsOf f.type)) := by
  obtain ⟨fu, x, h⟩ := h
  obtain ⟨xs, n, _, _, _, hl, hf⟩ := DataW.trod_struct ht h
  have := hf i f hi
  have hlt : i < xs.length := by rw [hl]; exact (Array.getElem?_eq_some_iff.1 hi).1
  rw [List.getElem?_eq_getElem hlt] at this
  exact ⟨n, _, this⟩
theorem Reads.fieldAt {t : TypeId} {fs : Array Field} {c : List Value} {i off ft n : Nat} {f : Field} (h : Reads enc P W t c) (ht : P.underlying t = some (.struct fs)) (hi : fs[i]? = some f) (ho : f.offset = off) (hft : f.type = ft) (hn : P.cellsOf ft = n) : Reads enc P W ft ((c.drop off).take n) := by
  have := h.field ht hi
  rw [ho, hft, hn] at this
  exact this
theorem Reads.slen {t : TypeId} {fs : Array Field} {c : List Value} (h : Reads enc P W t c) (ht : P.underlying t = some (.struct fs)) : c.length = P.cellsOf t := by
  obtain ⟨fu, x, h⟩ := h
  obtain ⟨xs, n, _, _, hl, _⟩ := DataW.trod_struct ht h
  exact hl
theorem Reads.cell {t : TypeId} {v : Value} {d : DataW H} {p : List MemPlace} (h : DataW.Trod enc P W 0 (fun _ => true) true t v d p) : Reads enc P W t v.cells.toList := by
  obtain ⟨f, h⟩ := h
  exact ⟨f, _, h⟩

theorem ints_flat (l : List Int) : (l.map fun x : Int => [Value.int .i64 x]).flatten = ints l := by
  induction l with
  | nil => rfl
  | cons a r ih => simp only [ints] at ih; simp [ints, ih]

theorem ints_in {t e : TypeId} {v : Value} {d : DataW H} {p : List MemPlace} (ht : P.underlying t = some (.slice e)) (he : P.underlying e = some (.int .i64)) (hc : P.cellsOf e = 1) (hv : ∃ a len cap, v = .slice a len cap)
    (h : DataW.Trod enc P W 0 (fun _ => true) true t v d p) : ∃ n xs, RdS W [] 1 v n (ints xs) ∧ ∀ x ∈ xs, -9223372036854775808 ≤ x ∧ x ≤ 9223372036854775807 := by
  obtain ⟨n, es, h1, h2, h3⟩ := rds_in ht hc (Nat.le_refl 1) hv h
  obtain ⟨l, rfl, hl⟩ := list_pick (f := fun x : Int => [Value.int .i64 x]) (fun c hc => (h3 c hc).2.int he)
  refine ⟨n, l, ?_, fun x hx => bounds_i64 (hl x hx)⟩
  rw [ints_flat] at h1
  exact h1

def bools (l : List Bool) : List Value := l.map Value.bool
theorem bools_length (l : List Bool) : (bools l).length = l.length := by simp [bools]
theorem RdS.bools_len {C : Heap} {s : Value} {n : Nat} {l : List Bool} (h : RdS W C 1 s n (bools l)) : l.length = n := by
  have := h.len
  rw [bools_length] at this
  omega
theorem RdL.bool {C : Heap} {b off k : Nat} {l : List Bool} (h : RdL W C b off (bools l)) (hk : k < l.length) : Rd W C ⟨b, off + (k : Int).toNat, none⟩ (.bool l[k]) := h k _ (by simp [bools, hk])

theorem bools_flat (l : List Bool) : (l.map fun x : Bool => [Value.bool x]).flatten = bools l := by
  induction l with
  | nil => rfl
  | cons a r ih => simp only [bools] at ih; simp [bools, ih]

theorem bools_in {t e : TypeId} {v : Value} {d : DataW H} {p : List MemPlace} (ht : P.underlying t = some (.slice e)) (he : P.underlying e = some .bool) (hc : P.cellsOf e = 1) (hv : ∃ a len cap, v = .slice a len cap)
    (h : DataW.Trod enc P W 0 (fun _ => true) true t v d p) : ∃ n xs, RdS W [] 1 v n (bools xs) := by
  obtain ⟨n, es, h1, h2, h3⟩ := rds_in ht hc (Nat.le_refl 1) hv h
  obtain ⟨l, rfl, hl⟩ := list_pick (f := fun x : Bool => [Value.bool x]) (Q := fun _ => True) (fun c hc => by obtain ⟨b, hb⟩ := (h3 c hc).2.bool he; exact ⟨b, hb, trivial⟩)
  refine ⟨n, l, ?_⟩
  rw [bools_flat] at h1
  exact h1

end
end Eng
