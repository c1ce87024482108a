/- A part of the proofs: what functions of the program do, each by its own contract; printed by a program of mine. No conditions but those that each theorem names. -/
import Derived.Test.YtkcabcejnikihaaR2
namespace Go.Proofs.Ytkcabcejnikihaa
open Eng
set_option maxRecDepth 100000
set_option maxHeartbeats 4000000

def b2i (b : Bool) : Int := bif b then 1 else 0
def stepL (l : LineS) (j : JobS) : LineS := ⟨l.thread, l.jobs + 1, l.cut + b2i j.cut, l.late + b2i (lateB j), max l.worst (spanF j), addF l.used j.used⟩
def lineOf (t : Int) (l : LineS) (js : List JobS) : LineS := js.foldl (fun l j => bif decide (j.thread = t) then stepL l j else l) l
def lineT (t : Nat) (js : List JobS) : LineS := lineOf t ⟨t, 0, 0, 0, 0, 0⟩ js

theorem b2i_bd (b : Bool) : 0 ≤ b2i b ∧ b2i b ≤ 1 := by cases b <;> decide
structure LFew (l : LineS) (k : Nat) : Prop where
  jl : 0 ≤ l.jobs
  jh : l.jobs ≤ k
  cl : 0 ≤ l.cut
  ch : l.cut ≤ k
  ll : 0 ≤ l.late
  lh : l.late ≤ k
theorem lineOf_few (t : Int) : ∀ (js : List JobS) (l : LineS) (k : Nat), LFew l k → LFew (lineOf t l js) (k + js.length) := by
  intro js
  induction js with
  | nil => intro l k h; exact h
  | cons j r ih =>
    intro l k h
    obtain ⟨h1, h2, h3, h4, h5, h6⟩ := h
    have hb1 := b2i_bd j.cut
    have hb2 := b2i_bd (lateB j)
    have := ih (bif decide (j.thread = t) then stepL l j else l) (k + 1) (by
      cases decide (j.thread = t) with
      | true => refine ⟨?_, ?_, ?_, ?_, ?_, ?_⟩ <;> dsimp only [cond_true, stepL] <;> omega
      | false => refine ⟨?_, ?_, ?_, ?_, ?_, ?_⟩ <;> dsimp only [cond_false] <;> omega)
    rw [show k + (j :: r).length = k + 1 + r.length by simp; omega]
    exact this
theorem lineT_few (t : Nat) (js : List JobS) : LFew (lineT t js) js.length := by
  have := lineOf_few t js ⟨t, 0, 0, 0, 0, 0⟩ 0 ⟨Int.le_refl 0, Int.le_refl 0, Int.le_refl 0, Int.le_refl 0, Int.le_refl 0, Int.le_refl 0⟩
  rw [Nat.zero_add] at this
  exact this
theorem lineOf_snoc (t : Int) (l : LineS) (js : List JobS) (j : JobS) : lineOf t l (js ++ [j]) = bif decide (j.thread = t) then stepL (lineOf t l js) j else lineOf t l js := by
  unfold lineOf; rw [List.foldl_append]; rfl
theorem lineT_take (t : Nat) (js : List JobS) (i : Nat) (hi : i < js.length) : lineT t (js.take (i + 1)) = bif decide (js[i].thread = t) then stepL (lineT t (js.take i)) js[i] else lineT t (js.take i) := by
  rw [List.take_succ_eq_append_getElem hi]; exact lineOf_snoc _ _ _ _

/-- The lines at job i of thread t. -/
def linesAt (n t i : Nat) (js : List JobS) : List LineS := (List.range n).map fun q => if q < t then lineT q js else if q = t then lineT q (js.take i) else lineZ
def linesT (n : Nat) (js : List JobS) : List LineS := (List.range n).map fun q => lineT q js
theorem linesAt_len (n t i : Nat) (js : List JobS) : (linesAt n t i js).length = n := by simp [linesAt]
theorem linesAt_get (n t i : Nat) (js : List JobS) (ht : t < n) : (linesAt n t i js)[t]'(by rw [linesAt_len]; exact ht) = lineT t (js.take i) := by
  simp [linesAt]
theorem linesAt_set (n t i i' : Nat) (js : List JobS) : (linesAt n t i js).set t (lineT t (js.take i')) = linesAt n t i' js := by
  apply List.ext_getElem
  · simp [linesAt]
  · intro q h1 h2
    rw [List.getElem_set]
    simp only [linesAt, List.getElem_map, List.getElem_range]
    by_cases h : t = q
    · subst h; simp
    · rw [if_neg h]
      by_cases h3 : q < t
      · simp [h3]
      · simp [h3, show ¬ q = t by omega]
/-- The lines ahead of thread t: t itself is not begun. -/
def linesB (n t : Nat) (js : List JobS) : List LineS := (List.range n).map fun q => if q < t then lineT q js else lineZ
theorem linesB_len (n t : Nat) (js : List JobS) : (linesB n t js).length = n := by simp [linesB]
theorem linesB_zero (n : Nat) (js : List JobS) : linesB n 0 js = List.replicate n lineZ := by
  apply List.ext_getElem <;> simp [linesB]
theorem linesB_end (n : Nat) (js : List JobS) : linesB n n js = linesT n js := by
  apply List.ext_getElem <;> simp [linesB, linesT]
  intro q h1 h2; omega
theorem linesB_get (n t : Nat) (js : List JobS) (ht : t < n) : (linesB n t js)[t]'(by rw [linesB_len]; exact ht) = lineZ := by simp [linesB]
theorem linesB_set (n t : Nat) (js : List JobS) : (linesB n t js).set t ⟨t, 0, 0, 0, 0, 0⟩ = linesAt n t 0 js := by
  apply List.ext_getElem
  · simp [linesB, linesAt]
  · intro q h1 h2
    rw [List.getElem_set]
    simp only [linesB, linesAt, List.getElem_map, List.getElem_range]
    by_cases h : t = q
    · subst h; simp [lineT, lineOf]
    · rw [if_neg h]
      by_cases h3 : q < t
      · simp [h3]
      · simp [h3, show ¬ q = t by omega]
theorem linesAt_end (n t : Nat) (js : List JobS) : linesAt n t js.length js = linesB n (t + 1) js := by
  apply List.ext_getElem
  · simp [linesB, linesAt]
  · intro q h1 h2
    simp only [linesB, linesAt, List.getElem_map, List.getElem_range, List.take_length]
    by_cases h : q < t
    · simp [h, show q < t + 1 by omega]
    · by_cases h2 : q = t
      · simp [h2]
      · simp [h, h2, show ¬ q < t + 1 by omega]

def putK (l : LineS) (j : JobS) : Nat → LineS
  | 0 => l
  | 1 => { l with jobs := l.jobs + 1 }
  | 2 => { l with jobs := l.jobs + 1, cut := l.cut + b2i j.cut }
  | 3 => { l with jobs := l.jobs + 1, cut := l.cut + b2i j.cut, late := l.late + b2i (lateB j) }
  | 4 => { l with jobs := l.jobs + 1, cut := l.cut + b2i j.cut, late := l.late + b2i (lateB j), worst := max l.worst (spanF j) }
  | _ => stepL l j

theorem puts0 (W0 : World) (C : Heap) (b t : Nat) (ls : List LineS) (l : LineS) (j : JobS) (ht : t < ls.length) (hf : LFew l 1000) :
    Does W0 Try.prog 19 #[.pointer (some ⟨b, 0 + (t : Int).toNat * 6, none⟩), jobV j] (lnC 29 b (ls.set t (putK l j 0)) :: C) (fun v C' => v = .tuple #[] ∧ C' = lnC 29 b (ls.set t (putK l j 1)) :: C) := by
  obtain ⟨h1, h2, h3, h4, h5, h6⟩ := hf
  have hlen : (ls.set t (putK l j 0)).length = ls.length := by simp
  have hget : (ls.set t (putK l j 0))[t]'(by omega) = putK l j 0 := List.getElem_set_self _
  have := count_s W0 C b t (ls.set t (putK l j 0)) j (by omega) (by rw [hget]; show 0 ≤ l.jobs ∧ l.jobs ≤ 1000000; omega)
  rw [hget, List.set_set] at this
  exact this
theorem puts1 (W0 : World) (C : Heap) (b t : Nat) (ls : List LineS) (l : LineS) (j : JobS) (ht : t < ls.length) (hf : LFew l 1000) :
    Does W0 Try.prog 20 #[.pointer (some ⟨b, 0 + (t : Int).toNat * 6, none⟩), jobV j] (lnC 29 b (ls.set t (putK l j 1)) :: C) (fun v C' => v = .tuple #[] ∧ C' = lnC 29 b (ls.set t (putK l j 2)) :: C) := by
  obtain ⟨h1, h2, h3, h4, h5, h6⟩ := hf
  have hlen : (ls.set t (putK l j 1)).length = ls.length := by simp
  have hget : (ls.set t (putK l j 1))[t]'(by omega) = putK l j 1 := List.getElem_set_self _
  have := cut_s W0 C b t (ls.set t (putK l j 1)) j (by omega) (by rw [hget]; show 0 ≤ l.cut ∧ l.cut ≤ 1000000; omega)
  rw [hget, List.set_set] at this
  exact this
theorem puts2 (W0 : World) (C : Heap) (b t : Nat) (ls : List LineS) (l : LineS) (j : JobS) (ht : t < ls.length) (hf : LFew l 1000) :
    Does W0 Try.prog 21 #[.pointer (some ⟨b, 0 + (t : Int).toNat * 6, none⟩), jobV j] (lnC 29 b (ls.set t (putK l j 2)) :: C) (fun v C' => v = .tuple #[] ∧ C' = lnC 29 b (ls.set t (putK l j 3)) :: C) := by
  obtain ⟨h1, h2, h3, h4, h5, h6⟩ := hf
  have hlen : (ls.set t (putK l j 2)).length = ls.length := by simp
  have hget : (ls.set t (putK l j 2))[t]'(by omega) = putK l j 2 := List.getElem_set_self _
  have := late_s W0 C b t (ls.set t (putK l j 2)) j (by omega) (by rw [hget]; show 0 ≤ l.late ∧ l.late ≤ 1000000; omega)
  rw [hget, List.set_set] at this
  exact this
theorem puts3 (W0 : World) (C : Heap) (b t : Nat) (ls : List LineS) (l : LineS) (j : JobS) (ht : t < ls.length) (hj : JNear j) :
    Does W0 Try.prog 22 #[.pointer (some ⟨b, 0 + (t : Int).toNat * 6, none⟩), jobV j] (lnC 29 b (ls.set t (putK l j 3)) :: C) (fun v C' => v = .tuple #[] ∧ C' = lnC 29 b (ls.set t (putK l j 4)) :: C) := by
  have hlen : (ls.set t (putK l j 3)).length = ls.length := by simp
  have hget : (ls.set t (putK l j 3))[t]'(by omega) = putK l j 3 := List.getElem_set_self _
  have := worst_s W0 C b t (ls.set t (putK l j 3)) j (by omega) hj
  rw [hget, List.set_set] at this
  exact this
theorem puts4 (W0 : World) (C : Heap) (b t : Nat) (ls : List LineS) (l : LineS) (j : JobS) (ht : t < ls.length) :
    Does W0 Try.prog 23 #[.pointer (some ⟨b, 0 + (t : Int).toNat * 6, none⟩), jobV j] (lnC 29 b (ls.set t (putK l j 4)) :: C) (fun v C' => v = .tuple #[] ∧ C' = lnC 29 b (ls.set t (putK l j 5)) :: C) := by
  have hlen : (ls.set t (putK l j 4)).length = ls.length := by simp
  have hget : (ls.set t (putK l j 4))[t]'(by omega) = putK l j 4 := List.getElem_set_self _
  have := used_s W0 C b t (ls.set t (putK l j 4)) j (by omega)
  rw [hget, List.set_set] at this
  exact this
end Go.Proofs.Ytkcabcejnikihaa
