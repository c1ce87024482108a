/- A part of the proofs: what functions of the program do, each by its own contract; printed by a program of mine. No conditions but those that each theorem names. -/
import Derived.Test.YtofcmcgopdhfeaaS4
namespace Go.Proofs.Ytofcmcgopdhfeaa
open Eng
set_option maxRecDepth 100000
set_option maxHeartbeats 4000000

theorem sub_get (B : List Int) (j k q : Nat) : (subB B j k)[q]? = if q < k then B[j + q]? else none := by
  unfold subB
  rw [List.getElem?_take, List.getElem?_drop]
theorem put_get (B : List Int) (p : Nat) (ys : List Int) (h : p + ys.length ≤ B.length) (q : Nat) : (putB B p ys)[q]? = if q < p then B[q]? else if q < p + ys.length then ys[q - p]? else B[q]? := by
  unfold putB
  have hl : (B.take p).length = p := by rw [List.length_take]; omega
  by_cases h1 : q < p
  · rw [if_pos h1, List.append_assoc, List.getElem?_append_left (by omega), List.getElem?_take, if_pos h1]
  rw [if_neg h1]
  by_cases h2 : q < p + ys.length
  · rw [if_pos h2, List.getElem?_append_left (by rw [List.length_append]; omega), List.getElem?_append_right (by omega), hl]
  · rw [if_neg h2, List.getElem?_append_right (by rw [List.length_append]; omega), List.length_append, hl, List.getElem?_drop]
    congr 1; omega
theorem zero_put (B : List Int) (i : Nat) : zeroAt B i = putB B (i * 64 + 0) (List.replicate 64 0) := by simp [zeroAt, putB]

theorem sub_put_other (B : List Int) (i j o : Nat) (ys : List Int) (hij : i ≠ j) (ho : o + ys.length ≤ 64) (hB : i * 64 + 64 ≤ B.length) : subB (putB B (i * 64 + o) ys) (j * 64) 64 = subB B (j * 64) 64 := by
  apply List.ext_getElem?
  intro q
  rw [sub_get, sub_get]
  by_cases hq : q < 64
  · rw [if_pos hq, if_pos hq, put_get _ _ _ (by omega)]
    rcases Nat.lt_or_gt_of_ne hij with h | h
    · rw [if_neg (by omega), if_neg (by omega)]
    · rw [if_pos (by omega)]
  · rw [if_neg hq, if_neg hq]
theorem sub_put_same (B : List Int) (i o : Nat) (ys : List Int) (ho : o + ys.length ≤ 64) (hB : i * 64 + 64 ≤ B.length) : subB (putB B (i * 64 + o) ys) (i * 64) 64 = putB (subB B (i * 64) 64) o ys := by
  have hs := subB_len B (i * 64) 64 hB
  apply List.ext_getElem?
  intro q
  rw [sub_get, put_get _ _ _ (by omega), put_get _ _ _ (by omega), sub_get]
  by_cases hq : q < 64
  · rw [if_pos hq, if_pos hq]
    by_cases h1 : q < o
    · rw [if_pos h1, if_pos (by omega)]
    rw [if_neg h1, if_neg (by omega)]
    by_cases h2 : q < o + ys.length
    · rw [if_pos h2, if_pos (by omega)]; congr 1; omega
    · rw [if_neg h2, if_neg (by omega)]
  · rw [if_neg hq, if_neg (by omega), if_neg (by omega), if_neg hq]
theorem sub_zero_same (B : List Int) (i : Nat) (hB : i * 64 + 64 ≤ B.length) : subB (zeroAt B i) (i * 64) 64 = List.replicate 64 0 := by
  rw [zero_put, sub_put_same B i 0 _ (by simp) hB]
  have hs := subB_len B (i * 64) 64 hB
  unfold putB
  rw [List.take_zero, List.drop_of_length_le (by simp; omega)]
  simp
theorem sub_zero_other (B : List Int) (i j : Nat) (hij : i ≠ j) (hB : i * 64 + 64 ≤ B.length) : subB (zeroAt B i) (j * 64) 64 = subB B (j * 64) 64 := by
  rw [zero_put, sub_put_other B i j 0 _ hij (by simp) hB]
theorem sub_sub (B : List Int) (j o k : Nat) (h : o + k ≤ 64) : subB (subB B (j * 64) 64) o k = subB B (j * 64 + o) k := by
  apply List.ext_getElem?
  intro q
  rw [sub_get, sub_get, sub_get]
  by_cases hq : q < k
  · rw [if_pos hq, if_pos hq, if_pos (by omega)]; congr 1; omega
  · rw [if_neg hq, if_neg hq]

/-- The reference's frames' bytes: those of who is taken. -/
structure RB (W0 : World) (n : Nat) (tk : List Bool) (vs : List Value) (B : List Int) (E : List Blk) : Prop where
  len : vs.length = n
  one : ∀ v ∈ vs, v.oneCell' = true
  rd : ∀ (i : Nat) (h : i < vs.length), tk.getD i false = true → RdS W0 (E :: []) 1 vs[i] 64 (u8s (subB B (i * 64) 64))

theorem RB.put {W0 : World} {n : Nat} {tk : List Bool} {vs : List Value} {B B' : List Int} {E : List Blk} (h : RB W0 n tk vs B E) (htk : tk.length = n) (i : Nat) (hi : i < n) (v : Value) (c : List Blk)
    (hv : RdS W0 (c :: []) 1 v 64 (u8s (subB B' (i * 64) 64))) (ho : ∀ j, i ≠ j → subB B' (j * 64) 64 = subB B (j * 64) 64) : RB W0 n (tk.set i true) (vs.set i v) B' (c ++ E) := by
  have hone : v.oneCell' = true := by obtain ⟨ao, cap, rfl, _⟩ := hv.form; rfl
  refine ⟨by rw [List.length_set]; exact h.len, fun u hu => ?_, fun j hj ht => ?_⟩
  · rcases List.mem_or_eq_of_mem_set hu with hu | rfl
    · exact h.one u hu
    · exact hone
  · rw [List.length_set] at hj
    by_cases hij : i = j
    · subst hij
      rw [List.getElem_set_self]
      exact hv.mono ((Weak.part c E []).trans (((Weak.all _).cons c)))
    · rw [List.getElem_set_ne hij, ho j hij]
      refine (h.rd j hj ?_).mono ((Weak.part c E []).trans (Weak.skip _ _))
      have hjt : j < tk.length := by rw [htk, ← h.len]; exact hj
      simpa [List.getD, hjt, hij] using ht

theorem RB.give {W0 : World} {n : Nat} {tk : List Bool} {vs : List Value} {B : List Int} {E : List Blk} (h : RB W0 n tk vs B E) (i : Nat) : RB W0 n (tk.set i false) vs B E := by
  refine ⟨h.len, h.one, fun j hj ht => h.rd j hj ?_⟩
  by_cases hij : i = j
  · subst hij
    by_cases hl : i < tk.length
    · simp [List.getD, hl] at ht
    · simp [List.getD, hl] at ht
  · by_cases hl : j < tk.length
    · simpa [List.getD, hl, hij] using ht
    · simp [List.getD, hl] at ht
end Go.Proofs.Ytofcmcgopdhfeaa
