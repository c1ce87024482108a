/- A part of the proofs: what functions of the program do, each by its own contract; printed by a program of mine. No conditions but those that each theorem names. -/
import Derived.Test.YtofcmcgopdhfeaaS5
namespace Go.Proofs.Ytofcmcgopdhfeaa
open Eng
set_option maxRecDepth 100000
set_option maxHeartbeats 4000000

/-- The bytes of some frames, one behind the other. -/
def cat (B : List Int) (l : List Int) : List Int := l.flatMap fun f => subB B (f.toNat * 64) 64

theorem cat_nil (B : List Int) : cat B [] = [] := rfl
theorem cat_cons (B : List Int) (f : Int) (l : List Int) : cat B (f :: l) = subB B (f.toNat * 64) 64 ++ cat B l := rfl
theorem cat_append (B : List Int) (l m : List Int) : cat B (l ++ m) = cat B l ++ cat B m := by simp [cat]
theorem cat_len (B : List Int) (l : List Int) (h : ∀ f ∈ l, f.toNat * 64 + 64 ≤ B.length) : (cat B l).length = l.length * 64 := by
  induction l with
  | nil => rfl
  | cons a r ih =>
    rw [cat_cons, List.length_append, subB_len _ _ _ (h a (by simp)), ih fun f hf => h f (by simp [hf]), List.length_cons]
    omega
theorem cat_congr {B B' : List Int} {l : List Int} (h : ∀ f ∈ l, subB B' (f.toNat * 64) 64 = subB B (f.toNat * 64) 64) : cat B' l = cat B l := by
  induction l with
  | nil => rfl
  | cons a r ih => rw [cat_cons, cat_cons, h a (by simp), ih fun f hf => h f (by simp [hf])]

theorem putB_left (X Y : List Int) (p : Nat) (ys : List Int) (h : p + ys.length ≤ X.length) : putB (X ++ Y) p ys = putB X p ys ++ Y := by
  unfold putB
  rw [List.take_append_of_le_length (by omega), List.drop_append_of_le_length h]
  simp
theorem putB_right (X Y : List Int) (p : Nat) (ys : List Int) : putB (X ++ Y) (X.length + p) ys = X ++ putB Y p ys := by
  unfold putB
  rw [List.take_append, List.drop_append]
  have h1 : List.take (X.length + p) X = X := List.take_of_length_le (by omega)
  have h2 : List.drop (X.length + p + ys.length) X = [] := List.drop_of_length_le (by omega)
  rw [h1, h2, show X.length + p - X.length = p by omega, show X.length + p + ys.length - X.length = p + ys.length by omega]
  simp

/-- A piece written into a frame of the list. -/
theorem cat_put (B : List Int) (ys : List Int) (o : Nat) (ho : o + ys.length ≤ 64) : ∀ (l : List Int) (j : Nat) (hj : j < l.length), l.Nodup → (∀ f ∈ l, 0 ≤ f ∧ f.toNat * 64 + 64 ≤ B.length) → cat (putB B (l[j].toNat * 64 + o) ys) l = putB (cat B l) (j * 64 + o) ys
  | [], j, hj, _, _ => by simp at hj
  | a :: r, 0, _, hn, hr => by
    have ha := hr a (by simp)
    simp only [List.getElem_cons_zero, cat_cons, Nat.zero_mul, Nat.zero_add]
    rw [sub_put_same B a.toNat o ys ho ha.2, putB_left _ _ _ _ (by rw [subB_len _ _ _ ha.2]; exact ho)]
    congr 1
    refine cat_congr fun f hf => sub_put_other B a.toNat f.toNat o ys ?_ ho ha.2
    intro e
    have hne : a ≠ f := fun e => (List.nodup_cons.1 hn).1 (e ▸ hf)
    have := hr f (by simp [hf])
    omega
  | a :: r, j + 1, hj, hn, hr => by
    have ha := hr a (by simp)
    have hjr : j < r.length := by simpa using hj
    have hm := List.getElem_mem hjr
    have hrj := hr r[j] (by simp [hm])
    have hne : a ≠ r[j] := fun e => (List.nodup_cons.1 hn).1 (e ▸ hm)
    simp only [List.getElem_cons_succ, cat_cons]
    rw [sub_put_other B r[j].toNat a.toNat o ys (by omega) ho hrj.2, cat_put B ys o ho r j hjr (List.nodup_cons.1 hn).2 fun f hf => hr f (by simp [hf])]
    have := putB_right (subB B (a.toNat * 64) 64) (cat B r) (j * 64 + o) ys
    rw [subB_len _ _ _ ha.2] at this
    rw [← this]
    congr 1; omega
theorem cat_put_other (B : List Int) (ys : List Int) (o : Nat) (ho : o + ys.length ≤ 64) (f : Int) (hf : 0 ≤ f ∧ f.toNat * 64 + 64 ≤ B.length) (l : List Int) (hl : f ∉ l) (hr : ∀ g ∈ l, 0 ≤ g) : cat (putB B (f.toNat * 64 + o) ys) l = cat B l :=
  cat_congr fun g hg => sub_put_other B f.toNat g.toNat o ys (by
    have := hr g hg
    have : f ≠ g := fun e => hl (e ▸ hg)
    omega) ho hf.2

/-- A piece of a frame of the list. -/
theorem cat_sub (B : List Int) (o k : Nat) (ho : o + k ≤ 64) : ∀ (l : List Int) (j : Nat) (hj : j < l.length), (∀ f ∈ l, f.toNat * 64 + 64 ≤ B.length) → subB B (l[j].toNat * 64 + o) k = subB (cat B l) (j * 64 + o) k
  | [], j, hj, _ => by simp at hj
  | a :: r, 0, _, hr => by
    have ha := hr a (by simp)
    simp only [List.getElem_cons_zero, cat_cons, Nat.zero_mul, Nat.zero_add]
    rw [← sub_sub B a.toNat o k ho]
    apply List.ext_getElem?
    intro q
    rw [sub_get _ o k q, sub_get (_ ++ _) o k q]
    have hl := subB_len B (a.toNat * 64) 64 ha
    split
    · rw [List.getElem?_append_left (by omega)]
    · rfl
  | a :: r, j + 1, hj, hr => by
    have ha := hr a (by simp)
    have hjr : j < r.length := by simpa using hj
    simp only [List.getElem_cons_succ, cat_cons]
    rw [cat_sub B o k ho r j hjr fun f hf => hr f (by simp [hf])]
    apply List.ext_getElem?
    intro q
    rw [sub_get, sub_get]
    have hl := subB_len B (a.toNat * 64) 64 ha
    split
    · rw [List.getElem?_append_right (by omega), hl]; congr 1; omega
    · rfl

theorem sub_step (X : List Int) (p a b : Nat) : subB X p a ++ subB X (p + a) b = subB X p (a + b) ∨ X.length < p + a := by
  rcases Nat.lt_or_ge X.length (p + a) with h | h
  · exact .inr h
  left
  have hl := subB_len X p a h
  apply List.ext_getElem?
  intro q
  by_cases hq : q < a
  · rw [List.getElem?_append_left (by omega), sub_get, sub_get, if_pos hq, if_pos (by omega)]
  · rw [List.getElem?_append_right (by omega), hl, sub_get, sub_get]
    by_cases hq2 : q < a + b
    · rw [if_pos (by omega), if_pos hq2]; congr 1; omega
    · rw [if_neg (by omega), if_neg hq2]

theorem put_more (X : List Int) (off : Nat) (b : List Int) (d k : Nat) (hd : d + k ≤ b.length) (hX : off + b.length ≤ X.length) : putB (putB X off (b.take d)) (off + d) ((b.drop d).take k) = putB X off (b.take (d + k)) := by
  have h1 : (b.take d).length = d := by rw [List.length_take]; omega
  have h2 : ((b.drop d).take k).length = k := by rw [List.length_take, List.length_drop]; omega
  have h3 : (b.take (d + k)).length = d + k := by rw [List.length_take]; omega
  apply List.ext_getElem?
  intro q
  have e1 := put_get (putB X off (b.take d)) (off + d) ((b.drop d).take k) (by rw [putB_len _ _ _ (by omega)]; omega) q
  have e2 := put_get X off (b.take d) (by omega) q
  have e3 := put_get X off (b.take (d + k)) (by omega) q
  rw [h2] at e1
  rw [h1] at e2
  rw [h3] at e3
  rw [e1, e2, e3]
  by_cases q1 : q < off
  · rw [if_pos (show q < off + d by omega), if_pos q1, if_pos q1]
  rw [if_neg q1, if_neg q1]
  by_cases q2 : q < off + d
  · rw [if_pos q2, if_pos q2, if_pos (show q < off + (d + k) by omega), List.getElem?_take, List.getElem?_take, if_pos (show q - off < d by omega), if_pos (show q - off < d + k by omega)]
  rw [if_neg q2]
  by_cases q3 : q < off + d + k
  · rw [if_pos q3, if_pos (show q < off + (d + k) by omega), List.getElem?_take, List.getElem?_take, List.getElem?_drop, if_pos (show q - (off + d) < k by omega), if_pos (show q - off < d + k by omega)]
    congr 1; omega
  · rw [if_neg q3, if_neg (show ¬ q < off + (d + k) by omega), if_neg q2]

/-- Bytes of a file behind a write. -/
def wrB (x : List Int) (off : Nat) (b : List Int) : List Int := putB (x ++ List.replicate (max x.length (off + b.length) - x.length) 0) off b
theorem wrB_len (x : List Int) (off : Nat) (b : List Int) : (wrB x off b).length = max x.length (off + b.length) := by
  unfold wrB
  rw [putB_len _ _ _ (by rw [List.length_append, List.length_replicate]; omega), List.length_append, List.length_replicate]
  omega
/-- .. and zeros behind them. -/
theorem wrB_pad (x : List Int) (off : Nat) (b : List Int) (m : Nat) (hm : max x.length (off + b.length) ≤ m) : putB (x ++ List.replicate (m - x.length) 0) off b = wrB x off b ++ List.replicate (m - max x.length (off + b.length)) 0 := by
  unfold wrB
  rw [← putB_left _ _ _ _ (by rw [List.length_append, List.length_replicate]; omega), List.append_assoc, List.replicate_append_replicate]
  congr 3
  omega
end Go.Proofs.Ytofcmcgopdhfeaa
