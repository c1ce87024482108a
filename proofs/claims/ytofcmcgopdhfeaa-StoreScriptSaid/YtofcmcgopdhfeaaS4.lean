/- A part of the proofs: what functions of the program do, each by its own contract; printed by a program of mine. No conditions but those that each theorem names. -/
import Derived.Test.YtofcmcgopdhfeaaS3
namespace Go.Proofs.Ytofcmcgopdhfeaa
open Eng
set_option maxRecDepth 100000
set_option maxHeartbeats 4000000

/-- Frames but for their bytes: how many; how many ever were taken; what was given back, the last one first to go; who is taken. -/
structure Qs where
  n : Nat
  fresh : Nat
  fs : List Int
  tk : List Bool

structure QOk (q : Qs) : Prop where
  n1 : 1 ≤ q.n
  n2 : q.n ≤ 64
  fr : q.fresh ≤ q.n
  tk : q.tk.length = q.n
  fsr : ∀ i ∈ q.fs, 0 ≤ i ∧ i < q.fresh
  fst : ∀ i ∈ q.fs, q.tk.getD i.toNat false = false
  nd : q.fs.Nodup
  up : ∀ i, q.fresh ≤ i → q.tk.getD i false = false

theorem nodup_len : ∀ (m : Nat) (l : List Int), l.Nodup → (∀ i ∈ l, 0 ≤ i ∧ i < m) → l.length ≤ m
  | 0, l, _, hr => by
    cases l with
    | nil => exact Nat.le_refl 0
    | cons a r => have := hr a (by simp); omega
  | m + 1, l, hn, hr => by
    by_cases hm : (m : Int) ∈ l
    · have h1 := nodup_len m (l.erase m) (hn.erase _) (fun i hi => by
        have h2 := (hn.mem_erase_iff).1 hi
        have := hr i h2.2
        omega)
      rw [List.length_erase_of_mem hm] at h1
      omega
    · have h1 := nodup_len m l hn (fun i hi => by
        have := hr i hi
        have : i ≠ m := fun e => hm (e ▸ hi)
        omega)
      omega
theorem QOk.len {q : Qs} (h : QOk q) : q.fs.length ≤ q.fresh := nodup_len _ _ h.nd h.fsr

def takeI (q : Qs) : Nat := match q.fs.getLast? with
  | some i => i.toNat
  | none => q.fresh
def takeQ (q : Qs) : Qs := ⟨q.n, bif q.fs.isEmpty then q.fresh + 1 else q.fresh, q.fs.dropLast, q.tk.set (takeI q) true⟩
def giveQ (q : Qs) (i : Int) : Qs := ⟨q.n, q.fresh, q.fs ++ [i], q.tk.set i.toNat false⟩
def freeN (q : Qs) : Nat := q.fs.length + q.n - q.fresh

theorem getD_set (l : List Bool) (i j : Nat) (b : Bool) (h : i < l.length) : (l.set i b).getD j false = if i = j then b else l.getD j false := by
  simp only [List.getD, List.getElem?_set]
  by_cases hij : i = j
  · subst hij; simp [h]
  · simp [hij]

theorem takeI_lt {q : Qs} (h : QOk q) (hf : 0 < freeN q) : takeI q < q.n ∧ q.tk.getD (takeI q) false = false := by
  unfold takeI
  cases hl : q.fs.getLast? with
  | none =>
    have : q.fs = [] := List.getLast?_eq_none_iff.1 hl
    unfold freeN at hf
    rw [this] at hf
    simp only [List.length_nil] at hf
    have := h.fr
    exact ⟨by dsimp only; omega, h.up _ (Nat.le_refl _)⟩
  | some i =>
    have hm := List.mem_of_getLast? hl
    have h1 := h.fsr i hm
    have h2 := h.fr
    exact ⟨by dsimp only; omega, h.fst i hm⟩

theorem QOk.take {q : Qs} (h : QOk q) (hf : 0 < freeN q) : QOk (takeQ q) := by
  obtain ⟨hlt, hnt⟩ := takeI_lt h hf
  have hlt' : takeI q < q.tk.length := by rw [h.tk]; exact hlt
  have hfr := h.fr
  have hcase : (q.fs = [] ∧ takeI q = q.fresh ∧ q.fresh < q.n) ∨ ∃ r i, q.fs = r ++ [i] ∧ takeI q = i.toNat := by
    rcases List.eq_nil_or_concat q.fs with h0 | ⟨r, i, h0⟩
    · left
      refine ⟨h0, by unfold takeI; rw [h0]; rfl, ?_⟩
      unfold freeN at hf
      rw [h0] at hf
      simp only [List.length_nil] at hf
      omega
    · right
      rw [List.concat_eq_append] at h0
      exact ⟨r, i, h0, by unfold takeI; rw [h0]; simp⟩
  rcases hcase with ⟨h0, hi, hlt2⟩ | ⟨r, i, h0, hi⟩
  · refine ⟨h.n1, h.n2, ?_, ?_, ?_, ?_, ?_, ?_⟩ <;> simp only [takeQ, h0, List.isEmpty_nil, cond_true, List.dropLast_nil, List.length_set]
    · omega
    · exact h.tk
    · simp
    · simp
    · simp
    · intro j hj
      rw [getD_set _ _ _ _ hlt', if_neg (by omega)]
      exact h.up j (by omega)
  · have hnd := h.nd
    have hfsr := h.fsr
    have hfst := h.fst
    rw [h0] at hnd hfsr hfst
    have hii := hfsr i (by simp)
    refine ⟨h.n1, h.n2, ?_, ?_, ?_, ?_, ?_, ?_⟩ <;> simp only [takeQ, h0, show (r ++ [i]).isEmpty = false by cases r <;> rfl, cond_false, List.dropLast_concat, List.length_set]
    · exact h.fr
    · exact h.tk
    · exact fun j hj => hfsr j (List.mem_append_left _ hj)
    · intro j hj
      have h1 := hfsr j (List.mem_append_left _ hj)
      have hne : j ≠ i := fun e => by
        subst e
        exact (List.nodup_append.1 hnd).2.2 j hj j (by simp) rfl
      rw [getD_set _ _ _ _ hlt', if_neg (by rw [hi]; omega)]
      exact hfst j (List.mem_append_left _ hj)
    · exact (List.nodup_append.1 hnd).1
    · intro j hj
      rw [getD_set _ _ _ _ hlt', if_neg (by rw [hi]; omega)]
      exact h.up j hj

theorem QOk.give {q : Qs} (h : QOk q) (i : Int) (hi : 0 ≤ i ∧ i < q.n) (ht : q.tk.getD i.toNat false = true) : QOk (giveQ q i) := by
  have hlt' : i.toNat < q.tk.length := by rw [h.tk]; omega
  have hfr : i < q.fresh := by
    rcases (by omega : i < q.fresh ∨ (q.fresh : Int) ≤ i) with h1 | h1
    · exact h1
    · have := h.up i.toNat (by omega)
      rw [this] at ht; cases ht
  have hni : i ∉ q.fs := fun hm => by rw [h.fst i hm] at ht; cases ht
  refine ⟨h.n1, h.n2, h.fr, ?_, ?_, ?_, ?_, ?_⟩ <;> simp only [giveQ, List.length_set]
  · exact h.tk
  · intro j hj
    rcases List.mem_append.1 hj with hj | hj
    · exact h.fsr j hj
    · rw [List.mem_singleton.1 hj]; exact ⟨hi.1, hfr⟩
  · intro j hj
    rw [getD_set _ _ _ _ hlt']
    split
    · rfl
    · rcases List.mem_append.1 hj with hj | hj
      · exact h.fst j hj
      · have hj' := List.mem_singleton.1 hj
        rename_i hne
        exact absurd (by rw [hj']) hne
  · exact List.nodup_append.2 ⟨h.nd, by simp, fun a ha b hb e => by rw [List.mem_singleton.1 hb] at e; exact hni (e ▸ ha)⟩
  · intro j hj
    rw [getD_set _ _ _ _ hlt', if_neg (by omega)]
    exact h.up j hj

theorem freeN_take {q : Qs} (h : QOk q) (hf : 0 < freeN q) : freeN (takeQ q) + 1 = freeN q := by
  have hfr := h.fr
  unfold freeN takeQ at *
  cases hfs : q.fs with
  | nil => rw [hfs] at hf; simp at hf ⊢; omega
  | cons a r => simp; omega
theorem freeN_give {q : Qs} (h : QOk q) (i : Int) : freeN (giveQ q i) = freeN q + 1 := by
  have hfr := h.fr
  unfold freeN giveQ
  simp; omega

/-- Frames in memory, all of them one chunk. -/
def FM (d : Nat) (q : Qs) (B : List Int) (c : List Blk) : Prop :=
  ∃ bb bt s cc, c = frC d bb bt q.n q.fresh s ++ byC bb B ++ tkC bt q.tk ++ cc ∧ Slc 3 1 s q.fs.length (ints q.fs) cc ∧ QOk q ∧ B.length = q.n * 64

theorem fm_open (a b c e : List Blk) (C : Heap) : Weak ((a ++ b ++ c ++ e) :: C) (a :: b :: c :: e :: C) := ⟨[], by simp⟩
theorem fm_shut (a b c e : List Blk) (C : Heap) : Weak (a :: b :: c :: e :: C) ((a ++ b ++ c ++ e) :: C) := ⟨[], by simp⟩

def newQ (n : Nat) : Qs := ⟨n, 0, [], List.replicate n false⟩
theorem newQ_ok (n : Nat) (h : 1 ≤ n ∧ n ≤ 64) : QOk (newQ n) := by
  refine ⟨h.1, h.2, Nat.zero_le _, by simp [newQ], ?_, ?_, ?_, ?_⟩ <;> simp [newQ, List.getD]
  intro i
  rw [List.getElem?_replicate]
  split <;> rfl

theorem fm_new (W0 : World) (C : Heap) (n : Nat) (hn : 1 ≤ n ∧ n ≤ 64) :
    Does W0 Try.prog 11 #[.int .i64 n] C (fun v C' => ∃ d c, v = .tuple #[.pointer (some ⟨d, 0, none⟩), .int .i64 0] ∧ FM d (newQ n) (List.replicate (n * 64) 0) c ∧ C' = c :: C) :=
  (new_s W0 C n hn).post (by
    rintro v C' ⟨d, bb, bt, rfl, rfl⟩
    exact ⟨_, fm_shut _ _ _ _ _, d, _, rfl, ⟨bb, bt, .slice none 0 0, [], rfl, Slc.nil 3 1, newQ_ok n hn, by simp [newQ]⟩, rfl⟩)

theorem fm_free (W0 : World) (C : Heap) (d : Nat) (q : Qs) (B : List Int) (c : List Blk) (h : FM d q B c) :
    Gives W0 Try.prog 17 #[.pointer (some ⟨d, 0, none⟩)] (c :: C) (.int .i64 (freeN q)) := by
  obtain ⟨bb, bt, s, cc, rfl, hs, hq, hB⟩ := h
  obtain ⟨ao, cap, rfl, hc⟩ := hs.len
  have hl := hq.len
  have h1 := hq.n2
  have h2 := hq.fr
  have := free_q W0 (byC bb B :: tkC bt q.tk :: cc :: C) d bb bt q.n q.fresh ao q.fs.length cap (by omega)
  rw [show (q.fs.length : Int) + q.n - q.fresh = (freeN q : Nat) by unfold freeN; omega] at this
  exact this.mono (fm_open _ _ _ _ _)

theorem fm_take (W0 : World) (C : Heap) (d : Nat) (q : Qs) (B : List Int) (c : List Blk) (h : FM d q B c) (hf : 0 < freeN q) :
    Does W0 Try.prog 37 #[.pointer (some ⟨d, 0, none⟩)] (c :: C) (fun v C' => v = .tuple #[.int .i64 (takeI q), .int .i64 0] ∧ ∃ c', FM d (takeQ q) (zeroAt B (takeI q)) c' ∧ C' = c' :: C) := by
  obtain ⟨bb, bt, s, cc, rfl, hs, hq, hB⟩ := h
  have hq' := hq.take hf
  obtain ⟨hlt, _⟩ := takeI_lt hq hf
  have hzl := zeroAt_len B (takeI q) q.n hB hlt
  rcases List.eq_nil_or_concat q.fs with h0 | ⟨r, i, h0⟩
  · obtain ⟨ao, cap, rfl, hc⟩ := hs.len
    have hti : takeI q = q.fresh := by unfold takeI; rw [h0]; rfl
    have hlt2 : q.fresh < q.n := by rw [← hti]; exact hlt
    rw [h0] at hs
    simp only [h0, List.length_nil]
    refine (Does.weak (fm_open _ _ _ _ _) (take_fresh W0 (cc :: C) d bb bt q.n q.fresh ao cap B q.tk hq.n2 hlt2 hB hq.tk)).post ?_
    rintro v C' ⟨rfl, rfl⟩
    refine ⟨_, fm_shut _ _ _ _ _, by rw [hti], _, ⟨bb, bt, .slice ao 0 cap, cc, ?_, ?_, hq', by simpa [takeQ] using hzl⟩, rfl⟩
    · simp [takeQ, h0, hti]
    · simpa [takeQ, h0] using hs
  · rw [List.concat_eq_append] at h0
    have hti : takeI q = i.toNat := by unfold takeI; rw [h0]; simp
    have hii := hq.fsr i (by rw [h0]; simp)
    have hfl := hq.len
    have hfn := hq.n2
    have hfr := hq.fr
    rw [h0] at hs hfl
    rw [List.length_append, List.length_singleton] at hs hfl
    refine (Does.weak (fm_open _ _ _ _ _) (take_free W0 C d bb bt q.n q.fresh s r i cc B q.tk hq.n2 (by omega) hB hq.tk hs (by omega))).post ?_
    rintro v C' ⟨rfl, s', hs', rfl⟩
    refine ⟨_, fm_shut _ _ _ _ _, by rw [hti, show ((i.toNat : Nat) : Int) = i by omega], _, ⟨bb, bt, s', cc, ?_, ?_, hq', by simpa [takeQ] using hzl⟩, rfl⟩
    · simp [takeQ, h0, hti, show (r ++ [i]).isEmpty = false by cases r <;> rfl]
    · simpa [takeQ, h0] using hs'

theorem kn_taken {q : Qs} (hq : QOk q) (i : Int) (hi : 0 ≤ i ∧ i < q.n) (ht : q.tk.getD i.toNat false = true) : knF q.n q.tk i = 0 := by
  unfold knF
  rw [if_neg (by omega), ht]; rfl

theorem fm_give (W0 : World) (C : Heap) (d : Nat) (q : Qs) (B : List Int) (c : List Blk) (h : FM d q B c) (i : Int) (hi : 0 ≤ i ∧ i < q.n) (ht : q.tk.getD i.toNat false = true) :
    Does W0 Try.prog 45 #[.pointer (some ⟨d, 0, none⟩), .int .i64 i] (c :: C) (fun v C' => v = .int .i64 0 ∧ ∃ c', FM d (giveQ q i) B c' ∧ C' = c' :: C) := by
  obtain ⟨bb, bt, s, cc, rfl, hs, hq, hB⟩ := h
  have hfl := hq.len
  have hfn := hq.n2
  have hfr := hq.fr
  have hg := Does.frame (give_ok W0 C d bb bt q.n q.fresh s q.fs cc q.tk i hq.tk (kn_taken hq i hi ht) hi hs (by omega)) (byC bb B)
  refine (Does.weak ((fm_open _ _ _ _ _).trans (Weak.swap _ _ _)) hg).post ?_
  rintro v C' ⟨C'', ⟨rfl, s', c', hs', rfl⟩, rfl⟩
  refine ⟨_, (Weak.swap _ _ _).trans (fm_shut _ _ _ _ _), rfl, _, ⟨bb, bt, s', c', rfl, hs', hq.give i hi ht, by simpa [giveQ] using hB⟩, rfl⟩

theorem fm_read (W0 : World) (C : Heap) (d : Nat) (q : Qs) (B : List Int) (c : List Blk) (h : FM d q B c) (i : Int) (o k : Nat) (hi : 0 ≤ i ∧ i < q.n) (ht : q.tk.getD i.toNat false = true) (hok : o + k ≤ 64) :
    Does W0 Try.prog 42 #[.pointer (some ⟨d, 0, none⟩), .int .i64 i, .int .i64 o, .int .i64 k] (c :: C) (fun v C' => ∃ v' c', v = .tuple #[v', .int .i64 0] ∧ Slc 5 1 v' k (u8s (subB B (i.toNat * 64 + o) k)) c' ∧ C' = c' :: c :: C) := by
  obtain ⟨bb, bt, s, cc, rfl, hs, hq, hB⟩ := h
  have hpc : pcF q.n q.tk i o k = 0 := by
    unfold pcF
    rw [show inR o k = true by simp only [inR, bs]; omega, cond_true, kn_taken hq i hi ht]
  have h1 := read_ok W0 (cc :: C) d bb bt q.n q.fresh s B q.tk i o k hq.tk hB (by omega) hpc
  simp only [Int.toNat_natCast] at h1
  refine (Does.weak (fm_open _ _ _ _ _) h1).post ?_
  rintro v C' ⟨v', c', rfl, hs', rfl⟩
  exact ⟨_, (fm_shut _ _ _ _ _).cons c', v', c', rfl, hs', rfl⟩

theorem fm_write (W0 : World) (C : Heap) (d : Nat) (q : Qs) (B : List Int) (c : List Blk) (h : FM d q B c) (i : Int) (o k : Nat) (v : Value) (ys : List Int) (hv : RdS W0 C 1 v k (u8s ys)) (hi : 0 ≤ i ∧ i < q.n) (ht : q.tk.getD i.toNat false = true) (hok : o + k ≤ 64) :
    Does W0 Try.prog 40 #[.pointer (some ⟨d, 0, none⟩), .int .i64 i, .int .i64 o, v] (c :: C) (fun v C' => v = .int .i64 0 ∧ ∃ c', FM d q (putB B (i.toNat * 64 + o) ys) c' ∧ C' = c' :: C) := by
  obtain ⟨bb, bt, s, cc, rfl, hs, hq, hB⟩ := h
  have hyl := hv.len
  rw [u8s_length] at hyl
  have hpc : pcF q.n q.tk i o k = 0 := by
    unfold pcF
    rw [show inR o k = true by simp only [inR, bs]; omega, cond_true, kn_taken hq i hi ht]
  have h1 := write_ok W0 (cc :: C) d bb bt q.n q.fresh s B q.tk i o v k ys (hv.mono ((Weak.skip _ _).trans ((Weak.skip _ _).trans ((Weak.skip _ _).trans (Weak.skip _ _))))) hq.tk hB (by omega) hpc
  simp only [Int.toNat_natCast] at h1
  refine (Does.weak (fm_open _ _ _ _ _) h1).post ?_
  rintro v C' ⟨rfl, rfl⟩
  exact ⟨_, fm_shut _ _ _ _ _, rfl, _, ⟨bb, bt, s, cc, rfl, hs, hq, by rw [putB_len _ _ _ (by omega)]; exact hB⟩, rfl⟩
end Go.Proofs.Ytofcmcgopdhfeaa
