/- A part of the proofs: what functions of the program do, each by its own contract; printed by a program of mine. No conditions but those that each theorem names. -/
import Derived.Test.YtofcmcgopdhfeaaS8
namespace Go.Proofs.Ytofcmcgopdhfeaa
open Eng
set_option maxRecDepth 100000
set_option maxHeartbeats 4000000

/-- A file: its number, its bytes, its frames. -/
structure FA where
  id : Int
  bytes : List Int
  l : List Int
/-- A store. -/
structure AS where
  q : Qs
  L : List FA

/-- .. as it lies in memory. -/
structure PF where
  id : Int
  bytes : List Int
  l : List Int
  p : Nat
  born : Nat
  v : Value
  c : List Blk
def PF.fa (r : PF) : FA := ⟨r.id, r.bytes, r.l⟩
def PF.ent (r : PF) : Ent := (r.id, .pointer (some ⟨r.p, 0, none⟩), r.born)
@[reducible] def fileC (p : Nat) (n : Nat) (v : Value) : List Blk := [(p, .cells [Value.int .i64 n, v].toArray 76 (0, 0))]
def pfC (r : PF) : List Blk := fileC r.p r.bytes.length r.v ++ r.c
@[reducible] def stC (s d m : Nat) : List Blk := [(s, .cells [Value.pointer (some ⟨d, 0, none⟩), .map (some m)].toArray 71 (0, 0))]
def filesC (recs : List PF) : List Blk := (recs.map pfC).flatten

structure PFok (q : Qs) (B : List Int) (r : PF) : Prop where
  sl : Slc 3 1 r.v r.l.length (ints r.l) r.c
  len : r.l.length = (r.bytes.length + 63) / 64
  small : r.bytes.length ≤ 512
  lk : LOk q r.l
  cat : cat B r.l = r.bytes ++ List.replicate (r.l.length * 64 - r.bytes.length) 0

def lsum : List PF → Nat
  | [] => 0
  | r :: x => r.l.length + lsum x
theorem lsum_append (a b : List PF) : lsum (a ++ b) = lsum a + lsum b := by
  induction a with
  | nil => simp [lsum]
  | cons x r ih => simp only [List.cons_append, lsum, ih]; omega

structure STok (q : Qs) (B : List Int) (recs : List PF) : Prop where
  each : ∀ r ∈ recs, PFok q B r
  apart : recs.Pairwise fun a b => ∀ f ∈ a.l, f ∉ b.l
  ids : recs.Pairwise fun a b => a.id ≠ b.id
  pos : ∀ r ∈ recs, 0 ≤ r.id
  sum : freeN q + lsum recs = q.n

def ST (s d : Nat) (A : AS) (c : List Blk) : Prop :=
  ∃ B m clock recs fc, c = stC s d m ++ mapC m (recs.map PF.ent) clock ++ fc ++ filesC recs ∧ FM d A.q B fc ∧ A.L = recs.map PF.fa ∧ STok A.q B recs

/-! ### One of the files -/

def atF (id : Int) : List FA → Option FA
  | [] => none
  | x :: r => if x.id = id then some x else atF id r
def updF (id : Int) (y : FA) : List FA → List FA
  | [] => []
  | x :: r => if x.id = id then y :: r else x :: updF id y r
def delF (id : Int) : List FA → List FA
  | [] => []
  | x :: r => if x.id = id then r else x :: delF id r

inductive Found (id : Int) (recs : List PF) : Prop
  | no (h : ∀ r ∈ recs, r.id ≠ id) (hm : mval id (recs.map PF.ent) = none) (ha : atF id (recs.map PF.fa) = none) : Found id recs
  | yes (r1 : List PF) (r : PF) (r2 : List PF) (e : recs = r1 ++ r :: r2) (hid : r.id = id) (h1 : ∀ x ∈ r1, x.id ≠ id) (hm : mval id (recs.map PF.ent) = some (.pointer (some ⟨r.p, 0, none⟩))) (ha : atF id (recs.map PF.fa) = some r.fa) : Found id recs

theorem mval_cons (id : Int) (p : Ent) (E : List Ent) : mval id (p :: E) = if id = p.1 then some p.2.1 else mval id E := by
  have key : ∀ (E : List Ent) (i : Nat), (mfind id E i).map (·.2) = mval id E := by
    intro E
    induction E with
    | nil => intro i; rfl
    | cons a r ih =>
      intro i
      unfold mval mfind
      by_cases h : id = a.1
      · rw [if_pos h, if_pos h]; rfl
      · rw [if_neg h, if_neg h, ih, ih]
  have h0 : mval id (p :: E) = (if id = p.1 then some (0, p.2.1) else mfind id E 1).map (·.2) := rfl
  rw [h0]
  by_cases h : id = p.1
  · rw [if_pos h, if_pos h]; rfl
  · rw [if_neg h, if_neg h, key]

theorem found (id : Int) : ∀ recs : List PF, Found id recs
  | [] => .no (by simp) rfl rfl
  | a :: r => by
    by_cases h : a.id = id
    · refine .yes [] a r rfl h (by simp) ?_ ?_
      · rw [List.map_cons, mval_cons, if_pos (by rw [← h]; rfl)]; rfl
      · simp only [List.map_cons, atF]; rw [if_pos (by rw [← h]; rfl)]
    · have hm : mval id ((a :: r).map PF.ent) = mval id (r.map PF.ent) := by
        rw [List.map_cons, mval_cons, if_neg (fun e => h e.symm)]
      have ha : atF id ((a :: r).map PF.fa) = atF id (r.map PF.fa) := by
        simp only [List.map_cons, atF]; rw [if_neg (show ¬ a.fa.id = id from h)]
      rcases found id r with ⟨h1, h2, h3⟩ | ⟨r1, x, r2, e, hid, h1, h2, h3⟩
      · refine .no (fun x hx => ?_) (hm.trans h2) (ha.trans h3)
        rcases List.mem_cons.1 hx with rfl | hx
        · exact h
        · exact h1 x hx
      · refine .yes (a :: r1) x r2 (by rw [e]; rfl) hid (fun y hy => ?_) (hm.trans h2) (ha.trans h3)
        rcases List.mem_cons.1 hy with rfl | hy
        · exact h
        · exact h1 y hy

theorem upd_at (id : Int) (y : FA) (r1 : List PF) (r : PF) (r2 : List PF) (hid : r.id = id) (h1 : ∀ x ∈ r1, x.id ≠ id) : updF id y ((r1 ++ r :: r2).map PF.fa) = r1.map PF.fa ++ y :: r2.map PF.fa := by
  induction r1 with
  | nil => simp only [List.nil_append, List.map_cons, updF, List.map_nil]; rw [if_pos (by rw [← hid]; rfl)]
  | cons a x ih =>
    simp only [List.cons_append, List.map_cons, updF]
    rw [if_neg (show ¬ a.fa.id = id from h1 a (by simp)), ih fun x hx => h1 x (by simp [hx])]
theorem del_at (id : Int) (r1 : List PF) (r : PF) (r2 : List PF) (hid : r.id = id) (h1 : ∀ x ∈ r1, x.id ≠ id) : delF id ((r1 ++ r :: r2).map PF.fa) = (r1 ++ r2).map PF.fa := by
  induction r1 with
  | nil => simp only [List.nil_append, List.map_cons, delF]; rw [if_pos (by rw [← hid]; rfl)]
  | cons a x ih =>
    simp only [List.cons_append, List.map_cons, delF]
    rw [if_neg (show ¬ a.fa.id = id from h1 a (by simp)), ih fun x hx => h1 x (by simp [hx])]
theorem mdel_at (id : Int) (r1 : List PF) (r : PF) (r2 : List PF) (hid : r.id = id) (h1 : ∀ x ∈ r1, x.id ≠ id) : mdel id ((r1 ++ r :: r2).map PF.ent) = (r1 ++ r2).map PF.ent := by
  induction r1 with
  | nil => simp only [List.nil_append, List.map_cons, mdel]; rw [if_pos (by rw [← hid]; rfl)]
  | cons a x ih =>
    simp only [List.cons_append, List.map_cons, mdel]
    rw [if_neg (fun e => h1 a (by simp) e.symm), ih fun x hx => h1 x (by simp [hx])]

theorem files_split (r1 : List PF) (r : PF) (r2 : List PF) : filesC (r1 ++ r :: r2) = filesC r1 ++ (fileC r.p r.bytes.length r.v ++ r.c) ++ filesC r2 := by
  simp [filesC, pfC]
theorem st_open (a b c e : List Blk) (C : Heap) : Weak ((a ++ b ++ c ++ e) :: C) (a :: b :: c :: e :: C) := ⟨[], by simp⟩
theorem st_shut (a b c e : List Blk) (C : Heap) : Weak (a :: b :: c :: e :: C) ((a ++ b ++ c ++ e) :: C) := ⟨[], by simp⟩
/-- All parts, one of the files by itself. -/
theorem st_open1 (a b c : List Blk) (r1 : List PF) (r : PF) (r2 : List PF) (C : Heap) : Weak ((a ++ b ++ c ++ filesC (r1 ++ r :: r2)) :: C) (a :: b :: c :: fileC r.p r.bytes.length r.v :: r.c :: filesC r1 :: filesC r2 :: C) := by
  rw [files_split]
  refine ⟨[], ?_⟩
  simp only [List.flatten_cons, List.append_assoc, List.append_nil]
  refine List.Perm.append_left a (List.Perm.append_left b (List.Perm.append_left c ?_))
  rw [← List.append_assoc (filesC r1), ← List.append_assoc r.c, ← List.append_assoc (fileC r.p r.bytes.length r.v) r.c]
  have h : (filesC r1 ++ (fileC r.p r.bytes.length r.v ++ (r.c ++ (filesC r2 ++ C.flatten)))).Perm (fileC r.p r.bytes.length r.v ++ (r.c ++ (filesC r1 ++ (filesC r2 ++ C.flatten)))) := by
    rw [← List.append_assoc (fileC r.p r.bytes.length r.v) r.c, ← List.append_assoc (fileC r.p r.bytes.length r.v) r.c]
    exact List.perm_append_comm_assoc _ _ _
  simpa only [List.append_assoc] using h
theorem st_shut1 (a b c : List Blk) (r1 : List PF) (r : PF) (r2 : List PF) (C : Heap) : Weak (a :: b :: c :: fileC r.p r.bytes.length r.v :: r.c :: filesC r1 :: filesC r2 :: C) ((a ++ b ++ c ++ filesC (r1 ++ r :: r2)) :: C) := by
  rw [files_split]
  refine ⟨[], ?_⟩
  simp only [List.flatten_cons, List.append_assoc, List.append_nil]
  refine List.Perm.append_left a (List.Perm.append_left b (List.Perm.append_left c ?_))
  have h : (fileC r.p r.bytes.length r.v ++ (r.c ++ (filesC r1 ++ (filesC r2 ++ C.flatten)))).Perm (filesC r1 ++ (fileC r.p r.bytes.length r.v ++ (r.c ++ (filesC r2 ++ C.flatten)))) := by
    rw [← List.append_assoc (fileC r.p r.bytes.length r.v) r.c, ← List.append_assoc (fileC r.p r.bytes.length r.v) r.c]
    exact List.perm_append_comm_assoc _ _ _
  simpa only [List.append_assoc] using h
end Go.Proofs.Ytofcmcgopdhfeaa
