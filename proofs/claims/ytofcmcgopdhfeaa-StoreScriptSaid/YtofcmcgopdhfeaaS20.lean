/- A part of the proofs: what functions of the program do, each by its own contract; printed by a program of mine. No conditions but those that each theorem names. -/
import Derived.Test.YtofcmcgopdhfeaaS19
import Derived.Test.YtofcmcgopdhfeaaS15
namespace Go.Proofs.Ytofcmcgopdhfeaa
open Eng
set_option maxRecDepth 100000
set_option maxHeartbeats 4000000

/-- A file of the document's store. -/
structure RF where
  id : Int
  bytes : List Int
  l : List Int
  bv : Value
  fv : Value
@[reducible] def rfL (r : RF) : List Value := [.int .i64 r.id, r.bv, r.fv]
def RF.fa (r : RF) : FA := ⟨r.id, r.bytes, r.l⟩
@[reducible] def wC (w d : Nat) (Lv : Value) : List Blk := [(w, .cells [Value.pointer (some ⟨d, 0, none⟩), Lv].toArray 51 (0, 0))]

structure RFok (W0 : World) (E : List Blk) (r : RF) : Prop where
  b : RdS W0 (E :: []) 1 r.bv r.bytes.length (u8s r.bytes)
  f : RdS W0 (E :: []) 1 r.fv r.l.length (ints r.l)
theorem RdS.one {W0 : World} {C : Heap} {sz : Nat} {v : Value} {n : Nat} {xs : List Value} (h : RdS W0 C sz v n xs) : v.oneCell' = true := by
  obtain ⟨ao, cap, rfl, _⟩ := h.form; rfl
theorem RFok.one {W0 : World} {E : List Blk} {r : RF} (h : RFok W0 E r) : (rfL r).all (·.oneCell') = true := by
  have h1 := RdS.one h.b
  have h2 := RdS.one h.f
  simp only [rfL, List.all_cons, List.all_nil, h1, h2]; rfl
theorem rf_one {W0 : World} {E : List Blk} : ∀ {recs : List RF}, (∀ r ∈ recs, RFok W0 E r) → (recs.map rfL).flatten.all (·.oneCell') = true
  | [], _ => rfl
  | a :: r, h => by
    rw [List.map_cons, List.flatten_cons, List.all_append, (h a (by simp)).one, rf_one fun x hx => h x (by simp [hx])]; rfl
theorem rf_len (recs : List RF) : (recs.map rfL).flatten.length = recs.length * 3 := flat_length (f := rfL) (fun _ => rfl) recs
theorem RFok.grow {W0 : World} {E : List Blk} {r : RF} (h : RFok W0 E r) (c : List Blk) : RFok W0 (c ++ E) r :=
  ⟨h.b.mono ((Weak.part c E []).trans (Weak.skip _ _)), h.f.mono ((Weak.part c E []).trans (Weak.skip _ _))⟩

def RS (W0 : World) (w d : Nat) (Z : AS) (c : List Blk) : Prop :=
  ∃ (Lv : Value) (cL : List Blk) (recs : List RF) (E fc : List Blk), c = wC w d Lv ++ fc ++ cL ++ E ∧ FR W0 d Z.q fc ∧ Slc 86 3 Lv recs.length (recs.map rfL).flatten cL ∧ Z.L = recs.map RF.fa ∧ ∀ r ∈ recs, RFok W0 E r
theorem rs_open (a b c e : List Blk) (C : Heap) : Weak ((a ++ b ++ c ++ e) :: C) (a :: b :: c :: e :: C) := ⟨[], by simp⟩
theorem rs_shut (a b c e : List Blk) (C : Heap) : Weak (a :: b :: c :: e :: C) ((a ++ b ++ c ++ e) :: C) := ⟨[], by simp⟩

def idxR (id : Int) : List RF → Nat → Int
  | [], _ => -1
  | r :: x, k => if r.id = id then k else idxR id x (k + 1)
inductive RFound (id : Int) (recs : List RF) : Prop
  | no (h : ∀ r ∈ recs, r.id ≠ id) (hm : idxR id recs 0 = -1) (ha : atF id (recs.map RF.fa) = none) : RFound id recs
  | yes (r1 : List RF) (r : RF) (r2 : List RF) (e : recs = r1 ++ r :: r2) (hid : r.id = id) (h1 : ∀ x ∈ r1, x.id ≠ id) (hm : idxR id recs 0 = r1.length) (ha : atF id (recs.map RF.fa) = some r.fa) : RFound id recs

theorem idxR_cons (id : Int) (r : RF) (x : List RF) (k : Nat) : idxR id (r :: x) k = if r.id = id then (k : Int) else idxR id x (k + 1) := rfl
theorem idx_shift (id : Int) : ∀ (recs : List RF) (k : Nat), (idxR id recs k = -1 ∧ idxR id recs (k + 1) = -1) ∨ (0 ≤ idxR id recs k ∧ idxR id recs (k + 1) = idxR id recs k + 1)
  | [], _ => .inl ⟨rfl, rfl⟩
  | a :: r, k => by
    unfold idxR
    by_cases h : a.id = id
    · right; rw [if_pos h, if_pos h]; omega
    · rw [if_neg h, if_neg h]; exact idx_shift id r (k + 1)
theorem rfound (id : Int) : ∀ recs : List RF, RFound id recs
  | [] => .no (by simp) rfl rfl
  | a :: r => by
    by_cases h : a.id = id
    · refine .yes [] a r rfl h (by simp) ?_ ?_
      · unfold idxR; rw [if_pos h]; rfl
      · simp only [List.map_cons, atF]; rw [if_pos (show a.fa.id = id from h)]
    · have hm : idxR id (a :: r) 0 = idxR id r 1 := by
        have : idxR id (a :: r) 0 = if a.id = id then ((0 : Nat) : Int) else idxR id r 1 := rfl
        rw [this, if_neg h]
      have ha : atF id ((a :: r).map RF.fa) = atF id (r.map RF.fa) := by
        simp only [List.map_cons, atF]; rw [if_neg (show ¬ a.fa.id = id from h)]
      have hs := idx_shift id r 0
      simp only [Nat.zero_add] at hs
      rcases rfound id r with ⟨h1, h2, h3⟩ | ⟨r1, x, r2, e, hid, h1, h2, h3⟩
      · refine .no (fun x hx => ?_) (by rw [hm]; rw [h2] at hs; omega) (ha.trans h3)
        rcases List.mem_cons.1 hx with rfl | hx
        · exact h
        · exact h1 x hx
      · refine .yes (a :: r1) x r2 (by rw [e]; rfl) hid (fun y hy => ?_) (by rw [hm]; rw [h2] at hs; simp only [List.length_cons]; omega) (ha.trans h3)
        rcases List.mem_cons.1 hy with rfl | hy
        · exact h
        · exact h1 y hy
theorem rupd_at (id : Int) (y : FA) (r1 : List RF) (r : RF) (r2 : List RF) (hid : r.id = id) (h1 : ∀ x ∈ r1, x.id ≠ id) : updF id y ((r1 ++ r :: r2).map RF.fa) = r1.map RF.fa ++ y :: r2.map RF.fa := by
  induction r1 with
  | nil => simp only [List.nil_append, List.map_cons, updF, List.map_nil]; rw [if_pos (show r.fa.id = id from hid)]
  | cons a x ih =>
    simp only [List.cons_append, List.map_cons, updF]
    rw [if_neg (show ¬ a.fa.id = id from h1 a (by simp)), ih fun x hx => h1 x (by simp [hx])]
theorem rdel_at (id : Int) (r1 : List RF) (r : RF) (r2 : List RF) (hid : r.id = id) (h1 : ∀ x ∈ r1, x.id ≠ id) : delF id ((r1 ++ r :: r2).map RF.fa) = (r1 ++ r2).map RF.fa := by
  induction r1 with
  | nil => simp only [List.nil_append, List.map_cons, delF]; rw [if_pos (show r.fa.id = id from hid)]
  | cons a x ih =>
    simp only [List.cons_append, List.map_cons, delF]
    rw [if_neg (show ¬ a.fa.id = id from h1 a (by simp)), ih fun x hx => h1 x (by simp [hx])]

/-- A file's place. -/
theorem at_q (W0 : World) (C : Heap) (w d : Nat) (Lv : Value) (cL : List Blk) (recs : List RF) (hs : Slc 86 3 Lv recs.length (recs.map rfL).flatten cL) (id : Int) (hn : recs.length ≤ 1000000) :
    Gives W0 Try.prog 43 #[.pointer (some ⟨w, 0, none⟩), .int .i64 id] (wC w d Lv :: cL :: C) (.int .i64 (idxR id recs 0)) := Gives.of fun X => by
  obtain ⟨lo, lc, rfl, hlc⟩ := hs.len
  refine Does.go Try.func43 rfl Try.results43 Try.ntmps43 rfl rfl ?_; (conv => whnf)
  repeat' (first | (with_reducible first | refine V.seq ?_ | refine V.block ?_ | refine V.ret ?_ | refine V.skip ?_ | refine V.exit ?_ | refine thenK_normal ?_ | refine thenK_ret ?_ | refine thenK_exit ?_ | refine blockK_normal ?_ | refine blockK_ret ?_ | refine blockK_here ?_ | refine loopK_ret ?_ | refine loopK_exit ?_ | refine Ops.nil ?_ | refine A.blockK_on (h := ?_)) | ((with_reducible first | refine A.drw tabOk ⟨[], [], []⟩ mixed (h := ?_) | refine A.reg tabOk (h := ?_) | refine And.intro (by omega) ?_ | refine A.load tabOk (h := ?_) | refine A.or tabOk (h := ?_) | refine A.and tabOk (h := ?_) | refine A.gopen tabOk (h := ?_) | refine A.gshutP tabOk (h := ?_) | refine A.gshutM tabOk (h := ?_) | refine A.gshutN tabOk (h := ?_) | refine A.pickT tabOk (h := ?_) | refine A.pickF tabOk (h := ?_) | refine A.gstep tabOk (h := ?_) | refine A.gload tabOk (h := ?_) | refine A.store tabOk (h := ?_) | refine A.loadL tabOk (h := ?_) | refine A.loadE tabOk (h := ?_) | refine A.storeL tabOk (h := ?_) | refine A.gloadL tabOk (h := ?_) | refine A.gloadE tabOk (h := ?_) | refine A.convS tabOk (h := ?_)); (conv => whnf)) | (with_reducible first | refine A.condT (hx := ?_) | refine A.condF (hy := ?_)) | fail)
  refine V.loop (G := {i : Nat // i ≤ recs.length ∧ idxR id (recs.drop i) i = idxR id recs 0}) (fun g => [(0, true, .pointer (some ⟨w, 0, none⟩)), (1, true, .int .i64 id), (5, true, .int .i64 g.1)]) (fun _ => X :: wC w d (.slice lo recs.length lc) :: cL :: C) (fun g => recs.length - g.1) ⟨0, by omega, rfl⟩ (by with_unfolding_all repeat (first | exact trivial | refine And.intro rfl ?_)) (Weak.refl _) ?_
  rintro ⟨i, hi, hx⟩
  dsimp only
  by_cases hlt : i < recs.length
  · obtain ⟨_, _, hform, _, hrr⟩ := (hs.rds (W0 := W0) (C := [])).form
    cases hform
    obtain ⟨lb, lf, rfl, lr⟩ := hrr (by omega)
    have q := ((lr.elem (f := rfL) (sz := 3) (fun _ => rfl) (i := i) hlt).mono (C := X :: wC w d (.slice (some ⟨lb, lf, none⟩) recs.length lc) :: cL :: C) (by first | exact Weak.refl _ | exact Weak.all _ | (repeat (first | exact Weak.refl _ | exact Weak.all _ | refine A.wpick (k := ?_) | apply Weak.drop)))).cell (j := 0) rfl
    rw [List.drop_eq_getElem_cons hlt, idxR_cons] at hx
    generalize recs[i] = r at *
    by_cases he : r.id = id
    · rw [if_pos he] at hx
      repeat' (first | (with_reducible first | refine V.seq ?_ | refine V.block ?_ | refine V.ret ?_ | refine V.skip ?_ | refine V.exit ?_ | refine thenK_normal ?_ | refine thenK_ret ?_ | refine thenK_exit ?_ | refine blockK_normal ?_ | refine blockK_ret ?_ | refine blockK_here ?_ | refine loopK_ret ?_ | refine loopK_exit ?_ | refine Ops.nil ?_ | refine A.blockK_on (h := ?_)) | ((with_reducible first | refine A.drw tabOk ⟨[], [], []⟩ mixed (h := ?_) | refine A.reg tabOk (h := ?_) | refine And.intro (by omega) ?_ | refine A.load tabOk (h := ?_) | refine A.or tabOk (h := ?_) | refine A.and tabOk (h := ?_) | refine A.gopen tabOk (h := ?_) | refine A.gshutP tabOk (h := ?_) | refine A.gshutM tabOk (h := ?_) | refine A.gshutN tabOk (h := ?_) | refine A.pickT tabOk (h := ?_) | refine A.pickF tabOk (h := ?_) | refine A.gstep tabOk (h := ?_) | refine A.gload tabOk (h := ?_) | refine A.store tabOk (h := ?_) | refine A.loadL tabOk (h := ?_) | refine A.loadE tabOk (h := ?_) | refine A.storeL tabOk (h := ?_) | refine A.gloadL tabOk (h := ?_) | refine A.gloadE tabOk (h := ?_) | refine A.convS tabOk (h := ?_)); (conv => whnf)) | (with_reducible first | refine A.condT (hx := ?_) | refine A.condF (hy := ?_)) | fail)
      exact retK_ret rfl (by first | exact Weak.refl _ | exact Weak.all _ | (repeat (first | exact Weak.refl _ | exact Weak.all _ | refine A.wpick (k := ?_) | apply Weak.drop))) ⟨by simp only [tup]; rw [hx], rfl⟩
    · rw [if_neg he] at hx
      repeat' (first | (with_reducible first | refine V.seq ?_ | refine V.block ?_ | refine V.ret ?_ | refine V.skip ?_ | refine V.exit ?_ | refine thenK_normal ?_ | refine thenK_ret ?_ | refine thenK_exit ?_ | refine blockK_normal ?_ | refine blockK_ret ?_ | refine blockK_here ?_ | refine loopK_ret ?_ | refine loopK_exit ?_ | refine Ops.nil ?_ | refine A.blockK_on (h := ?_)) | ((with_reducible first | refine A.drw tabOk ⟨[], [], []⟩ mixed (h := ?_) | refine A.reg tabOk (h := ?_) | refine And.intro (by omega) ?_ | refine A.load tabOk (h := ?_) | refine A.or tabOk (h := ?_) | refine A.and tabOk (h := ?_) | refine A.gopen tabOk (h := ?_) | refine A.gshutP tabOk (h := ?_) | refine A.gshutM tabOk (h := ?_) | refine A.gshutN tabOk (h := ?_) | refine A.pickT tabOk (h := ?_) | refine A.pickF tabOk (h := ?_) | refine A.gstep tabOk (h := ?_) | refine A.gload tabOk (h := ?_) | refine A.store tabOk (h := ?_) | refine A.loadL tabOk (h := ?_) | refine A.loadE tabOk (h := ?_) | refine A.storeL tabOk (h := ?_) | refine A.gloadL tabOk (h := ?_) | refine A.gloadE tabOk (h := ?_) | refine A.convS tabOk (h := ?_)); (conv => whnf)) | (with_reducible first | refine A.condT (hx := ?_) | refine A.condF (hy := ?_)) | fail)
      exact loopK_again ⟨i + 1, by omega, hx⟩ (by with_unfolding_all repeat (first | exact trivial | refine And.intro rfl ?_)) (Weak.refl _) (by dsimp only; omega)
  · obtain rfl : i = recs.length := by omega
    rw [List.drop_length] at hx
    have hx : (-1 : Int) = idxR id recs 0 := hx
    repeat' (first | (with_reducible first | refine V.seq ?_ | refine V.block ?_ | refine V.ret ?_ | refine V.skip ?_ | refine V.exit ?_ | refine thenK_normal ?_ | refine thenK_ret ?_ | refine thenK_exit ?_ | refine blockK_normal ?_ | refine blockK_ret ?_ | refine blockK_here ?_ | refine loopK_ret ?_ | refine loopK_exit ?_ | refine Ops.nil ?_ | refine A.blockK_on (h := ?_)) | ((with_reducible first | refine A.drw tabOk ⟨[], [], []⟩ mixed (h := ?_) | refine A.reg tabOk (h := ?_) | refine And.intro (by omega) ?_ | refine A.load tabOk (h := ?_) | refine A.or tabOk (h := ?_) | refine A.and tabOk (h := ?_) | refine A.gopen tabOk (h := ?_) | refine A.gshutP tabOk (h := ?_) | refine A.gshutM tabOk (h := ?_) | refine A.gshutN tabOk (h := ?_) | refine A.pickT tabOk (h := ?_) | refine A.pickF tabOk (h := ?_) | refine A.gstep tabOk (h := ?_) | refine A.gload tabOk (h := ?_) | refine A.store tabOk (h := ?_) | refine A.loadL tabOk (h := ?_) | refine A.loadE tabOk (h := ?_) | refine A.storeL tabOk (h := ?_) | refine A.gloadL tabOk (h := ?_) | refine A.gloadE tabOk (h := ?_) | refine A.convS tabOk (h := ?_)); (conv => whnf)) | (with_reducible first | refine A.condT (hx := ?_) | refine A.condF (hy := ?_)) | fail)
    exact retK_ret rfl (by first | exact Weak.refl _ | exact Weak.all _ | (repeat (first | exact Weak.refl _ | exact Weak.all _ | refine A.wpick (k := ?_) | apply Weak.drop))) ⟨by simp only [tup]; rw [hx], rfl⟩

/-- The cells of one of the files. -/
theorem RdL.rf {W0 : World} {C : Heap} {b off : Nat} {r1 r2 : List RF} {r : RF} (h : RdL W0 C b off ((r1 ++ r :: r2).map rfL).flatten) : RdL W0 C b (off + (r1.length : Int).toNat * 3) (rfL r) := by
  have h1 := h.elem (f := rfL) (sz := 3) (fun _ => rfl) (i := r1.length) (by simp)
  simpa using h1

theorem rs_size (W0 : World) (C : Heap) (w d : Nat) (Z : AS) (c : List Blk) (h : RS W0 w d Z c) (id : Int) (hL : Z.L.length ≤ 1000000) : Gives W0 Try.prog 33 #[.pointer (some ⟨w, 0, none⟩), .int .i64 id] (c :: C) (aSize Z id) := by
  obtain ⟨Lv, cL, recs, E, fc, rfl, hf, hs, hLL, hok⟩ := h
  have hn : recs.length ≤ 1000000 := by rw [hLL, List.length_map] at hL; exact hL
  have hat := fun C => at_q W0 C w d Lv cL recs hs id hn
  unfold aSize
  rw [hLL]
  refine Gives.mono (C' := wC w d Lv :: cL :: E :: C) (Gives.of fun X => ?_) ((rs_open _ _ _ _ _).trans (by first | exact Weak.refl _ | exact Weak.all _ | (repeat (first | exact Weak.refl _ | exact Weak.all _ | refine A.wpick (k := ?_) | apply Weak.drop))))
  rcases rfound id recs with ⟨h1, h2, h3⟩ | ⟨r1, r, r2, rfl, hid, h1, h2, h3⟩
  · rw [h3]
    rw [h2] at hat
    refine Does.go Try.func33 rfl Try.results33 Try.ntmps33 rfl rfl ?_; (conv => whnf)
    repeat' (first | (with_reducible first | refine V.seq ?_ | refine V.block ?_ | refine V.ret ?_ | refine V.skip ?_ | refine V.exit ?_ | refine thenK_normal ?_ | refine thenK_ret ?_ | refine thenK_exit ?_ | refine blockK_normal ?_ | refine blockK_ret ?_ | refine blockK_here ?_ | refine loopK_ret ?_ | refine loopK_exit ?_ | refine Ops.nil ?_ | refine A.blockK_on (h := ?_)) | ((with_reducible first | refine A.drw tabOk ⟨[], [], []⟩ mixed (h := ?_) | refine A.reg tabOk (h := ?_) | refine And.intro (by omega) ?_ | refine A.load tabOk (h := ?_) | refine A.or tabOk (h := ?_) | refine A.and tabOk (h := ?_) | refine A.gopen tabOk (h := ?_) | refine A.gshutP tabOk (h := ?_) | refine A.gshutM tabOk (h := ?_) | refine A.gshutN tabOk (h := ?_) | refine A.pickT tabOk (h := ?_) | refine A.pickF tabOk (h := ?_) | refine A.gstep tabOk (h := ?_) | refine A.gload tabOk (h := ?_) | refine A.store tabOk (h := ?_) | refine A.loadL tabOk (h := ?_) | refine A.loadE tabOk (h := ?_) | refine A.storeL tabOk (h := ?_) | refine A.gloadL tabOk (h := ?_) | refine A.gloadE tabOk (h := ?_) | refine A.convS tabOk (h := ?_)); (conv => whnf)) | (with_reducible first | refine A.condT (hx := ?_) | refine A.condF (hy := ?_)) | fail)
    (with_reducible refine A.callQ2 tabOk (hs := hat _) (h := ?_)); (conv => whnf)
    repeat' (first | (with_reducible first | refine V.seq ?_ | refine V.block ?_ | refine V.ret ?_ | refine V.skip ?_ | refine V.exit ?_ | refine thenK_normal ?_ | refine thenK_ret ?_ | refine thenK_exit ?_ | refine blockK_normal ?_ | refine blockK_ret ?_ | refine blockK_here ?_ | refine loopK_ret ?_ | refine loopK_exit ?_ | refine Ops.nil ?_ | refine A.blockK_on (h := ?_)) | ((with_reducible first | refine A.drw tabOk ⟨[], [], []⟩ mixed (h := ?_) | refine A.reg tabOk (h := ?_) | refine And.intro (by omega) ?_ | refine A.load tabOk (h := ?_) | refine A.or tabOk (h := ?_) | refine A.and tabOk (h := ?_) | refine A.gopen tabOk (h := ?_) | refine A.gshutP tabOk (h := ?_) | refine A.gshutM tabOk (h := ?_) | refine A.gshutN tabOk (h := ?_) | refine A.pickT tabOk (h := ?_) | refine A.pickF tabOk (h := ?_) | refine A.gstep tabOk (h := ?_) | refine A.gload tabOk (h := ?_) | refine A.store tabOk (h := ?_) | refine A.loadL tabOk (h := ?_) | refine A.loadE tabOk (h := ?_) | refine A.storeL tabOk (h := ?_) | refine A.gloadL tabOk (h := ?_) | refine A.gloadE tabOk (h := ?_) | refine A.convS tabOk (h := ?_)); (conv => whnf)) | (with_reducible first | refine A.condT (hx := ?_) | refine A.condF (hy := ?_)) | fail)
    exact retK_ret rfl (by first | exact Weak.refl _ | exact Weak.all _ | (repeat (first | exact Weak.refl _ | exact Weak.all _ | refine A.wpick (k := ?_) | apply Weak.drop))) ⟨rfl, rfl⟩
  · rw [h3]
    rw [h2] at hat
    obtain ⟨Lo, Lc, rfl, hLc⟩ := hs.len
    have hr := hok r (by simp)
    obtain ⟨_, _, hform, _, hrr⟩ := (hs.rds (W0 := W0) (C := [])).form
    obtain ⟨lb, lf, hlo, lr⟩ := hrr (by rw [List.length_append, List.length_cons]; omega)
    subst hlo
    cases hform
    obtain ⟨bo, bc, hbv, hbc, _⟩ := hr.b.form
    have q := ((RdL.rf lr).mono (C := X :: wC w d (.slice (some ⟨lb, lf, none⟩) (r1 ++ r :: r2).length Lc) :: cL :: E :: C) (by first | exact Weak.refl _ | exact Weak.all _ | (repeat (first | exact Weak.refl _ | exact Weak.all _ | refine A.wpick (k := ?_) | apply Weak.drop)))).cell (j := 1) rfl
    rw [hbv] at q
    have hll : (r1 ++ r :: r2).length = r1.length + (r2.length + 1) := by simp
    refine Does.go Try.func33 rfl Try.results33 Try.ntmps33 rfl rfl ?_; (conv => whnf)
    repeat' (first | (with_reducible first | refine V.seq ?_ | refine V.block ?_ | refine V.ret ?_ | refine V.skip ?_ | refine V.exit ?_ | refine thenK_normal ?_ | refine thenK_ret ?_ | refine thenK_exit ?_ | refine blockK_normal ?_ | refine blockK_ret ?_ | refine blockK_here ?_ | refine loopK_ret ?_ | refine loopK_exit ?_ | refine Ops.nil ?_ | refine A.blockK_on (h := ?_)) | ((with_reducible first | refine A.drw tabOk ⟨[], [], []⟩ mixed (h := ?_) | refine A.reg tabOk (h := ?_) | refine And.intro (by omega) ?_ | refine A.load tabOk (h := ?_) | refine A.or tabOk (h := ?_) | refine A.and tabOk (h := ?_) | refine A.gopen tabOk (h := ?_) | refine A.gshutP tabOk (h := ?_) | refine A.gshutM tabOk (h := ?_) | refine A.gshutN tabOk (h := ?_) | refine A.pickT tabOk (h := ?_) | refine A.pickF tabOk (h := ?_) | refine A.gstep tabOk (h := ?_) | refine A.gload tabOk (h := ?_) | refine A.store tabOk (h := ?_) | refine A.loadL tabOk (h := ?_) | refine A.loadE tabOk (h := ?_) | refine A.storeL tabOk (h := ?_) | refine A.gloadL tabOk (h := ?_) | refine A.gloadE tabOk (h := ?_) | refine A.convS tabOk (h := ?_)); (conv => whnf)) | (with_reducible first | refine A.condT (hx := ?_) | refine A.condF (hy := ?_)) | fail)
    (with_reducible refine A.callQ2 tabOk (hs := hat _) (h := ?_)); (conv => whnf)
    repeat' (first | (with_reducible first | refine V.seq ?_ | refine V.block ?_ | refine V.ret ?_ | refine V.skip ?_ | refine V.exit ?_ | refine thenK_normal ?_ | refine thenK_ret ?_ | refine thenK_exit ?_ | refine blockK_normal ?_ | refine blockK_ret ?_ | refine blockK_here ?_ | refine loopK_ret ?_ | refine loopK_exit ?_ | refine Ops.nil ?_ | refine A.blockK_on (h := ?_)) | ((with_reducible first | refine A.drw tabOk ⟨[], [], []⟩ mixed (h := ?_) | refine A.reg tabOk (h := ?_) | refine And.intro (by omega) ?_ | refine A.load tabOk (h := ?_) | refine A.or tabOk (h := ?_) | refine A.and tabOk (h := ?_) | refine A.gopen tabOk (h := ?_) | refine A.gshutP tabOk (h := ?_) | refine A.gshutM tabOk (h := ?_) | refine A.gshutN tabOk (h := ?_) | refine A.pickT tabOk (h := ?_) | refine A.pickF tabOk (h := ?_) | refine A.gstep tabOk (h := ?_) | refine A.gload tabOk (h := ?_) | refine A.store tabOk (h := ?_) | refine A.loadL tabOk (h := ?_) | refine A.loadE tabOk (h := ?_) | refine A.storeL tabOk (h := ?_) | refine A.gloadL tabOk (h := ?_) | refine A.gloadE tabOk (h := ?_) | refine A.convS tabOk (h := ?_)); (conv => whnf)) | (with_reducible first | refine A.condT (hx := ?_) | refine A.condF (hy := ?_)) | fail)
    exact retK_ret rfl (by first | exact Weak.refl _ | exact Weak.all _ | (repeat (first | exact Weak.refl _ | exact Weak.all _ | refine A.wpick (k := ?_) | apply Weak.drop))) ⟨rfl, rfl⟩

theorem rs_blocks (W0 : World) (C : Heap) (w d : Nat) (Z : AS) (c : List Blk) (h : RS W0 w d Z c) (id : Int) (hL : Z.L.length ≤ 1000000) (hi : AInv Z) : Gives W0 Try.prog 34 #[.pointer (some ⟨w, 0, none⟩), .int .i64 id] (c :: C) (.int .i64 (aBlocks Z id : Nat)) := by
  obtain ⟨Lv, cL, recs, E, fc, rfl, hf, hs, hLL, hok⟩ := h
  have hn : recs.length ≤ 1000000 := by rw [hLL, List.length_map] at hL; exact hL
  have hat := fun C => at_q W0 C w d Lv cL recs hs id hn
  unfold aBlocks
  rw [hLL]
  refine Gives.mono (C' := wC w d Lv :: cL :: E :: C) (Gives.of fun X => ?_) ((rs_open _ _ _ _ _).trans (by first | exact Weak.refl _ | exact Weak.all _ | (repeat (first | exact Weak.refl _ | exact Weak.all _ | refine A.wpick (k := ?_) | apply Weak.drop))))
  rcases rfound id recs with ⟨h1, h2, h3⟩ | ⟨r1, r, r2, rfl, hid, h1, h2, h3⟩
  · rw [h3]
    rw [h2] at hat
    refine Does.go Try.func34 rfl Try.results34 Try.ntmps34 rfl rfl ?_; (conv => whnf)
    repeat' (first | (with_reducible first | refine V.seq ?_ | refine V.block ?_ | refine V.ret ?_ | refine V.skip ?_ | refine V.exit ?_ | refine thenK_normal ?_ | refine thenK_ret ?_ | refine thenK_exit ?_ | refine blockK_normal ?_ | refine blockK_ret ?_ | refine blockK_here ?_ | refine loopK_ret ?_ | refine loopK_exit ?_ | refine Ops.nil ?_ | refine A.blockK_on (h := ?_)) | ((with_reducible first | refine A.drw tabOk ⟨[], [], []⟩ mixed (h := ?_) | refine A.reg tabOk (h := ?_) | refine And.intro (by omega) ?_ | refine A.load tabOk (h := ?_) | refine A.or tabOk (h := ?_) | refine A.and tabOk (h := ?_) | refine A.gopen tabOk (h := ?_) | refine A.gshutP tabOk (h := ?_) | refine A.gshutM tabOk (h := ?_) | refine A.gshutN tabOk (h := ?_) | refine A.pickT tabOk (h := ?_) | refine A.pickF tabOk (h := ?_) | refine A.gstep tabOk (h := ?_) | refine A.gload tabOk (h := ?_) | refine A.store tabOk (h := ?_) | refine A.loadL tabOk (h := ?_) | refine A.loadE tabOk (h := ?_) | refine A.storeL tabOk (h := ?_) | refine A.gloadL tabOk (h := ?_) | refine A.gloadE tabOk (h := ?_) | refine A.convS tabOk (h := ?_)); (conv => whnf)) | (with_reducible first | refine A.condT (hx := ?_) | refine A.condF (hy := ?_)) | fail)
    (with_reducible refine A.callQ2 tabOk (hs := hat _) (h := ?_)); (conv => whnf)
    repeat' (first | (with_reducible first | refine V.seq ?_ | refine V.block ?_ | refine V.ret ?_ | refine V.skip ?_ | refine V.exit ?_ | refine thenK_normal ?_ | refine thenK_ret ?_ | refine thenK_exit ?_ | refine blockK_normal ?_ | refine blockK_ret ?_ | refine blockK_here ?_ | refine loopK_ret ?_ | refine loopK_exit ?_ | refine Ops.nil ?_ | refine A.blockK_on (h := ?_)) | ((with_reducible first | refine A.drw tabOk ⟨[], [], []⟩ mixed (h := ?_) | refine A.reg tabOk (h := ?_) | refine And.intro (by omega) ?_ | refine A.load tabOk (h := ?_) | refine A.or tabOk (h := ?_) | refine A.and tabOk (h := ?_) | refine A.gopen tabOk (h := ?_) | refine A.gshutP tabOk (h := ?_) | refine A.gshutM tabOk (h := ?_) | refine A.gshutN tabOk (h := ?_) | refine A.pickT tabOk (h := ?_) | refine A.pickF tabOk (h := ?_) | refine A.gstep tabOk (h := ?_) | refine A.gload tabOk (h := ?_) | refine A.store tabOk (h := ?_) | refine A.loadL tabOk (h := ?_) | refine A.loadE tabOk (h := ?_) | refine A.storeL tabOk (h := ?_) | refine A.gloadL tabOk (h := ?_) | refine A.gloadE tabOk (h := ?_) | refine A.convS tabOk (h := ?_)); (conv => whnf)) | (with_reducible first | refine A.condT (hx := ?_) | refine A.condF (hy := ?_)) | fail)
    exact retK_ret rfl (by first | exact Weak.refl _ | exact Weak.all _ | (repeat (first | exact Weak.refl _ | exact Weak.all _ | refine A.wpick (k := ?_) | apply Weak.drop))) ⟨rfl, rfl⟩
  · rw [h3]
    rw [h2] at hat
    obtain ⟨Lo, Lc, rfl, hLc⟩ := hs.len
    have hr := hok r (by simp)
    have hin := hi.each r.fa (by rw [hLL]; simp)
    have hin1 : r.l.length = (r.bytes.length + 63) / 64 := hin.1
    have hin2 : r.bytes.length ≤ 512 := hin.2.1
    obtain ⟨_, _, hform, _, hrr⟩ := (hs.rds (W0 := W0) (C := [])).form
    obtain ⟨lb, lf, hlo, lr⟩ := hrr (by rw [List.length_append, List.length_cons]; omega)
    subst hlo
    cases hform
    obtain ⟨bo, bc, hbv, hbc, _⟩ := hr.b.form
    have q := ((RdL.rf lr).mono (C := X :: wC w d (.slice (some ⟨lb, lf, none⟩) (r1 ++ r :: r2).length Lc) :: cL :: E :: C) (by first | exact Weak.refl _ | exact Weak.all _ | (repeat (first | exact Weak.refl _ | exact Weak.all _ | refine A.wpick (k := ?_) | apply Weak.drop)))).cell (j := 1) rfl
    rw [hbv] at q
    have hll : (r1 ++ r :: r2).length = r1.length + (r2.length + 1) := by simp
    refine Does.go Try.func34 rfl Try.results34 Try.ntmps34 rfl rfl ?_; (conv => whnf)
    repeat' (first | (with_reducible first | refine V.seq ?_ | refine V.block ?_ | refine V.ret ?_ | refine V.skip ?_ | refine V.exit ?_ | refine thenK_normal ?_ | refine thenK_ret ?_ | refine thenK_exit ?_ | refine blockK_normal ?_ | refine blockK_ret ?_ | refine blockK_here ?_ | refine loopK_ret ?_ | refine loopK_exit ?_ | refine Ops.nil ?_ | refine A.blockK_on (h := ?_)) | ((with_reducible first | refine A.drw tabOk ⟨[], [], []⟩ mixed (h := ?_) | refine A.reg tabOk (h := ?_) | refine And.intro (by omega) ?_ | refine A.load tabOk (h := ?_) | refine A.or tabOk (h := ?_) | refine A.and tabOk (h := ?_) | refine A.gopen tabOk (h := ?_) | refine A.gshutP tabOk (h := ?_) | refine A.gshutM tabOk (h := ?_) | refine A.gshutN tabOk (h := ?_) | refine A.pickT tabOk (h := ?_) | refine A.pickF tabOk (h := ?_) | refine A.gstep tabOk (h := ?_) | refine A.gload tabOk (h := ?_) | refine A.store tabOk (h := ?_) | refine A.loadL tabOk (h := ?_) | refine A.loadE tabOk (h := ?_) | refine A.storeL tabOk (h := ?_) | refine A.gloadL tabOk (h := ?_) | refine A.gloadE tabOk (h := ?_) | refine A.convS tabOk (h := ?_)); (conv => whnf)) | (with_reducible first | refine A.condT (hx := ?_) | refine A.condF (hy := ?_)) | fail)
    (with_reducible refine A.callQ2 tabOk (hs := hat _) (h := ?_)); (conv => whnf)
    repeat' (first | (with_reducible first | refine V.seq ?_ | refine V.block ?_ | refine V.ret ?_ | refine V.skip ?_ | refine V.exit ?_ | refine thenK_normal ?_ | refine thenK_ret ?_ | refine thenK_exit ?_ | refine blockK_normal ?_ | refine blockK_ret ?_ | refine blockK_here ?_ | refine loopK_ret ?_ | refine loopK_exit ?_ | refine Ops.nil ?_ | refine A.blockK_on (h := ?_)) | ((with_reducible first | refine A.drw tabOk ⟨[], [], []⟩ mixed (h := ?_) | refine A.reg tabOk (h := ?_) | refine And.intro (by omega) ?_ | refine A.load tabOk (h := ?_) | refine A.or tabOk (h := ?_) | refine A.and tabOk (h := ?_) | refine A.gopen tabOk (h := ?_) | refine A.gshutP tabOk (h := ?_) | refine A.gshutM tabOk (h := ?_) | refine A.gshutN tabOk (h := ?_) | refine A.pickT tabOk (h := ?_) | refine A.pickF tabOk (h := ?_) | refine A.gstep tabOk (h := ?_) | refine A.gload tabOk (h := ?_) | refine A.store tabOk (h := ?_) | refine A.loadL tabOk (h := ?_) | refine A.loadE tabOk (h := ?_) | refine A.storeL tabOk (h := ?_) | refine A.gloadL tabOk (h := ?_) | refine A.gloadE tabOk (h := ?_) | refine A.convS tabOk (h := ?_)); (conv => whnf)) | (with_reducible first | refine A.condT (hx := ?_) | refine A.condF (hy := ?_)) | fail)
    refine retK_ret rfl (by first | exact Weak.refl _ | exact Weak.all _ | (repeat (first | exact Weak.refl _ | exact Weak.all _ | refine A.wpick (k := ?_) | apply Weak.drop))) ⟨?_, rfl⟩
    simp only [tup]
    show Value.int .i64 (((r.bytes.length : Int) + 63) / 64) = .int .i64 (r.l.length : Nat)
    rw [hin1]
    congr 1

theorem rds_head {W0 : World} {C : Heap} {a : Option Addr} {n cap k : Nat} {xs : List Value} (h : RdS W0 C 1 (.slice a n cap) n xs) (hk : k ≤ n) : RdS W0 C 1 (.slice a k cap) k (xs.take k) := by
  obtain ⟨ao, cap', h1, h2, h3⟩ := h.form
  cases h1
  refine ⟨⟨_, _, rfl, by omega, fun h0 => ?_⟩, by rw [List.length_take, h.len]; omega⟩
  obtain ⟨b, off, rfl, hr⟩ := h3 (by omega)
  exact ⟨b, off, rfl, fun j u hj => by
    rw [List.getElem?_take] at hj
    split at hj
    · exact hr j u hj
    · cases hj⟩

theorem rs_read (W0 : World) (C : Heap) (w d : Nat) (Z : AS) (c : List Blk) (h : RS W0 w d Z c) (id off n : Int) (hL : Z.L.length ≤ 1000000) (hi : AInv Z) {out : List Int} {e : Int} (he : aRead Z id off n = (out, e)) :
    Does W0 Try.prog 25 #[.pointer (some ⟨w, 0, none⟩), .int .i64 id, .int .i64 off, .int .i64 n] (c :: C) (fun v C' => ∃ ao cap cs, v = .tuple #[.slice ao out.length cap, .int .i64 e] ∧ Slc 5 1 (.slice ao out.length cap) out.length (u8s out) cs ∧ C' = cs :: c :: C) := by
  obtain ⟨Lv, cL, recs, E, fc, rfl, hf, hs, hLL, hok⟩ := h
  have hn : recs.length ≤ 1000000 := by rw [hLL, List.length_map] at hL; exact hL
  have hat := fun C => at_q W0 C w d Lv cL recs hs id hn
  unfold aRead at he
  rw [hLL] at he
  refine (Does.weak (rs_open _ _ _ _ _) (R := fun v C' => ∃ ao cap cs, v = .tuple #[.slice ao out.length cap, .int .i64 e] ∧ Slc 5 1 (.slice ao out.length cap) out.length (u8s out) cs ∧ C' = cs :: wC w d Lv :: fc :: cL :: E :: C) ?_).post (fun v C' ⟨ao, cap, cs, h1, h2, h3⟩ => ⟨_, by rw [h3]; exact (rs_shut _ _ _ _ _).cons cs, ao, cap, cs, h1, h2, rfl⟩)
  have hat := fun C => (hat C).mono (C := wC w d Lv :: cL :: C) (Weak.refl _)
  rcases rfound id recs with ⟨h1, h2, h3⟩ | ⟨r1, r, r2, rfl, hid, h1, h2, h3⟩
  · rw [h3] at he
    cases he
    rw [h2] at hat
    refine Does.go Try.func25 rfl Try.results25 Try.ntmps25 rfl rfl ?_; (conv => whnf)
    repeat' (first | (with_reducible first | refine V.seq ?_ | refine V.block ?_ | refine V.ret ?_ | refine V.skip ?_ | refine V.exit ?_ | refine thenK_normal ?_ | refine thenK_ret ?_ | refine thenK_exit ?_ | refine blockK_normal ?_ | refine blockK_ret ?_ | refine blockK_here ?_ | refine loopK_ret ?_ | refine loopK_exit ?_ | refine Ops.nil ?_ | refine A.blockK_on (h := ?_)) | ((with_reducible first | refine A.drw tabOk ⟨[], [], []⟩ mixed (h := ?_) | refine A.reg tabOk (h := ?_) | refine And.intro (by omega) ?_ | refine A.load tabOk (h := ?_) | refine A.or tabOk (h := ?_) | refine A.and tabOk (h := ?_) | refine A.gopen tabOk (h := ?_) | refine A.gshutP tabOk (h := ?_) | refine A.gshutM tabOk (h := ?_) | refine A.gshutN tabOk (h := ?_) | refine A.pickT tabOk (h := ?_) | refine A.pickF tabOk (h := ?_) | refine A.gstep tabOk (h := ?_) | refine A.gload tabOk (h := ?_) | refine A.store tabOk (h := ?_) | refine A.loadL tabOk (h := ?_) | refine A.loadE tabOk (h := ?_) | refine A.storeL tabOk (h := ?_) | refine A.gloadL tabOk (h := ?_) | refine A.gloadE tabOk (h := ?_) | refine A.convS tabOk (h := ?_)); (conv => whnf)) | (with_reducible first | refine A.condT (hx := ?_) | refine A.condF (hy := ?_)) | fail)
    (with_reducible refine A.callQ2 tabOk (hs := hat _) (h := ?_)); (conv => whnf)
    repeat' (first | (with_reducible first | refine V.seq ?_ | refine V.block ?_ | refine V.ret ?_ | refine V.skip ?_ | refine V.exit ?_ | refine thenK_normal ?_ | refine thenK_ret ?_ | refine thenK_exit ?_ | refine blockK_normal ?_ | refine blockK_ret ?_ | refine blockK_here ?_ | refine loopK_ret ?_ | refine loopK_exit ?_ | refine Ops.nil ?_ | refine A.blockK_on (h := ?_)) | ((with_reducible first | refine A.drw tabOk ⟨[], [], []⟩ mixed (h := ?_) | refine A.reg tabOk (h := ?_) | refine And.intro (by omega) ?_ | refine A.load tabOk (h := ?_) | refine A.or tabOk (h := ?_) | refine A.and tabOk (h := ?_) | refine A.gopen tabOk (h := ?_) | refine A.gshutP tabOk (h := ?_) | refine A.gshutM tabOk (h := ?_) | refine A.gshutN tabOk (h := ?_) | refine A.pickT tabOk (h := ?_) | refine A.pickF tabOk (h := ?_) | refine A.gstep tabOk (h := ?_) | refine A.gload tabOk (h := ?_) | refine A.store tabOk (h := ?_) | refine A.loadL tabOk (h := ?_) | refine A.loadE tabOk (h := ?_) | refine A.storeL tabOk (h := ?_) | refine A.gloadL tabOk (h := ?_) | refine A.gloadE tabOk (h := ?_) | refine A.convS tabOk (h := ?_)); (conv => whnf)) | (with_reducible first | refine A.condT (hx := ?_) | refine A.condF (hy := ?_)) | fail)
    exact retK_ret rfl (Weak.nil _) ⟨none, 0, [], rfl, Slc.nil 5 1, rfl⟩
  rw [h3] at he
  rw [h2] at hat
  dsimp only at he
  obtain ⟨Lo, Lc, rfl, hLc⟩ := hs.len
  have hr := hok r (by simp)
  have hin := hi.each r.fa (by rw [hLL]; simp)
  have hin2 : r.bytes.length ≤ 512 := hin.2.1
  have hll : (r1 ++ r :: r2).length = r1.length + (r2.length + 1) := by simp
  by_cases e1 : off < 0
  · rw [if_pos (.inl e1)] at he
    cases he
    refine Does.go Try.func25 rfl Try.results25 Try.ntmps25 rfl rfl ?_; (conv => whnf)
    repeat' (first | (with_reducible first | refine V.seq ?_ | refine V.block ?_ | refine V.ret ?_ | refine V.skip ?_ | refine V.exit ?_ | refine thenK_normal ?_ | refine thenK_ret ?_ | refine thenK_exit ?_ | refine blockK_normal ?_ | refine blockK_ret ?_ | refine blockK_here ?_ | refine loopK_ret ?_ | refine loopK_exit ?_ | refine Ops.nil ?_ | refine A.blockK_on (h := ?_)) | ((with_reducible first | refine A.drw tabOk ⟨[], [], []⟩ mixed (h := ?_) | refine A.reg tabOk (h := ?_) | refine And.intro (by omega) ?_ | refine A.load tabOk (h := ?_) | refine A.or tabOk (h := ?_) | refine A.and tabOk (h := ?_) | refine A.gopen tabOk (h := ?_) | refine A.gshutP tabOk (h := ?_) | refine A.gshutM tabOk (h := ?_) | refine A.gshutN tabOk (h := ?_) | refine A.pickT tabOk (h := ?_) | refine A.pickF tabOk (h := ?_) | refine A.gstep tabOk (h := ?_) | refine A.gload tabOk (h := ?_) | refine A.store tabOk (h := ?_) | refine A.loadL tabOk (h := ?_) | refine A.loadE tabOk (h := ?_) | refine A.storeL tabOk (h := ?_) | refine A.gloadL tabOk (h := ?_) | refine A.gloadE tabOk (h := ?_) | refine A.convS tabOk (h := ?_)); (conv => whnf)) | (with_reducible first | refine A.condT (hx := ?_) | refine A.condF (hy := ?_)) | fail)
    (with_reducible refine A.callQ2 tabOk (hs := hat _) (h := ?_)); (conv => whnf)
    repeat' (first | (with_reducible first | refine V.seq ?_ | refine V.block ?_ | refine V.ret ?_ | refine V.skip ?_ | refine V.exit ?_ | refine thenK_normal ?_ | refine thenK_ret ?_ | refine thenK_exit ?_ | refine blockK_normal ?_ | refine blockK_ret ?_ | refine blockK_here ?_ | refine loopK_ret ?_ | refine loopK_exit ?_ | refine Ops.nil ?_ | refine A.blockK_on (h := ?_)) | ((with_reducible first | refine A.drw tabOk ⟨[], [], []⟩ mixed (h := ?_) | refine A.reg tabOk (h := ?_) | refine And.intro (by omega) ?_ | refine A.load tabOk (h := ?_) | refine A.or tabOk (h := ?_) | refine A.and tabOk (h := ?_) | refine A.gopen tabOk (h := ?_) | refine A.gshutP tabOk (h := ?_) | refine A.gshutM tabOk (h := ?_) | refine A.gshutN tabOk (h := ?_) | refine A.pickT tabOk (h := ?_) | refine A.pickF tabOk (h := ?_) | refine A.gstep tabOk (h := ?_) | refine A.gload tabOk (h := ?_) | refine A.store tabOk (h := ?_) | refine A.loadL tabOk (h := ?_) | refine A.loadE tabOk (h := ?_) | refine A.storeL tabOk (h := ?_) | refine A.gloadL tabOk (h := ?_) | refine A.gloadE tabOk (h := ?_) | refine A.convS tabOk (h := ?_)); (conv => whnf)) | (with_reducible first | refine A.condT (hx := ?_) | refine A.condF (hy := ?_)) | fail)
    exact retK_ret rfl (Weak.nil _) ⟨none, 0, [], rfl, Slc.nil 5 1, rfl⟩
  by_cases e2 : n < 0
  · rw [if_pos (.inr e2)] at he
    cases he
    refine Does.go Try.func25 rfl Try.results25 Try.ntmps25 rfl rfl ?_; (conv => whnf)
    repeat' (first | (with_reducible first | refine V.seq ?_ | refine V.block ?_ | refine V.ret ?_ | refine V.skip ?_ | refine V.exit ?_ | refine thenK_normal ?_ | refine thenK_ret ?_ | refine thenK_exit ?_ | refine blockK_normal ?_ | refine blockK_ret ?_ | refine blockK_here ?_ | refine loopK_ret ?_ | refine loopK_exit ?_ | refine Ops.nil ?_ | refine A.blockK_on (h := ?_)) | ((with_reducible first | refine A.drw tabOk ⟨[], [], []⟩ mixed (h := ?_) | refine A.reg tabOk (h := ?_) | refine And.intro (by omega) ?_ | refine A.load tabOk (h := ?_) | refine A.or tabOk (h := ?_) | refine A.and tabOk (h := ?_) | refine A.gopen tabOk (h := ?_) | refine A.gshutP tabOk (h := ?_) | refine A.gshutM tabOk (h := ?_) | refine A.gshutN tabOk (h := ?_) | refine A.pickT tabOk (h := ?_) | refine A.pickF tabOk (h := ?_) | refine A.gstep tabOk (h := ?_) | refine A.gload tabOk (h := ?_) | refine A.store tabOk (h := ?_) | refine A.loadL tabOk (h := ?_) | refine A.loadE tabOk (h := ?_) | refine A.storeL tabOk (h := ?_) | refine A.gloadL tabOk (h := ?_) | refine A.gloadE tabOk (h := ?_) | refine A.convS tabOk (h := ?_)); (conv => whnf)) | (with_reducible first | refine A.condT (hx := ?_) | refine A.condF (hy := ?_)) | fail)
    (with_reducible refine A.callQ2 tabOk (hs := hat _) (h := ?_)); (conv => whnf)
    repeat' (first | (with_reducible first | refine V.seq ?_ | refine V.block ?_ | refine V.ret ?_ | refine V.skip ?_ | refine V.exit ?_ | refine thenK_normal ?_ | refine thenK_ret ?_ | refine thenK_exit ?_ | refine blockK_normal ?_ | refine blockK_ret ?_ | refine blockK_here ?_ | refine loopK_ret ?_ | refine loopK_exit ?_ | refine Ops.nil ?_ | refine A.blockK_on (h := ?_)) | ((with_reducible first | refine A.drw tabOk ⟨[], [], []⟩ mixed (h := ?_) | refine A.reg tabOk (h := ?_) | refine And.intro (by omega) ?_ | refine A.load tabOk (h := ?_) | refine A.or tabOk (h := ?_) | refine A.and tabOk (h := ?_) | refine A.gopen tabOk (h := ?_) | refine A.gshutP tabOk (h := ?_) | refine A.gshutM tabOk (h := ?_) | refine A.gshutN tabOk (h := ?_) | refine A.pickT tabOk (h := ?_) | refine A.pickF tabOk (h := ?_) | refine A.gstep tabOk (h := ?_) | refine A.gload tabOk (h := ?_) | refine A.store tabOk (h := ?_) | refine A.loadL tabOk (h := ?_) | refine A.loadE tabOk (h := ?_) | refine A.storeL tabOk (h := ?_) | refine A.gloadL tabOk (h := ?_) | refine A.gloadE tabOk (h := ?_) | refine A.convS tabOk (h := ?_)); (conv => whnf)) | (with_reducible first | refine A.condT (hx := ?_) | refine A.condF (hy := ?_)) | fail)
    exact retK_ret rfl (Weak.nil _) ⟨none, 0, [], rfl, Slc.nil 5 1, rfl⟩
  rw [if_neg (by omega)] at he
  have he : (if (r.bytes.length : Int) ≤ off then ([], 0) else (subB r.bytes off.toNat (min n ((r.bytes.length : Int) - off)).toNat, 0)) = (out, e) := he
  obtain ⟨_, _, hform, _, hrr⟩ := (hs.rds (W0 := W0) (C := [])).form
  obtain ⟨lb, lf, hlo, lr⟩ := hrr (by rw [List.length_append, List.length_cons]; omega)
  subst hlo
  cases hform
  have hb := hr.b
  obtain ⟨bo, bc, hbv, hbc, hbr⟩ := hb.form
  have q := ((RdL.rf lr).mono (C := wC w d (.slice (some ⟨lb, lf, none⟩) (r1 ++ r :: r2).length Lc) :: fc :: cL :: E :: C) (by first | exact Weak.refl _ | exact Weak.all _ | (repeat (first | exact Weak.refl _ | exact Weak.all _ | refine A.wpick (k := ?_) | apply Weak.drop)))).cell (j := 1) rfl
  rw [hbv] at q hb
  by_cases e3 : (r.bytes.length : Int) ≤ off
  · rw [if_pos e3] at he
    cases he
    refine Does.go Try.func25 rfl Try.results25 Try.ntmps25 rfl rfl ?_; (conv => whnf)
    repeat' (first | (with_reducible first | refine V.seq ?_ | refine V.block ?_ | refine V.ret ?_ | refine V.skip ?_ | refine V.exit ?_ | refine thenK_normal ?_ | refine thenK_ret ?_ | refine thenK_exit ?_ | refine blockK_normal ?_ | refine blockK_ret ?_ | refine blockK_here ?_ | refine loopK_ret ?_ | refine loopK_exit ?_ | refine Ops.nil ?_ | refine A.blockK_on (h := ?_)) | ((with_reducible first | refine A.drw tabOk ⟨[], [], []⟩ mixed (h := ?_) | refine A.reg tabOk (h := ?_) | refine And.intro (by omega) ?_ | refine A.load tabOk (h := ?_) | refine A.or tabOk (h := ?_) | refine A.and tabOk (h := ?_) | refine A.gopen tabOk (h := ?_) | refine A.gshutP tabOk (h := ?_) | refine A.gshutM tabOk (h := ?_) | refine A.gshutN tabOk (h := ?_) | refine A.pickT tabOk (h := ?_) | refine A.pickF tabOk (h := ?_) | refine A.gstep tabOk (h := ?_) | refine A.gload tabOk (h := ?_) | refine A.store tabOk (h := ?_) | refine A.loadL tabOk (h := ?_) | refine A.loadE tabOk (h := ?_) | refine A.storeL tabOk (h := ?_) | refine A.gloadL tabOk (h := ?_) | refine A.gloadE tabOk (h := ?_) | refine A.convS tabOk (h := ?_)); (conv => whnf)) | (with_reducible first | refine A.condT (hx := ?_) | refine A.condF (hy := ?_)) | fail)
    (with_reducible refine A.callQ2 tabOk (hs := hat _) (h := ?_)); (conv => whnf)
    repeat' (first | (with_reducible first | refine V.seq ?_ | refine V.block ?_ | refine V.ret ?_ | refine V.skip ?_ | refine V.exit ?_ | refine thenK_normal ?_ | refine thenK_ret ?_ | refine thenK_exit ?_ | refine blockK_normal ?_ | refine blockK_ret ?_ | refine blockK_here ?_ | refine loopK_ret ?_ | refine loopK_exit ?_ | refine Ops.nil ?_ | refine A.blockK_on (h := ?_)) | ((with_reducible first | refine A.drw tabOk ⟨[], [], []⟩ mixed (h := ?_) | refine A.reg tabOk (h := ?_) | refine And.intro (by omega) ?_ | refine A.load tabOk (h := ?_) | refine A.or tabOk (h := ?_) | refine A.and tabOk (h := ?_) | refine A.gopen tabOk (h := ?_) | refine A.gshutP tabOk (h := ?_) | refine A.gshutM tabOk (h := ?_) | refine A.gshutN tabOk (h := ?_) | refine A.pickT tabOk (h := ?_) | refine A.pickF tabOk (h := ?_) | refine A.gstep tabOk (h := ?_) | refine A.gload tabOk (h := ?_) | refine A.store tabOk (h := ?_) | refine A.loadL tabOk (h := ?_) | refine A.loadE tabOk (h := ?_) | refine A.storeL tabOk (h := ?_) | refine A.gloadL tabOk (h := ?_) | refine A.gloadE tabOk (h := ?_) | refine A.convS tabOk (h := ?_)); (conv => whnf)) | (with_reducible first | refine A.condT (hx := ?_) | refine A.condF (hy := ?_)) | fail)
    exact retK_ret rfl (Weak.nil _) ⟨none, 0, [], rfl, Slc.nil 5 1, rfl⟩
  rw [if_neg e3] at he
  obtain ⟨o, rfl⟩ : ∃ o : Nat, off = o := ⟨off.toNat, by omega⟩
  obtain ⟨bb, bf, rfl, hbl⟩ := hbr (by omega)
  have hcut := rds_cut hb (o := o) (k := r.bytes.length - o) (by omega)
  rw [u8s_drop, u8s_take, List.take_of_length_le (by rw [List.length_drop]; omega)] at hcut
  refine Does.go Try.func25 rfl Try.results25 Try.ntmps25 rfl rfl ?_; (conv => whnf)
  repeat' (first | (with_reducible first | refine V.seq ?_ | refine V.block ?_ | refine V.ret ?_ | refine V.skip ?_ | refine V.exit ?_ | refine thenK_normal ?_ | refine thenK_ret ?_ | refine thenK_exit ?_ | refine blockK_normal ?_ | refine blockK_ret ?_ | refine blockK_here ?_ | refine loopK_ret ?_ | refine loopK_exit ?_ | refine Ops.nil ?_ | refine A.blockK_on (h := ?_)) | ((with_reducible first | refine A.drw tabOk ⟨[], [], []⟩ mixed (h := ?_) | refine A.reg tabOk (h := ?_) | refine And.intro (by omega) ?_ | refine A.load tabOk (h := ?_) | refine A.or tabOk (h := ?_) | refine A.and tabOk (h := ?_) | refine A.gopen tabOk (h := ?_) | refine A.gshutP tabOk (h := ?_) | refine A.gshutM tabOk (h := ?_) | refine A.gshutN tabOk (h := ?_) | refine A.pickT tabOk (h := ?_) | refine A.pickF tabOk (h := ?_) | refine A.gstep tabOk (h := ?_) | refine A.gload tabOk (h := ?_) | refine A.store tabOk (h := ?_) | refine A.loadL tabOk (h := ?_) | refine A.loadE tabOk (h := ?_) | refine A.storeL tabOk (h := ?_) | refine A.gloadL tabOk (h := ?_) | refine A.gloadE tabOk (h := ?_) | refine A.convS tabOk (h := ?_)); (conv => whnf)) | (with_reducible first | refine A.condT (hx := ?_) | refine A.condF (hy := ?_)) | fail)
  (with_reducible refine A.callQ2 tabOk (hs := hat _) (h := ?_)); (conv => whnf)
  by_cases e4 : n < (r.bytes.length : Int) - o
  · obtain ⟨k, rfl⟩ : ∃ k : Nat, n = k := ⟨n.toNat, by omega⟩
    have hh := rds_head hcut (k := k) (by omega)
    rw [u8s_take] at hh
    rw [show (min (k : Int) ((r.bytes.length : Int) - o)).toNat = k by omega, Int.toNat_natCast] at he
    cases he
    have hsl := subB_len r.bytes o k (by omega)
    have hone := u8s_one ((r.bytes.drop o).take k)
    repeat' (first | (with_reducible first | refine V.seq ?_ | refine V.block ?_ | refine V.ret ?_ | refine V.skip ?_ | refine V.exit ?_ | refine thenK_normal ?_ | refine thenK_ret ?_ | refine thenK_exit ?_ | refine blockK_normal ?_ | refine blockK_ret ?_ | refine blockK_here ?_ | refine loopK_ret ?_ | refine loopK_exit ?_ | refine Ops.nil ?_ | refine A.blockK_on (h := ?_)) | ((with_reducible first | refine A.drw tabOk ⟨[], [], []⟩ mixed (h := ?_) | refine A.reg tabOk (h := ?_) | refine And.intro (by omega) ?_ | refine A.load tabOk (h := ?_) | refine A.or tabOk (h := ?_) | refine A.and tabOk (h := ?_) | refine A.gopen tabOk (h := ?_) | refine A.gshutP tabOk (h := ?_) | refine A.gshutM tabOk (h := ?_) | refine A.gshutN tabOk (h := ?_) | refine A.pickT tabOk (h := ?_) | refine A.pickF tabOk (h := ?_) | refine A.gstep tabOk (h := ?_) | refine A.gload tabOk (h := ?_) | refine A.store tabOk (h := ?_) | refine A.loadL tabOk (h := ?_) | refine A.loadE tabOk (h := ?_) | refine A.storeL tabOk (h := ?_) | refine A.gloadL tabOk (h := ?_) | refine A.gloadE tabOk (h := ?_) | refine A.convS tabOk (h := ?_)); (conv => whnf)) | (with_reducible first | refine A.condT (hx := ?_) | refine A.condF (hy := ?_)) | fail)
    rw [show ((o : Int)).toNat = o by omega, show ((k : Int)).toNat = k by omega]
    (with_reducible refine A.appendS tabOk (hs := Slc.nil 5 1) (hC := Weak.nil _) (hr := by with_unfolding_all exact hh.mono (by first | exact Weak.refl _ | exact Weak.all _ | (repeat (first | exact Weak.refl _ | exact Weak.all _ | refine A.wpick (k := ?_) | apply Weak.drop)))) (h := ?_)); intro v1 c1 hs1; refine ⟨(by with_unfolding_all first | exact Weak.refl _ | exact Weak.all _ | (repeat (first | exact Weak.refl _ | exact Weak.all _ | refine A.wpick (k := ?_) | apply Weak.drop))), ?_⟩; (conv => whnf)
    repeat' (first | (with_reducible first | refine V.seq ?_ | refine V.block ?_ | refine V.ret ?_ | refine V.skip ?_ | refine V.exit ?_ | refine thenK_normal ?_ | refine thenK_ret ?_ | refine thenK_exit ?_ | refine blockK_normal ?_ | refine blockK_ret ?_ | refine blockK_here ?_ | refine loopK_ret ?_ | refine loopK_exit ?_ | refine Ops.nil ?_ | refine A.blockK_on (h := ?_)) | ((with_reducible first | refine A.drw tabOk ⟨[], [], []⟩ mixed (h := ?_) | refine A.reg tabOk (h := ?_) | refine And.intro (by omega) ?_ | refine A.load tabOk (h := ?_) | refine A.or tabOk (h := ?_) | refine A.and tabOk (h := ?_) | refine A.gopen tabOk (h := ?_) | refine A.gshutP tabOk (h := ?_) | refine A.gshutM tabOk (h := ?_) | refine A.gshutN tabOk (h := ?_) | refine A.pickT tabOk (h := ?_) | refine A.pickF tabOk (h := ?_) | refine A.gstep tabOk (h := ?_) | refine A.gload tabOk (h := ?_) | refine A.store tabOk (h := ?_) | refine A.loadL tabOk (h := ?_) | refine A.loadE tabOk (h := ?_) | refine A.storeL tabOk (h := ?_) | refine A.gloadL tabOk (h := ?_) | refine A.gloadE tabOk (h := ?_) | refine A.convS tabOk (h := ?_)); (conv => whnf)) | (with_reducible first | refine A.condT (hx := ?_) | refine A.condF (hy := ?_)) | fail)
    obtain ⟨vo, vc, rfl, _⟩ := hs1.len
    rw [Nat.zero_add, List.nil_append] at hs1
    refine retK_ret rfl (Weak.refl _) ⟨vo, vc, c1, ?_, ?_, rfl⟩
    · rw [hsl, Nat.zero_add]; rfl
    · rw [hsl]; exact hs1
  · rw [show (min n ((r.bytes.length : Int) - o)).toNat = r.bytes.length - o by omega, Int.toNat_natCast] at he
    cases he
    have hsl := subB_len r.bytes o (r.bytes.length - o) (by omega)
    have hone := u8s_one (r.bytes.drop o)
    have hsub : subB r.bytes o (r.bytes.length - o) = r.bytes.drop o := by
      unfold subB
      rw [List.take_of_length_le (by rw [List.length_drop]; omega)]
    repeat' (first | (with_reducible first | refine V.seq ?_ | refine V.block ?_ | refine V.ret ?_ | refine V.skip ?_ | refine V.exit ?_ | refine thenK_normal ?_ | refine thenK_ret ?_ | refine thenK_exit ?_ | refine blockK_normal ?_ | refine blockK_ret ?_ | refine blockK_here ?_ | refine loopK_ret ?_ | refine loopK_exit ?_ | refine Ops.nil ?_ | refine A.blockK_on (h := ?_)) | ((with_reducible first | refine A.drw tabOk ⟨[], [], []⟩ mixed (h := ?_) | refine A.reg tabOk (h := ?_) | refine And.intro (by omega) ?_ | refine A.load tabOk (h := ?_) | refine A.or tabOk (h := ?_) | refine A.and tabOk (h := ?_) | refine A.gopen tabOk (h := ?_) | refine A.gshutP tabOk (h := ?_) | refine A.gshutM tabOk (h := ?_) | refine A.gshutN tabOk (h := ?_) | refine A.pickT tabOk (h := ?_) | refine A.pickF tabOk (h := ?_) | refine A.gstep tabOk (h := ?_) | refine A.gload tabOk (h := ?_) | refine A.store tabOk (h := ?_) | refine A.loadL tabOk (h := ?_) | refine A.loadE tabOk (h := ?_) | refine A.storeL tabOk (h := ?_) | refine A.gloadL tabOk (h := ?_) | refine A.gloadE tabOk (h := ?_) | refine A.convS tabOk (h := ?_)); (conv => whnf)) | (with_reducible first | refine A.condT (hx := ?_) | refine A.condF (hy := ?_)) | fail)
    rw [show ((o : Int)).toNat = o by omega]
    (with_reducible refine A.appendS tabOk (hs := Slc.nil 5 1) (hC := Weak.nil _) (hr := by with_unfolding_all exact hcut.mono (by first | exact Weak.refl _ | exact Weak.all _ | (repeat (first | exact Weak.refl _ | exact Weak.all _ | refine A.wpick (k := ?_) | apply Weak.drop)))) (h := ?_)); intro v1 c1 hs1; refine ⟨(by with_unfolding_all first | exact Weak.refl _ | exact Weak.all _ | (repeat (first | exact Weak.refl _ | exact Weak.all _ | refine A.wpick (k := ?_) | apply Weak.drop))), ?_⟩; (conv => whnf)
    repeat' (first | (with_reducible first | refine V.seq ?_ | refine V.block ?_ | refine V.ret ?_ | refine V.skip ?_ | refine V.exit ?_ | refine thenK_normal ?_ | refine thenK_ret ?_ | refine thenK_exit ?_ | refine blockK_normal ?_ | refine blockK_ret ?_ | refine blockK_here ?_ | refine loopK_ret ?_ | refine loopK_exit ?_ | refine Ops.nil ?_ | refine A.blockK_on (h := ?_)) | ((with_reducible first | refine A.drw tabOk ⟨[], [], []⟩ mixed (h := ?_) | refine A.reg tabOk (h := ?_) | refine And.intro (by omega) ?_ | refine A.load tabOk (h := ?_) | refine A.or tabOk (h := ?_) | refine A.and tabOk (h := ?_) | refine A.gopen tabOk (h := ?_) | refine A.gshutP tabOk (h := ?_) | refine A.gshutM tabOk (h := ?_) | refine A.gshutN tabOk (h := ?_) | refine A.pickT tabOk (h := ?_) | refine A.pickF tabOk (h := ?_) | refine A.gstep tabOk (h := ?_) | refine A.gload tabOk (h := ?_) | refine A.store tabOk (h := ?_) | refine A.loadL tabOk (h := ?_) | refine A.loadE tabOk (h := ?_) | refine A.storeL tabOk (h := ?_) | refine A.gloadL tabOk (h := ?_) | refine A.gloadE tabOk (h := ?_) | refine A.convS tabOk (h := ?_)); (conv => whnf)) | (with_reducible first | refine A.condT (hx := ?_) | refine A.condF (hy := ?_)) | fail)
    obtain ⟨vo, vc, rfl, _⟩ := hs1.len
    rw [Nat.zero_add, List.nil_append] at hs1
    refine retK_ret rfl (Weak.refl _) ⟨vo, vc, c1, ?_, ?_, rfl⟩
    · rw [hsl, Nat.zero_add]; rfl
    · rw [hsl, hsub]; exact hs1

theorem rs_make (W0 : World) (C : Heap) (w d : Nat) (Z : AS) (c : List Blk) (h : RS W0 w d Z c) (id : Int) (hL : Z.L.length ≤ 1000000) (hi : AInv Z) {e : Int} {Z' : AS} (he : aMake Z id = (e, Z')) :
    Does W0 Try.prog 22 #[.pointer (some ⟨w, 0, none⟩), .int .i64 id] (c :: C) (fun v C' => v = .int .i64 e ∧ ∃ c', RS W0 w d Z' c' ∧ C' = c' :: C) := by
  have hRS := h
  obtain ⟨Lv, cL, recs, E, fc, hc0, hf, hs, hLL, hok⟩ := h
  have hn : recs.length ≤ 1000000 := by rw [hLL, List.length_map] at hL; exact hL
  have hat := fun C => at_q W0 C w d Lv cL recs hs id hn
  unfold aMake at he
  by_cases h0 : id < 0
  · rw [if_pos h0] at he
    cases he
    refine (Gives.mono (C' := []) (Gives.of fun X => ?_) (Weak.all _)).spec.mono (fun v C' hv => ⟨hv.1, c, hRS, hv.2⟩)
    refine Does.go Try.func22 rfl Try.results22 Try.ntmps22 rfl rfl ?_; (conv => whnf)
    repeat' (first | (with_reducible first | refine V.seq ?_ | refine V.block ?_ | refine V.ret ?_ | refine V.skip ?_ | refine V.exit ?_ | refine thenK_normal ?_ | refine thenK_ret ?_ | refine thenK_exit ?_ | refine blockK_normal ?_ | refine blockK_ret ?_ | refine blockK_here ?_ | refine loopK_ret ?_ | refine loopK_exit ?_ | refine Ops.nil ?_ | refine A.blockK_on (h := ?_)) | ((with_reducible first | refine A.drw tabOk ⟨[], [], []⟩ mixed (h := ?_) | refine A.reg tabOk (h := ?_) | refine And.intro (by omega) ?_ | refine A.load tabOk (h := ?_) | refine A.or tabOk (h := ?_) | refine A.and tabOk (h := ?_) | refine A.gopen tabOk (h := ?_) | refine A.gshutP tabOk (h := ?_) | refine A.gshutM tabOk (h := ?_) | refine A.gshutN tabOk (h := ?_) | refine A.pickT tabOk (h := ?_) | refine A.pickF tabOk (h := ?_) | refine A.gstep tabOk (h := ?_) | refine A.gload tabOk (h := ?_) | refine A.store tabOk (h := ?_) | refine A.loadL tabOk (h := ?_) | refine A.loadE tabOk (h := ?_) | refine A.storeL tabOk (h := ?_) | refine A.gloadL tabOk (h := ?_) | refine A.gloadE tabOk (h := ?_) | refine A.convS tabOk (h := ?_)); (conv => whnf)) | (with_reducible first | refine A.condT (hx := ?_) | refine A.condF (hy := ?_)) | fail)
    exact retK_ret rfl (by first | exact Weak.refl _ | exact Weak.all _ | (repeat (first | exact Weak.refl _ | exact Weak.all _ | refine A.wpick (k := ?_) | apply Weak.drop))) ⟨rfl, rfl⟩
  rw [if_neg h0, hLL] at he
  rcases rfound id recs with ⟨h1, h2, h3⟩ | ⟨r1, r, r2, e0, hid, h1, h2, h3⟩
  · rw [h3] at he
    cases he
    rw [h2] at hat
    subst hc0
    have hone := rf_one hok
    refine Does.weak (rs_open _ _ _ _ _) ?_
    refine Does.go Try.func22 rfl Try.results22 Try.ntmps22 rfl rfl ?_; (conv => whnf)
    repeat' (first | (with_reducible first | refine V.seq ?_ | refine V.block ?_ | refine V.ret ?_ | refine V.skip ?_ | refine V.exit ?_ | refine thenK_normal ?_ | refine thenK_ret ?_ | refine thenK_exit ?_ | refine blockK_normal ?_ | refine blockK_ret ?_ | refine blockK_here ?_ | refine loopK_ret ?_ | refine loopK_exit ?_ | refine Ops.nil ?_ | refine A.blockK_on (h := ?_)) | ((with_reducible first | refine A.drw tabOk ⟨[], [], []⟩ mixed (h := ?_) | refine A.reg tabOk (h := ?_) | refine And.intro (by omega) ?_ | refine A.load tabOk (h := ?_) | refine A.or tabOk (h := ?_) | refine A.and tabOk (h := ?_) | refine A.gopen tabOk (h := ?_) | refine A.gshutP tabOk (h := ?_) | refine A.gshutM tabOk (h := ?_) | refine A.gshutN tabOk (h := ?_) | refine A.pickT tabOk (h := ?_) | refine A.pickF tabOk (h := ?_) | refine A.gstep tabOk (h := ?_) | refine A.gload tabOk (h := ?_) | refine A.store tabOk (h := ?_) | refine A.loadL tabOk (h := ?_) | refine A.loadE tabOk (h := ?_) | refine A.storeL tabOk (h := ?_) | refine A.gloadL tabOk (h := ?_) | refine A.gloadE tabOk (h := ?_) | refine A.convS tabOk (h := ?_)); (conv => whnf)) | (with_reducible first | refine A.condT (hx := ?_) | refine A.condF (hy := ?_)) | fail)
    (with_reducible refine A.callQ2 tabOk (hs := hat _) (h := ?_)); (conv => whnf)
    repeat' (first | (with_reducible first | refine V.seq ?_ | refine V.block ?_ | refine V.ret ?_ | refine V.skip ?_ | refine V.exit ?_ | refine thenK_normal ?_ | refine thenK_ret ?_ | refine thenK_exit ?_ | refine blockK_normal ?_ | refine blockK_ret ?_ | refine blockK_here ?_ | refine loopK_ret ?_ | refine loopK_exit ?_ | refine Ops.nil ?_ | refine A.blockK_on (h := ?_)) | ((with_reducible first | refine A.drw tabOk ⟨[], [], []⟩ mixed (h := ?_) | refine A.reg tabOk (h := ?_) | refine And.intro (by omega) ?_ | refine A.load tabOk (h := ?_) | refine A.or tabOk (h := ?_) | refine A.and tabOk (h := ?_) | refine A.gopen tabOk (h := ?_) | refine A.gshutP tabOk (h := ?_) | refine A.gshutM tabOk (h := ?_) | refine A.gshutN tabOk (h := ?_) | refine A.pickT tabOk (h := ?_) | refine A.pickF tabOk (h := ?_) | refine A.gstep tabOk (h := ?_) | refine A.gload tabOk (h := ?_) | refine A.store tabOk (h := ?_) | refine A.loadL tabOk (h := ?_) | refine A.loadE tabOk (h := ?_) | refine A.storeL tabOk (h := ?_) | refine A.gloadL tabOk (h := ?_) | refine A.gloadE tabOk (h := ?_) | refine A.convS tabOk (h := ?_)); (conv => whnf)) | (with_reducible first | refine A.condT (hx := ?_) | refine A.condF (hy := ?_)) | fail)
    (with_reducible refine A.appendS tabOk (hs := Slc.nil 86 3) (hC := Weak.nil _) (hr := by with_unfolding_all exact (hs.rds (W0 := W0) (C := [])).mono (by first | exact Weak.refl _ | exact Weak.all _ | (repeat (first | exact Weak.refl _ | exact Weak.all _ | refine A.wpick (k := ?_) | apply Weak.drop)))) (h := ?_)); intro v1 c1 hs1; refine ⟨(by with_unfolding_all first | exact Weak.refl _ | exact Weak.all _ | (repeat (first | exact Weak.refl _ | exact Weak.all _ | refine A.wpick (k := ?_) | apply Weak.drop))), ?_⟩; (conv => whnf)
    repeat' (first | (with_reducible first | refine V.seq ?_ | refine V.block ?_ | refine V.ret ?_ | refine V.skip ?_ | refine V.exit ?_ | refine thenK_normal ?_ | refine thenK_ret ?_ | refine thenK_exit ?_ | refine blockK_normal ?_ | refine blockK_ret ?_ | refine blockK_here ?_ | refine loopK_ret ?_ | refine loopK_exit ?_ | refine Ops.nil ?_ | refine A.blockK_on (h := ?_)) | ((with_reducible first | refine A.drw tabOk ⟨[], [], []⟩ mixed (h := ?_) | refine A.reg tabOk (h := ?_) | refine And.intro (by omega) ?_ | refine A.load tabOk (h := ?_) | refine A.or tabOk (h := ?_) | refine A.and tabOk (h := ?_) | refine A.gopen tabOk (h := ?_) | refine A.gshutP tabOk (h := ?_) | refine A.gshutM tabOk (h := ?_) | refine A.gshutN tabOk (h := ?_) | refine A.pickT tabOk (h := ?_) | refine A.pickF tabOk (h := ?_) | refine A.gstep tabOk (h := ?_) | refine A.gload tabOk (h := ?_) | refine A.store tabOk (h := ?_) | refine A.loadL tabOk (h := ?_) | refine A.loadE tabOk (h := ?_) | refine A.storeL tabOk (h := ?_) | refine A.gloadL tabOk (h := ?_) | refine A.gloadE tabOk (h := ?_) | refine A.convS tabOk (h := ?_)); (conv => whnf)) | (with_reducible first | refine A.condT (hx := ?_) | refine A.condF (hy := ?_)) | fail)
    (with_reducible refine A.buildSlice tabOk (h := ?_)); (conv => whnf); intro nb; (conv => whnf)
    repeat' (first | (with_reducible first | refine V.seq ?_ | refine V.block ?_ | refine V.ret ?_ | refine V.skip ?_ | refine V.exit ?_ | refine thenK_normal ?_ | refine thenK_ret ?_ | refine thenK_exit ?_ | refine blockK_normal ?_ | refine blockK_ret ?_ | refine blockK_here ?_ | refine loopK_ret ?_ | refine loopK_exit ?_ | refine Ops.nil ?_ | refine A.blockK_on (h := ?_)) | ((with_reducible first | refine A.drw tabOk ⟨[], [], []⟩ mixed (h := ?_) | refine A.reg tabOk (h := ?_) | refine And.intro (by omega) ?_ | refine A.load tabOk (h := ?_) | refine A.or tabOk (h := ?_) | refine A.and tabOk (h := ?_) | refine A.gopen tabOk (h := ?_) | refine A.gshutP tabOk (h := ?_) | refine A.gshutM tabOk (h := ?_) | refine A.gshutN tabOk (h := ?_) | refine A.pickT tabOk (h := ?_) | refine A.pickF tabOk (h := ?_) | refine A.gstep tabOk (h := ?_) | refine A.gload tabOk (h := ?_) | refine A.store tabOk (h := ?_) | refine A.loadL tabOk (h := ?_) | refine A.loadE tabOk (h := ?_) | refine A.storeL tabOk (h := ?_) | refine A.gloadL tabOk (h := ?_) | refine A.gloadE tabOk (h := ?_) | refine A.convS tabOk (h := ?_)); (conv => whnf)) | (with_reducible first | refine A.condT (hx := ?_) | refine A.condF (hy := ?_)) | fail)
    (with_reducible refine A.append tabOk (hs := hs1)  (h := ?_)); intro v2 c2 hs2; refine ⟨(by with_unfolding_all first | exact Weak.refl _ | exact Weak.all _ | (repeat (first | exact Weak.refl _ | exact Weak.all _ | refine A.wpick (k := ?_) | apply Weak.drop))), ?_⟩; (conv => whnf)
    rw [Nat.zero_add, List.nil_append] at hs2
    repeat' (first | (with_reducible first | refine V.seq ?_ | refine V.block ?_ | refine V.ret ?_ | refine V.skip ?_ | refine V.exit ?_ | refine thenK_normal ?_ | refine thenK_ret ?_ | refine thenK_exit ?_ | refine blockK_normal ?_ | refine blockK_ret ?_ | refine blockK_here ?_ | refine loopK_ret ?_ | refine loopK_exit ?_ | refine Ops.nil ?_ | refine A.blockK_on (h := ?_)) | ((with_reducible first | refine A.drw tabOk ⟨[], [], []⟩ mixed (h := ?_) | refine A.reg tabOk (h := ?_) | refine And.intro (by omega) ?_ | refine A.load tabOk (h := ?_) | refine A.or tabOk (h := ?_) | refine A.and tabOk (h := ?_) | refine A.gopen tabOk (h := ?_) | refine A.gshutP tabOk (h := ?_) | refine A.gshutM tabOk (h := ?_) | refine A.gshutN tabOk (h := ?_) | refine A.pickT tabOk (h := ?_) | refine A.pickF tabOk (h := ?_) | refine A.gstep tabOk (h := ?_) | refine A.gload tabOk (h := ?_) | refine A.store tabOk (h := ?_) | refine A.loadL tabOk (h := ?_) | refine A.loadE tabOk (h := ?_) | refine A.storeL tabOk (h := ?_) | refine A.gloadL tabOk (h := ?_) | refine A.gloadE tabOk (h := ?_) | refine A.convS tabOk (h := ?_)); (conv => whnf)) | (with_reducible first | refine A.condT (hx := ?_) | refine A.condF (hy := ?_)) | fail)
    refine retK_ret rfl ?_ ⟨rfl, _, ⟨v2, c2, recs ++ [⟨id, [], [], .slice none 0 0, .slice none 0 0⟩], E, fc, rfl, hf, ?_, by simp [RF.fa], ?_⟩, rfl⟩
    · exact (by first | exact Weak.refl _ | exact Weak.all _ | (repeat (first | exact Weak.refl _ | exact Weak.all _ | refine A.wpick (k := ?_) | apply Weak.drop)) : Weak _ (wC w d v2 :: fc :: c2 :: E :: C)).trans (rs_shut _ _ _ _ _)
    · rw [List.map_append, List.flatten_append, List.length_append]
      exact hs2
    · intro x hx
      rcases List.mem_append.1 hx with hx | hx
      · exact hok x hx
      · rw [List.mem_singleton.1 hx]
        exact ⟨RdS.nil 1, RdS.nil 1⟩
  · rw [h3] at he
    cases he
    rw [h2] at hat
    refine (Gives.mono (C' := wC w d Lv :: cL :: []) (Gives.of fun X => ?_) (by rw [hc0]; exact (rs_open _ _ _ _ _).trans ((by first | exact Weak.refl _ | exact Weak.all _ | (repeat (first | exact Weak.refl _ | exact Weak.all _ | refine A.wpick (k := ?_) | apply Weak.drop)) : Weak _ (wC w d Lv :: cL :: []))))).spec.mono (fun v C' hv => ⟨hv.1, c, hRS, hv.2⟩)
    refine Does.go Try.func22 rfl Try.results22 Try.ntmps22 rfl rfl ?_; (conv => whnf)
    repeat' (first | (with_reducible first | refine V.seq ?_ | refine V.block ?_ | refine V.ret ?_ | refine V.skip ?_ | refine V.exit ?_ | refine thenK_normal ?_ | refine thenK_ret ?_ | refine thenK_exit ?_ | refine blockK_normal ?_ | refine blockK_ret ?_ | refine blockK_here ?_ | refine loopK_ret ?_ | refine loopK_exit ?_ | refine Ops.nil ?_ | refine A.blockK_on (h := ?_)) | ((with_reducible first | refine A.drw tabOk ⟨[], [], []⟩ mixed (h := ?_) | refine A.reg tabOk (h := ?_) | refine And.intro (by omega) ?_ | refine A.load tabOk (h := ?_) | refine A.or tabOk (h := ?_) | refine A.and tabOk (h := ?_) | refine A.gopen tabOk (h := ?_) | refine A.gshutP tabOk (h := ?_) | refine A.gshutM tabOk (h := ?_) | refine A.gshutN tabOk (h := ?_) | refine A.pickT tabOk (h := ?_) | refine A.pickF tabOk (h := ?_) | refine A.gstep tabOk (h := ?_) | refine A.gload tabOk (h := ?_) | refine A.store tabOk (h := ?_) | refine A.loadL tabOk (h := ?_) | refine A.loadE tabOk (h := ?_) | refine A.storeL tabOk (h := ?_) | refine A.gloadL tabOk (h := ?_) | refine A.gloadE tabOk (h := ?_) | refine A.convS tabOk (h := ?_)); (conv => whnf)) | (with_reducible first | refine A.condT (hx := ?_) | refine A.condF (hy := ?_)) | fail)
    (with_reducible refine A.callQ2 tabOk (hs := hat _) (h := ?_)); (conv => whnf)
    repeat' (first | (with_reducible first | refine V.seq ?_ | refine V.block ?_ | refine V.ret ?_ | refine V.skip ?_ | refine V.exit ?_ | refine thenK_normal ?_ | refine thenK_ret ?_ | refine thenK_exit ?_ | refine blockK_normal ?_ | refine blockK_ret ?_ | refine blockK_here ?_ | refine loopK_ret ?_ | refine loopK_exit ?_ | refine Ops.nil ?_ | refine A.blockK_on (h := ?_)) | ((with_reducible first | refine A.drw tabOk ⟨[], [], []⟩ mixed (h := ?_) | refine A.reg tabOk (h := ?_) | refine And.intro (by omega) ?_ | refine A.load tabOk (h := ?_) | refine A.or tabOk (h := ?_) | refine A.and tabOk (h := ?_) | refine A.gopen tabOk (h := ?_) | refine A.gshutP tabOk (h := ?_) | refine A.gshutM tabOk (h := ?_) | refine A.gshutN tabOk (h := ?_) | refine A.pickT tabOk (h := ?_) | refine A.pickF tabOk (h := ?_) | refine A.gstep tabOk (h := ?_) | refine A.gload tabOk (h := ?_) | refine A.store tabOk (h := ?_) | refine A.loadL tabOk (h := ?_) | refine A.loadE tabOk (h := ?_) | refine A.storeL tabOk (h := ?_) | refine A.gloadL tabOk (h := ?_) | refine A.gloadE tabOk (h := ?_) | refine A.convS tabOk (h := ?_)); (conv => whnf)) | (with_reducible first | refine A.condT (hx := ?_) | refine A.condF (hy := ?_)) | fail)
    exact retK_ret rfl (by first | exact Weak.refl _ | exact Weak.all _ | (repeat (first | exact Weak.refl _ | exact Weak.all _ | refine A.wpick (k := ?_) | apply Weak.drop))) ⟨rfl, rfl⟩
end Go.Proofs.Ytofcmcgopdhfeaa
