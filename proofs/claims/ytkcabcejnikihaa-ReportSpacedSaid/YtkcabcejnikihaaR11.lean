/- A part of the proofs: what functions of the program do, each by its own contract; printed by a program of mine. No conditions but those that each theorem names. -/
import Derived.Test.YtkcabcejnikihaaR9
namespace Go.Proofs.Ytkcabcejnikihaa
open Eng Go.RowKit
set_option maxRecDepth 100000
set_option maxHeartbeats 4000000

def jobAt (P at_ : Int) (x : Int × Int) : JobS := ⟨3, at_ + P + lowF x.1 50, at_ + P + lowF x.1 50 + P, at_ + P + lowF x.1 50 + 1 + lowF x.2 P, 0, false⟩
def mkJ (P : Int) : Int → List (Int × Int) → List JobS
  | _, [] => []
  | at_, x :: r => jobAt P at_ x :: mkJ P (at_ + P + lowF x.1 50) r
def endA (P : Int) : Int → List (Int × Int) → Int
  | at_, [] => at_
  | at_, x :: r => endA P (at_ + P + lowF x.1 50) r
theorem mkJ_snoc (P : Int) : ∀ (l : List (Int × Int)) (at_ : Int) (x : Int × Int), mkJ P at_ (l ++ [x]) = mkJ P at_ l ++ [jobAt P (endA P at_ l) x] := by
  intro l
  induction l with
  | nil => intro at_ x; rfl
  | cons a r ih => intro at_ x; simp only [List.cons_append, mkJ, endA, ih]
theorem endA_snoc (P : Int) : ∀ (l : List (Int × Int)) (at_ : Int) (x : Int × Int), endA P at_ (l ++ [x]) = endA P at_ l + P + lowF x.1 50 := by
  intro l
  induction l with
  | nil => intro at_ x; rfl
  | cons a r ih => intro at_ x; simp only [List.cons_append, endA, ih]
theorem endA_bd (P : Int) (hP : 1 ≤ P ∧ P ≤ 100) : ∀ (l : List (Int × Int)) (at_ : Int), at_ ≤ endA P at_ l ∧ endA P at_ l ≤ at_ + 150 * l.length := by
  intro l
  induction l with
  | nil => intro at_; simp [endA]
  | cons a r ih =>
    intro at_
    have := ih (at_ + P + lowF a.1 50)
    have h := low_bd a.1 50 (by omega)
    simp only [endA, List.length_cons]
    omega
theorem mkJ_len (P : Int) : ∀ (l : List (Int × Int)) (at_ : Int), (mkJ P at_ l).length = l.length := by
  intro l
  induction l with
  | nil => intro at_; rfl
  | cons a r ih => intro at_; simp [mkJ, ih]
theorem mkJ_late (P : Int) (hP : 1 ≤ P ∧ P ≤ 100) : ∀ (l : List (Int × Int)) (at_ : Int), ∀ j ∈ mkJ P at_ l, at_ + P ≤ j.released := by
  intro l
  induction l with
  | nil => intro at_ j hj; simp [mkJ] at hj
  | cons a r ih =>
    intro at_ j hj
    have h := low_bd a.1 50 (by omega)
    simp only [mkJ, List.mem_cons] at hj
    rcases hj with rfl | hj
    · simp only [jobAt]; omega
    · have := ih _ j hj
      omega
theorem mkJ_pair (P : Int) (hP : 1 ≤ P ∧ P ≤ 100) : ∀ (l : List (Int × Int)) (at_ : Int), (mkJ P at_ l).Pairwise (fun a b => a.ended ≤ b.released) := by
  intro l
  induction l with
  | nil => intro at_; exact List.Pairwise.nil
  | cons a r ih =>
    intro at_
    refine List.Pairwise.cons (fun j hj => ?_) (ih _)
    have h := mkJ_late P hP r _ j hj
    have h2 := low_bd a.2 P (by omega)
    simp only [jobAt]
    omega
theorem mkJ_ov (P : Int) (hP : 1 ≤ P ∧ P ≤ 100) (l : List (Int × Int)) : ovB (mkJ P 0 l) = false := by
  have hp := List.pairwise_iff_getElem.1 (mkJ_pair P hP l 0)
  unfold ovB
  refine List.any_eq_false.2 fun i hi => ?_
  have hi := List.mem_range.1 hi
  unfold ovIn
  rw [Bool.not_eq_true, List.any_eq_false]
  intro k hk
  have hk := List.mem_range.1 hk
  have := hp k i (by omega) hi hk
  rw [getD_at _ i hi, getD_at _ k (by omega)]
  simp only [hitB, bs]
  omega
theorem addF_in (a b : Int) (ha : 0 ≤ a) (hb : 0 ≤ b) (h : a + b ≤ 1099511627776) : addF a b = a + b := by
  unfold addF
  rw [clip_in a (by omega), clip_in b (by omega), clip_in _ (by omega)]
theorem mkJ_sp (P : Int) (hP : 1 ≤ P ∧ P ≤ 100) : ∀ (l : List (Int × Int)) (at_ last : Int) (any : Bool), 0 ≤ at_ → at_ + 150 * l.length ≤ 1000000 → (any = true → last = at_) → spB 3 P (mkJ P at_ l) last any = true := by
  intro l
  induction l with
  | nil => intro at_ last any _ _ _; rfl
  | cons a r ih =>
    intro at_ last any h0 h1 h2
    have h := low_bd a.1 50 (by omega)
    simp only [List.length_cons] at h1
    have := ih (at_ + P + lowF a.1 50) (at_ + P + lowF a.1 50) true (by omega) (by omega) (fun _ => rfl)
    simp only [mkJ, spB, jobAt]
    rw [decide_true, cond_true, this]
    cases any with
    | false => rfl
    | true =>
      rw [h2 rfl, addF_in at_ P h0 (by omega) (by omega), decide_eq_false (by omega)]
      rfl
theorem mkJ_sp4 (P p : Int) : ∀ (l : List (Int × Int)) (at_ last : Int) (any : Bool), spB 4 p (mkJ P at_ l) last any = true := by
  intro l
  induction l with
  | nil => intro at_ last any; rfl
  | cons a r ih =>
    intro at_ last any
    simp only [mkJ, spB, jobAt]
    rw [decide_eq_false (by decide), cond_false]
    exact ih _ _ _
theorem mkJ_far (P : Int) (hP : 1 ≤ P ∧ P ≤ 100) (l : List (Int × Int)) (hl : 2 ≤ l.length) : spB 3 (P + 200) (mkJ P 0 l) 0 false = false := by
  match l, hl with
  | a :: b :: r, _ =>
    have h := low_bd a.1 50 (by omega)
    have h2 := low_bd b.1 50 (by omega)
    simp only [mkJ, spB, jobAt]
    simp only [decide_true, cond_true, Bool.false_and, cond_false, Bool.true_and]
    rw [addF_in _ _ (by omega) (by omega) (by omega), decide_eq_true (by omega)]
    rfl

theorem reportSpaced_w (W : World) (va : Value) (n : Nat) (gs : List Int) (ha : RdS W [] 1 va n (ints gs)) (_ : ∀ x ∈ gs, -9223372036854775808 ≤ x ∧ x ≤ 9223372036854775807) (vb : Value) (m : Nat) (ts : List Int) (hb : RdS W [] 1 vb m (ints ts)) (_ : ∀ x ∈ ts, -9223372036854775808 ≤ x ∧ x ≤ 9223372036854775807)
    (p : Int) (_ : -9223372036854775808 ≤ p ∧ p ≤ 9223372036854775807) :
    Gives W Try.prog 5 #[va, vb, .int .i64 p] [] (.bool true) := Gives.of fun X => by
  have hgl := ha.ints_len
  have htl := hb.ints_len
  obtain ⟨ao, ac, rfl, hac, har⟩ := ha.form
  obtain ⟨bo, bc, rfl, hbc, hbr⟩ := hb.form
  by_cases h1 : 30 < n
  · refine Does.go Try.func5 rfl Try.results5 Try.ntmps5 rfl rfl ?_; (conv => whnf)
    repeat' (first | (with_reducible first | refine V.seq ?_ | refine V.block ?_ | refine V.ret ?_ | refine V.skip ?_ | refine V.exit ?_ | refine thenK_normal ?_ | refine thenK_ret ?_ | refine thenK_exit ?_ | refine blockK_normal ?_ | refine blockK_ret ?_ | refine blockK_here ?_ | refine loopK_ret ?_ | refine loopK_exit ?_ | refine Ops.nil ?_ | refine A.blockK_on (h := ?_)) | ((with_reducible first | refine A.drw tabOk ⟨[], [], []⟩ mixed (h := ?_) | refine A.reg tabOk (h := ?_) | refine And.intro (by omega) ?_ | refine A.load tabOk (h := ?_) | refine A.or tabOk (h := ?_) | refine A.and tabOk (h := ?_) | refine A.gopen tabOk (h := ?_) | refine A.gshutP tabOk (h := ?_) | refine A.gshutM tabOk (h := ?_) | refine A.gshutN tabOk (h := ?_) | refine A.pickT tabOk (h := ?_) | refine A.pickF tabOk (h := ?_) | refine A.gstep tabOk (h := ?_) | refine A.gload tabOk (h := ?_) | refine A.store tabOk (h := ?_) | refine A.loadL tabOk (h := ?_) | refine A.loadE tabOk (h := ?_) | refine A.storeL tabOk (h := ?_)); (conv => whnf)) | (with_reducible first | refine A.condT (hx := ?_) | refine A.condF (hy := ?_)) | fail)
    (with_reducible refine A.callQ tabOk (hs := awake_q _ _) (h := ?_)); (conv => whnf)
    repeat' (first | (with_reducible first | refine V.seq ?_ | refine V.block ?_ | refine V.ret ?_ | refine V.skip ?_ | refine V.exit ?_ | refine thenK_normal ?_ | refine thenK_ret ?_ | refine thenK_exit ?_ | refine blockK_normal ?_ | refine blockK_ret ?_ | refine blockK_here ?_ | refine loopK_ret ?_ | refine loopK_exit ?_ | refine Ops.nil ?_ | refine A.blockK_on (h := ?_)) | ((with_reducible first | refine A.drw tabOk ⟨[], [], []⟩ mixed (h := ?_) | refine A.reg tabOk (h := ?_) | refine And.intro (by omega) ?_ | refine A.load tabOk (h := ?_) | refine A.or tabOk (h := ?_) | refine A.and tabOk (h := ?_) | refine A.gopen tabOk (h := ?_) | refine A.gshutP tabOk (h := ?_) | refine A.gshutM tabOk (h := ?_) | refine A.gshutN tabOk (h := ?_) | refine A.pickT tabOk (h := ?_) | refine A.pickF tabOk (h := ?_) | refine A.gstep tabOk (h := ?_) | refine A.gload tabOk (h := ?_) | refine A.store tabOk (h := ?_) | refine A.loadL tabOk (h := ?_) | refine A.loadE tabOk (h := ?_) | refine A.storeL tabOk (h := ?_)); (conv => whnf)) | (with_reducible first | refine A.condT (hx := ?_) | refine A.condF (hy := ?_)) | fail)
    exact retK_ret rfl (by first | exact Weak.refl _ | exact Weak.all _ | (repeat (first | exact Weak.refl _ | exact Weak.all _ | refine A.wpick (k := ?_) | apply Weak.drop))) ⟨rfl, rfl⟩
  by_cases h2 : m < n
  · refine Does.go Try.func5 rfl Try.results5 Try.ntmps5 rfl rfl ?_; (conv => whnf)
    repeat' (first | (with_reducible first | refine V.seq ?_ | refine V.block ?_ | refine V.ret ?_ | refine V.skip ?_ | refine V.exit ?_ | refine thenK_normal ?_ | refine thenK_ret ?_ | refine thenK_exit ?_ | refine blockK_normal ?_ | refine blockK_ret ?_ | refine blockK_here ?_ | refine loopK_ret ?_ | refine loopK_exit ?_ | refine Ops.nil ?_ | refine A.blockK_on (h := ?_)) | ((with_reducible first | refine A.drw tabOk ⟨[], [], []⟩ mixed (h := ?_) | refine A.reg tabOk (h := ?_) | refine And.intro (by omega) ?_ | refine A.load tabOk (h := ?_) | refine A.or tabOk (h := ?_) | refine A.and tabOk (h := ?_) | refine A.gopen tabOk (h := ?_) | refine A.gshutP tabOk (h := ?_) | refine A.gshutM tabOk (h := ?_) | refine A.gshutN tabOk (h := ?_) | refine A.pickT tabOk (h := ?_) | refine A.pickF tabOk (h := ?_) | refine A.gstep tabOk (h := ?_) | refine A.gload tabOk (h := ?_) | refine A.store tabOk (h := ?_) | refine A.loadL tabOk (h := ?_) | refine A.loadE tabOk (h := ?_) | refine A.storeL tabOk (h := ?_)); (conv => whnf)) | (with_reducible first | refine A.condT (hx := ?_) | refine A.condF (hy := ?_)) | fail)
    (with_reducible refine A.callQ tabOk (hs := awake_q _ _) (h := ?_)); (conv => whnf)
    repeat' (first | (with_reducible first | refine V.seq ?_ | refine V.block ?_ | refine V.ret ?_ | refine V.skip ?_ | refine V.exit ?_ | refine thenK_normal ?_ | refine thenK_ret ?_ | refine thenK_exit ?_ | refine blockK_normal ?_ | refine blockK_ret ?_ | refine blockK_here ?_ | refine loopK_ret ?_ | refine loopK_exit ?_ | refine Ops.nil ?_ | refine A.blockK_on (h := ?_)) | ((with_reducible first | refine A.drw tabOk ⟨[], [], []⟩ mixed (h := ?_) | refine A.reg tabOk (h := ?_) | refine And.intro (by omega) ?_ | refine A.load tabOk (h := ?_) | refine A.or tabOk (h := ?_) | refine A.and tabOk (h := ?_) | refine A.gopen tabOk (h := ?_) | refine A.gshutP tabOk (h := ?_) | refine A.gshutM tabOk (h := ?_) | refine A.gshutN tabOk (h := ?_) | refine A.pickT tabOk (h := ?_) | refine A.pickF tabOk (h := ?_) | refine A.gstep tabOk (h := ?_) | refine A.gload tabOk (h := ?_) | refine A.store tabOk (h := ?_) | refine A.loadL tabOk (h := ?_) | refine A.loadE tabOk (h := ?_) | refine A.storeL tabOk (h := ?_)); (conv => whnf)) | (with_reducible first | refine A.condT (hx := ?_) | refine A.condF (hy := ?_)) | fail)
    exact retK_ret rfl (by first | exact Weak.refl _ | exact Weak.all _ | (repeat (first | exact Weak.refl _ | exact Weak.all _ | refine A.wpick (k := ?_) | apply Weak.drop))) ⟨rfl, rfl⟩
  by_cases h3 : 60 < m
  · refine Does.go Try.func5 rfl Try.results5 Try.ntmps5 rfl rfl ?_; (conv => whnf)
    repeat' (first | (with_reducible first | refine V.seq ?_ | refine V.block ?_ | refine V.ret ?_ | refine V.skip ?_ | refine V.exit ?_ | refine thenK_normal ?_ | refine thenK_ret ?_ | refine thenK_exit ?_ | refine blockK_normal ?_ | refine blockK_ret ?_ | refine blockK_here ?_ | refine loopK_ret ?_ | refine loopK_exit ?_ | refine Ops.nil ?_ | refine A.blockK_on (h := ?_)) | ((with_reducible first | refine A.drw tabOk ⟨[], [], []⟩ mixed (h := ?_) | refine A.reg tabOk (h := ?_) | refine And.intro (by omega) ?_ | refine A.load tabOk (h := ?_) | refine A.or tabOk (h := ?_) | refine A.and tabOk (h := ?_) | refine A.gopen tabOk (h := ?_) | refine A.gshutP tabOk (h := ?_) | refine A.gshutM tabOk (h := ?_) | refine A.gshutN tabOk (h := ?_) | refine A.pickT tabOk (h := ?_) | refine A.pickF tabOk (h := ?_) | refine A.gstep tabOk (h := ?_) | refine A.gload tabOk (h := ?_) | refine A.store tabOk (h := ?_) | refine A.loadL tabOk (h := ?_) | refine A.loadE tabOk (h := ?_) | refine A.storeL tabOk (h := ?_)); (conv => whnf)) | (with_reducible first | refine A.condT (hx := ?_) | refine A.condF (hy := ?_)) | fail)
    (with_reducible refine A.callQ tabOk (hs := awake_q _ _) (h := ?_)); (conv => whnf)
    repeat' (first | (with_reducible first | refine V.seq ?_ | refine V.block ?_ | refine V.ret ?_ | refine V.skip ?_ | refine V.exit ?_ | refine thenK_normal ?_ | refine thenK_ret ?_ | refine thenK_exit ?_ | refine blockK_normal ?_ | refine blockK_ret ?_ | refine blockK_here ?_ | refine loopK_ret ?_ | refine loopK_exit ?_ | refine Ops.nil ?_ | refine A.blockK_on (h := ?_)) | ((with_reducible first | refine A.drw tabOk ⟨[], [], []⟩ mixed (h := ?_) | refine A.reg tabOk (h := ?_) | refine And.intro (by omega) ?_ | refine A.load tabOk (h := ?_) | refine A.or tabOk (h := ?_) | refine A.and tabOk (h := ?_) | refine A.gopen tabOk (h := ?_) | refine A.gshutP tabOk (h := ?_) | refine A.gshutM tabOk (h := ?_) | refine A.gshutN tabOk (h := ?_) | refine A.pickT tabOk (h := ?_) | refine A.pickF tabOk (h := ?_) | refine A.gstep tabOk (h := ?_) | refine A.gload tabOk (h := ?_) | refine A.store tabOk (h := ?_) | refine A.loadL tabOk (h := ?_) | refine A.loadE tabOk (h := ?_) | refine A.storeL tabOk (h := ?_)); (conv => whnf)) | (with_reducible first | refine A.condT (hx := ?_) | refine A.condF (hy := ?_)) | fail)
    exact retK_ret rfl (by first | exact Weak.refl _ | exact Weak.all _ | (repeat (first | exact Weak.refl _ | exact Weak.all _ | refine A.wpick (k := ?_) | apply Weak.drop))) ⟨rfl, rfl⟩
  have hlo := low_bd p 100 (by omega)
  have hP : 1 ≤ 1 + lowF p 100 ∧ 1 + lowF p 100 ≤ 100 := by omega
  refine Does.go Try.func5 rfl Try.results5 Try.ntmps5 rfl rfl ?_; (conv => whnf)
  repeat' (first | (with_reducible first | refine V.seq ?_ | refine V.block ?_ | refine V.ret ?_ | refine V.skip ?_ | refine V.exit ?_ | refine thenK_normal ?_ | refine thenK_ret ?_ | refine thenK_exit ?_ | refine blockK_normal ?_ | refine blockK_ret ?_ | refine blockK_here ?_ | refine loopK_ret ?_ | refine loopK_exit ?_ | refine Ops.nil ?_ | refine A.blockK_on (h := ?_)) | ((with_reducible first | refine A.drw tabOk ⟨[], [], []⟩ mixed (h := ?_) | refine A.reg tabOk (h := ?_) | refine And.intro (by omega) ?_ | refine A.load tabOk (h := ?_) | refine A.or tabOk (h := ?_) | refine A.and tabOk (h := ?_) | refine A.gopen tabOk (h := ?_) | refine A.gshutP tabOk (h := ?_) | refine A.gshutM tabOk (h := ?_) | refine A.gshutN tabOk (h := ?_) | refine A.pickT tabOk (h := ?_) | refine A.pickF tabOk (h := ?_) | refine A.gstep tabOk (h := ?_) | refine A.gload tabOk (h := ?_) | refine A.store tabOk (h := ?_) | refine A.loadL tabOk (h := ?_) | refine A.loadE tabOk (h := ?_) | refine A.storeL tabOk (h := ?_)); (conv => whnf)) | (with_reducible first | refine A.condT (hx := ?_) | refine A.condF (hy := ?_)) | fail)
  (with_reducible refine A.callQ tabOk (hs := low_q _ _ p 100 (by omega)) (h := ?_)); (conv => whnf)
  generalize 1 + lowF p 100 = P at hP
  repeat' (first | (with_reducible first | refine V.seq ?_ | refine V.block ?_ | refine V.ret ?_ | refine V.skip ?_ | refine V.exit ?_ | refine thenK_normal ?_ | refine thenK_ret ?_ | refine thenK_exit ?_ | refine blockK_normal ?_ | refine blockK_ret ?_ | refine blockK_here ?_ | refine loopK_ret ?_ | refine loopK_exit ?_ | refine Ops.nil ?_ | refine A.blockK_on (h := ?_)) | ((with_reducible first | refine A.drw tabOk ⟨[], [], []⟩ mixed (h := ?_) | refine A.reg tabOk (h := ?_) | refine And.intro (by omega) ?_ | refine A.load tabOk (h := ?_) | refine A.or tabOk (h := ?_) | refine A.and tabOk (h := ?_) | refine A.gopen tabOk (h := ?_) | refine A.gshutP tabOk (h := ?_) | refine A.gshutM tabOk (h := ?_) | refine A.gshutN tabOk (h := ?_) | refine A.pickT tabOk (h := ?_) | refine A.pickF tabOk (h := ?_) | refine A.gstep tabOk (h := ?_) | refine A.gload tabOk (h := ?_) | refine A.store tabOk (h := ?_) | refine A.loadL tabOk (h := ?_) | refine A.loadE tabOk (h := ?_) | refine A.storeL tabOk (h := ?_)); (conv => whnf)) | (with_reducible first | refine A.condT (hx := ?_) | refine A.condF (hy := ?_)) | fail)
  have hpl : (gs.zip ts).length = n := by rw [List.length_zip]; omega
  refine V.loop (G := {g : Nat × Value × List Blk // g.1 ≤ n ∧ Slc 39 6 g.2.1 g.1 ((mkJ P 0 ((gs.zip ts).take g.1)).map jobL).flatten g.2.2})
    (fun g => [(0, true, .slice ao n ac), (1, true, .slice bo m bc), (2, true, .int .i64 P), (7, true, g.1.2.1), (8, true, .int .i64 (endA P 0 ((gs.zip ts).take g.1.1))), (9, true, .int .i64 g.1.1)])
    (fun g => g.1.2.2 :: X :: []) (fun g => n - g.1.1) ⟨(0, .slice none 0 0, []), by omega, Slc.nil 39 6⟩ (by with_unfolding_all repeat (first | exact trivial | refine And.intro rfl ?_)) (Weak.nil _) ?_
  rintro ⟨⟨i, v, c⟩, hi, hv⟩
  dsimp only at hi hv
  dsimp only
  have hend := endA_bd P hP ((gs.zip ts).take i) 0
  have htl2 : ((gs.zip ts).take i).length = i := by rw [List.length_take]; omega
  rw [htl2] at hend
  have hml := mkJ_len P ((gs.zip ts).take i) 0
  rw [htl2] at hml
  obtain ⟨vo, vc, rfl, hvc⟩ := hv.len
  by_cases hin : i < n
  · obtain ⟨b1, o1, rfl, r1⟩ := har (by omega)
    obtain ⟨b2, o2, rfl, r2⟩ := hbr (by omega)
    have q1 := (r1.mono (C := c :: X :: []) (Weak.all _)).int (k := i) (by omega)
    have q2 := (r2.mono (C := c :: X :: []) (Weak.all _)).int (k := i) (by omega)
    have hst : (gs.zip ts).take (i + 1) = (gs.zip ts).take i ++ [(gs[i], ts[i])] := by rw [List.take_succ_eq_append_getElem (by omega), List.getElem_zip]
    have hg := low_bd gs[i] 50 (by omega)
    have ht := low_bd ts[i] P (by omega)
    generalize gs[i] = gi at *
    generalize ts[i] = ti at *
    generalize hat : endA P 0 ((gs.zip ts).take i) = at_ at *
    have hmk := mkJ_snoc P ((gs.zip ts).take i) 0 (gi, ti)
    have hea := endA_snoc P ((gs.zip ts).take i) 0 (gi, ti)
    rw [← hst, hat] at hmk hea
    repeat' (first | (with_reducible first | refine V.seq ?_ | refine V.block ?_ | refine V.ret ?_ | refine V.skip ?_ | refine V.exit ?_ | refine thenK_normal ?_ | refine thenK_ret ?_ | refine thenK_exit ?_ | refine blockK_normal ?_ | refine blockK_ret ?_ | refine blockK_here ?_ | refine loopK_ret ?_ | refine loopK_exit ?_ | refine Ops.nil ?_ | refine A.blockK_on (h := ?_)) | ((with_reducible first | refine A.drw tabOk ⟨[], [], []⟩ mixed (h := ?_) | refine A.reg tabOk (h := ?_) | refine And.intro (by omega) ?_ | refine A.load tabOk (h := ?_) | refine A.or tabOk (h := ?_) | refine A.and tabOk (h := ?_) | refine A.gopen tabOk (h := ?_) | refine A.gshutP tabOk (h := ?_) | refine A.gshutM tabOk (h := ?_) | refine A.gshutN tabOk (h := ?_) | refine A.pickT tabOk (h := ?_) | refine A.pickF tabOk (h := ?_) | refine A.gstep tabOk (h := ?_) | refine A.gload tabOk (h := ?_) | refine A.store tabOk (h := ?_) | refine A.loadL tabOk (h := ?_) | refine A.loadE tabOk (h := ?_) | refine A.storeL tabOk (h := ?_)); (conv => whnf)) | (with_reducible first | refine A.condT (hx := ?_) | refine A.condF (hy := ?_)) | fail)
    (with_reducible refine A.callQ tabOk (hs := low_q _ _ gi 50 (by omega)) (h := ?_)); (conv => whnf)
    repeat' (first | (with_reducible first | refine V.seq ?_ | refine V.block ?_ | refine V.ret ?_ | refine V.skip ?_ | refine V.exit ?_ | refine thenK_normal ?_ | refine thenK_ret ?_ | refine thenK_exit ?_ | refine blockK_normal ?_ | refine blockK_ret ?_ | refine blockK_here ?_ | refine loopK_ret ?_ | refine loopK_exit ?_ | refine Ops.nil ?_ | refine A.blockK_on (h := ?_)) | ((with_reducible first | refine A.drw tabOk ⟨[], [], []⟩ mixed (h := ?_) | refine A.reg tabOk (h := ?_) | refine And.intro (by omega) ?_ | refine A.load tabOk (h := ?_) | refine A.or tabOk (h := ?_) | refine A.and tabOk (h := ?_) | refine A.gopen tabOk (h := ?_) | refine A.gshutP tabOk (h := ?_) | refine A.gshutM tabOk (h := ?_) | refine A.gshutN tabOk (h := ?_) | refine A.pickT tabOk (h := ?_) | refine A.pickF tabOk (h := ?_) | refine A.gstep tabOk (h := ?_) | refine A.gload tabOk (h := ?_) | refine A.store tabOk (h := ?_) | refine A.loadL tabOk (h := ?_) | refine A.loadE tabOk (h := ?_) | refine A.storeL tabOk (h := ?_)); (conv => whnf)) | (with_reducible first | refine A.condT (hx := ?_) | refine A.condF (hy := ?_)) | fail)
    (with_reducible refine A.callQ tabOk (hs := low_q _ _ ti P (by omega)) (h := ?_)); (conv => whnf)
    repeat' (first | (with_reducible first | refine V.seq ?_ | refine V.block ?_ | refine V.ret ?_ | refine V.skip ?_ | refine V.exit ?_ | refine thenK_normal ?_ | refine thenK_ret ?_ | refine thenK_exit ?_ | refine blockK_normal ?_ | refine blockK_ret ?_ | refine blockK_here ?_ | refine loopK_ret ?_ | refine loopK_exit ?_ | refine Ops.nil ?_ | refine A.blockK_on (h := ?_)) | ((with_reducible first | refine A.drw tabOk ⟨[], [], []⟩ mixed (h := ?_) | refine A.reg tabOk (h := ?_) | refine And.intro (by omega) ?_ | refine A.load tabOk (h := ?_) | refine A.or tabOk (h := ?_) | refine A.and tabOk (h := ?_) | refine A.gopen tabOk (h := ?_) | refine A.gshutP tabOk (h := ?_) | refine A.gshutM tabOk (h := ?_) | refine A.gshutN tabOk (h := ?_) | refine A.pickT tabOk (h := ?_) | refine A.pickF tabOk (h := ?_) | refine A.gstep tabOk (h := ?_) | refine A.gload tabOk (h := ?_) | refine A.store tabOk (h := ?_) | refine A.loadL tabOk (h := ?_) | refine A.loadE tabOk (h := ?_) | refine A.storeL tabOk (h := ?_)); (conv => whnf)) | (with_reducible first | refine A.condT (hx := ?_) | refine A.condF (hy := ?_)) | fail)
    (with_reducible refine A.buildSlice tabOk (h := ?_)); (conv => whnf); intro nb; (conv => whnf)
    repeat' (first | (with_reducible first | refine V.seq ?_ | refine V.block ?_ | refine V.ret ?_ | refine V.skip ?_ | refine V.exit ?_ | refine thenK_normal ?_ | refine thenK_ret ?_ | refine thenK_exit ?_ | refine blockK_normal ?_ | refine blockK_ret ?_ | refine blockK_here ?_ | refine loopK_ret ?_ | refine loopK_exit ?_ | refine Ops.nil ?_ | refine A.blockK_on (h := ?_)) | ((with_reducible first | refine A.drw tabOk ⟨[], [], []⟩ mixed (h := ?_) | refine A.reg tabOk (h := ?_) | refine And.intro (by omega) ?_ | refine A.load tabOk (h := ?_) | refine A.or tabOk (h := ?_) | refine A.and tabOk (h := ?_) | refine A.gopen tabOk (h := ?_) | refine A.gshutP tabOk (h := ?_) | refine A.gshutM tabOk (h := ?_) | refine A.gshutN tabOk (h := ?_) | refine A.pickT tabOk (h := ?_) | refine A.pickF tabOk (h := ?_) | refine A.gstep tabOk (h := ?_) | refine A.gload tabOk (h := ?_) | refine A.store tabOk (h := ?_) | refine A.loadL tabOk (h := ?_) | refine A.loadE tabOk (h := ?_) | refine A.storeL tabOk (h := ?_)); (conv => whnf)) | (with_reducible first | refine A.condT (hx := ?_) | refine A.condF (hy := ?_)) | fail)
    (with_reducible refine A.append tabOk (hs := hv) (hr := (RdL.whole At.here : RdL W ([(nb, Obj.cells (jobL (jobAt P at_ (gi, ti))).toArray 39 (0, 0))] :: []) nb 0 _).a.mono (by first | exact Weak.refl _ | exact Weak.all _ | (repeat (first | exact Weak.refl _ | exact Weak.all _ | refine A.wpick (k := ?_) | apply Weak.drop)))) (h := ?_)); intro v1 c1 hv1; refine ⟨(by with_unfolding_all first | exact Weak.refl _ | exact Weak.all _ | (repeat (first | exact Weak.refl _ | exact Weak.all _ | refine A.wpick (k := ?_) | apply Weak.drop))), ?_⟩; (conv => whnf)
    repeat' (first | (with_reducible first | refine V.seq ?_ | refine V.block ?_ | refine V.ret ?_ | refine V.skip ?_ | refine V.exit ?_ | refine thenK_normal ?_ | refine thenK_ret ?_ | refine thenK_exit ?_ | refine blockK_normal ?_ | refine blockK_ret ?_ | refine blockK_here ?_ | refine loopK_ret ?_ | refine loopK_exit ?_ | refine Ops.nil ?_ | refine A.blockK_on (h := ?_)) | ((with_reducible first | refine A.drw tabOk ⟨[], [], []⟩ mixed (h := ?_) | refine A.reg tabOk (h := ?_) | refine And.intro (by omega) ?_ | refine A.load tabOk (h := ?_) | refine A.or tabOk (h := ?_) | refine A.and tabOk (h := ?_) | refine A.gopen tabOk (h := ?_) | refine A.gshutP tabOk (h := ?_) | refine A.gshutM tabOk (h := ?_) | refine A.gshutN tabOk (h := ?_) | refine A.pickT tabOk (h := ?_) | refine A.pickF tabOk (h := ?_) | refine A.gstep tabOk (h := ?_) | refine A.gload tabOk (h := ?_) | refine A.store tabOk (h := ?_) | refine A.loadL tabOk (h := ?_) | refine A.loadE tabOk (h := ?_) | refine A.storeL tabOk (h := ?_)); (conv => whnf)) | (with_reducible first | refine A.condT (hx := ?_) | refine A.condF (hy := ?_)) | fail)
    refine loopK_again ⟨(i + 1, v1, c1), by dsimp only; omega, by dsimp only; rw [hmk, List.map_append, List.flatten_append]; simpa using hv1⟩ ?_ (by first | exact Weak.refl _ | exact Weak.all _ | (repeat (first | exact Weak.refl _ | exact Weak.all _ | refine A.wpick (k := ?_) | apply Weak.drop))) (by dsimp only; omega)
    dsimp only
    rw [hea]
    exact (by with_unfolding_all repeat (first | exact trivial | refine And.intro rfl ?_))
  · obtain rfl : i = n := by omega
    rw [List.take_of_length_le (by omega)] at hv hml
    have s1 := fun C (hw : Weak C (c :: [])) => spaced_q W C _ i _ 3 P (hv.rds.mono hw) hml (by omega)
    rw [mkJ_sp P hP _ 0 0 false (by omega) (by omega) (by intro h; cases h)] at s1
    have s2 := fun C (hw : Weak C (c :: [])) => overlap_q W C _ i _ (hv.rds.mono hw) hml (by omega)
    rw [mkJ_ov P hP] at s2
    have s4 := fun C (hw : Weak C (c :: [])) => spaced_q W C _ i _ 4 (P + 200) (hv.rds.mono hw) hml (by omega)
    rw [mkJ_sp4] at s4
    repeat' (first | (with_reducible first | refine V.seq ?_ | refine V.block ?_ | refine V.ret ?_ | refine V.skip ?_ | refine V.exit ?_ | refine thenK_normal ?_ | refine thenK_ret ?_ | refine thenK_exit ?_ | refine blockK_normal ?_ | refine blockK_ret ?_ | refine blockK_here ?_ | refine loopK_ret ?_ | refine loopK_exit ?_ | refine Ops.nil ?_ | refine A.blockK_on (h := ?_)) | ((with_reducible first | refine A.drw tabOk ⟨[], [], []⟩ mixed (h := ?_) | refine A.reg tabOk (h := ?_) | refine And.intro (by omega) ?_ | refine A.load tabOk (h := ?_) | refine A.or tabOk (h := ?_) | refine A.and tabOk (h := ?_) | refine A.gopen tabOk (h := ?_) | refine A.gshutP tabOk (h := ?_) | refine A.gshutM tabOk (h := ?_) | refine A.gshutN tabOk (h := ?_) | refine A.pickT tabOk (h := ?_) | refine A.pickF tabOk (h := ?_) | refine A.gstep tabOk (h := ?_) | refine A.gload tabOk (h := ?_) | refine A.store tabOk (h := ?_) | refine A.loadL tabOk (h := ?_) | refine A.loadE tabOk (h := ?_) | refine A.storeL tabOk (h := ?_)); (conv => whnf)) | (with_reducible first | refine A.condT (hx := ?_) | refine A.condF (hy := ?_)) | fail)
    (with_reducible refine A.callQ tabOk (hs := s1 _ (by first | exact Weak.refl _ | exact Weak.all _ | (repeat (first | exact Weak.refl _ | exact Weak.all _ | refine A.wpick (k := ?_) | apply Weak.drop)))) (h := ?_)); (conv => whnf)
    repeat' (first | (with_reducible first | refine V.seq ?_ | refine V.block ?_ | refine V.ret ?_ | refine V.skip ?_ | refine V.exit ?_ | refine thenK_normal ?_ | refine thenK_ret ?_ | refine thenK_exit ?_ | refine blockK_normal ?_ | refine blockK_ret ?_ | refine blockK_here ?_ | refine loopK_ret ?_ | refine loopK_exit ?_ | refine Ops.nil ?_ | refine A.blockK_on (h := ?_)) | ((with_reducible first | refine A.drw tabOk ⟨[], [], []⟩ mixed (h := ?_) | refine A.reg tabOk (h := ?_) | refine And.intro (by omega) ?_ | refine A.load tabOk (h := ?_) | refine A.or tabOk (h := ?_) | refine A.and tabOk (h := ?_) | refine A.gopen tabOk (h := ?_) | refine A.gshutP tabOk (h := ?_) | refine A.gshutM tabOk (h := ?_) | refine A.gshutN tabOk (h := ?_) | refine A.pickT tabOk (h := ?_) | refine A.pickF tabOk (h := ?_) | refine A.gstep tabOk (h := ?_) | refine A.gload tabOk (h := ?_) | refine A.store tabOk (h := ?_) | refine A.loadL tabOk (h := ?_) | refine A.loadE tabOk (h := ?_) | refine A.storeL tabOk (h := ?_)); (conv => whnf)) | (with_reducible first | refine A.condT (hx := ?_) | refine A.condF (hy := ?_)) | fail)
    (with_reducible refine A.callQ tabOk (hs := s2 _ (by first | exact Weak.refl _ | exact Weak.all _ | (repeat (first | exact Weak.refl _ | exact Weak.all _ | refine A.wpick (k := ?_) | apply Weak.drop)))) (h := ?_)); (conv => whnf)
    by_cases h2 : i < 2
    · repeat' (first | (with_reducible first | refine V.seq ?_ | refine V.block ?_ | refine V.ret ?_ | refine V.skip ?_ | refine V.exit ?_ | refine thenK_normal ?_ | refine thenK_ret ?_ | refine thenK_exit ?_ | refine blockK_normal ?_ | refine blockK_ret ?_ | refine blockK_here ?_ | refine loopK_ret ?_ | refine loopK_exit ?_ | refine Ops.nil ?_ | refine A.blockK_on (h := ?_)) | ((with_reducible first | refine A.drw tabOk ⟨[], [], []⟩ mixed (h := ?_) | refine A.reg tabOk (h := ?_) | refine And.intro (by omega) ?_ | refine A.load tabOk (h := ?_) | refine A.or tabOk (h := ?_) | refine A.and tabOk (h := ?_) | refine A.gopen tabOk (h := ?_) | refine A.gshutP tabOk (h := ?_) | refine A.gshutM tabOk (h := ?_) | refine A.gshutN tabOk (h := ?_) | refine A.pickT tabOk (h := ?_) | refine A.pickF tabOk (h := ?_) | refine A.gstep tabOk (h := ?_) | refine A.gload tabOk (h := ?_) | refine A.store tabOk (h := ?_) | refine A.loadL tabOk (h := ?_) | refine A.loadE tabOk (h := ?_) | refine A.storeL tabOk (h := ?_)); (conv => whnf)) | (with_reducible first | refine A.condT (hx := ?_) | refine A.condF (hy := ?_)) | fail)
      (with_reducible refine A.callQ tabOk (hs := s4 _ (by first | exact Weak.refl _ | exact Weak.all _ | (repeat (first | exact Weak.refl _ | exact Weak.all _ | refine A.wpick (k := ?_) | apply Weak.drop)))) (h := ?_)); (conv => whnf)
      repeat' (first | (with_reducible first | refine V.seq ?_ | refine V.block ?_ | refine V.ret ?_ | refine V.skip ?_ | refine V.exit ?_ | refine thenK_normal ?_ | refine thenK_ret ?_ | refine thenK_exit ?_ | refine blockK_normal ?_ | refine blockK_ret ?_ | refine blockK_here ?_ | refine loopK_ret ?_ | refine loopK_exit ?_ | refine Ops.nil ?_ | refine A.blockK_on (h := ?_)) | ((with_reducible first | refine A.drw tabOk ⟨[], [], []⟩ mixed (h := ?_) | refine A.reg tabOk (h := ?_) | refine And.intro (by omega) ?_ | refine A.load tabOk (h := ?_) | refine A.or tabOk (h := ?_) | refine A.and tabOk (h := ?_) | refine A.gopen tabOk (h := ?_) | refine A.gshutP tabOk (h := ?_) | refine A.gshutM tabOk (h := ?_) | refine A.gshutN tabOk (h := ?_) | refine A.pickT tabOk (h := ?_) | refine A.pickF tabOk (h := ?_) | refine A.gstep tabOk (h := ?_) | refine A.gload tabOk (h := ?_) | refine A.store tabOk (h := ?_) | refine A.loadL tabOk (h := ?_) | refine A.loadE tabOk (h := ?_) | refine A.storeL tabOk (h := ?_)); (conv => whnf)) | (with_reducible first | refine A.condT (hx := ?_) | refine A.condF (hy := ?_)) | fail)
      (with_reducible refine A.callQ tabOk (hs := awake_q _ _) (h := ?_)); (conv => whnf)
      repeat' (first | (with_reducible first | refine V.seq ?_ | refine V.block ?_ | refine V.ret ?_ | refine V.skip ?_ | refine V.exit ?_ | refine thenK_normal ?_ | refine thenK_ret ?_ | refine thenK_exit ?_ | refine blockK_normal ?_ | refine blockK_ret ?_ | refine blockK_here ?_ | refine loopK_ret ?_ | refine loopK_exit ?_ | refine Ops.nil ?_ | refine A.blockK_on (h := ?_)) | ((with_reducible first | refine A.drw tabOk ⟨[], [], []⟩ mixed (h := ?_) | refine A.reg tabOk (h := ?_) | refine And.intro (by omega) ?_ | refine A.load tabOk (h := ?_) | refine A.or tabOk (h := ?_) | refine A.and tabOk (h := ?_) | refine A.gopen tabOk (h := ?_) | refine A.gshutP tabOk (h := ?_) | refine A.gshutM tabOk (h := ?_) | refine A.gshutN tabOk (h := ?_) | refine A.pickT tabOk (h := ?_) | refine A.pickF tabOk (h := ?_) | refine A.gstep tabOk (h := ?_) | refine A.gload tabOk (h := ?_) | refine A.store tabOk (h := ?_) | refine A.loadL tabOk (h := ?_) | refine A.loadE tabOk (h := ?_) | refine A.storeL tabOk (h := ?_)); (conv => whnf)) | (with_reducible first | refine A.condT (hx := ?_) | refine A.condF (hy := ?_)) | fail)
      exact retK_ret rfl (by first | exact Weak.refl _ | exact Weak.all _ | (repeat (first | exact Weak.refl _ | exact Weak.all _ | refine A.wpick (k := ?_) | apply Weak.drop))) ⟨rfl, rfl⟩
    · have s3 := fun C (hw : Weak C (c :: [])) => spaced_q W C _ i _ 3 (P + 200) (hv.rds.mono hw) hml (by omega)
      rw [mkJ_far P hP _ (by omega)] at s3
      repeat' (first | (with_reducible first | refine V.seq ?_ | refine V.block ?_ | refine V.ret ?_ | refine V.skip ?_ | refine V.exit ?_ | refine thenK_normal ?_ | refine thenK_ret ?_ | refine thenK_exit ?_ | refine blockK_normal ?_ | refine blockK_ret ?_ | refine blockK_here ?_ | refine loopK_ret ?_ | refine loopK_exit ?_ | refine Ops.nil ?_ | refine A.blockK_on (h := ?_)) | ((with_reducible first | refine A.drw tabOk ⟨[], [], []⟩ mixed (h := ?_) | refine A.reg tabOk (h := ?_) | refine And.intro (by omega) ?_ | refine A.load tabOk (h := ?_) | refine A.or tabOk (h := ?_) | refine A.and tabOk (h := ?_) | refine A.gopen tabOk (h := ?_) | refine A.gshutP tabOk (h := ?_) | refine A.gshutM tabOk (h := ?_) | refine A.gshutN tabOk (h := ?_) | refine A.pickT tabOk (h := ?_) | refine A.pickF tabOk (h := ?_) | refine A.gstep tabOk (h := ?_) | refine A.gload tabOk (h := ?_) | refine A.store tabOk (h := ?_) | refine A.loadL tabOk (h := ?_) | refine A.loadE tabOk (h := ?_) | refine A.storeL tabOk (h := ?_)); (conv => whnf)) | (with_reducible first | refine A.condT (hx := ?_) | refine A.condF (hy := ?_)) | fail)
      (with_reducible refine A.callQ tabOk (hs := s3 _ (by first | exact Weak.refl _ | exact Weak.all _ | (repeat (first | exact Weak.refl _ | exact Weak.all _ | refine A.wpick (k := ?_) | apply Weak.drop)))) (h := ?_)); (conv => whnf)
      repeat' (first | (with_reducible first | refine V.seq ?_ | refine V.block ?_ | refine V.ret ?_ | refine V.skip ?_ | refine V.exit ?_ | refine thenK_normal ?_ | refine thenK_ret ?_ | refine thenK_exit ?_ | refine blockK_normal ?_ | refine blockK_ret ?_ | refine blockK_here ?_ | refine loopK_ret ?_ | refine loopK_exit ?_ | refine Ops.nil ?_ | refine A.blockK_on (h := ?_)) | ((with_reducible first | refine A.drw tabOk ⟨[], [], []⟩ mixed (h := ?_) | refine A.reg tabOk (h := ?_) | refine And.intro (by omega) ?_ | refine A.load tabOk (h := ?_) | refine A.or tabOk (h := ?_) | refine A.and tabOk (h := ?_) | refine A.gopen tabOk (h := ?_) | refine A.gshutP tabOk (h := ?_) | refine A.gshutM tabOk (h := ?_) | refine A.gshutN tabOk (h := ?_) | refine A.pickT tabOk (h := ?_) | refine A.pickF tabOk (h := ?_) | refine A.gstep tabOk (h := ?_) | refine A.gload tabOk (h := ?_) | refine A.store tabOk (h := ?_) | refine A.loadL tabOk (h := ?_) | refine A.loadE tabOk (h := ?_) | refine A.storeL tabOk (h := ?_)); (conv => whnf)) | (with_reducible first | refine A.condT (hx := ?_) | refine A.condF (hy := ?_)) | fail)
      (with_reducible refine A.callQ tabOk (hs := s4 _ (by first | exact Weak.refl _ | exact Weak.all _ | (repeat (first | exact Weak.refl _ | exact Weak.all _ | refine A.wpick (k := ?_) | apply Weak.drop)))) (h := ?_)); (conv => whnf)
      repeat' (first | (with_reducible first | refine V.seq ?_ | refine V.block ?_ | refine V.ret ?_ | refine V.skip ?_ | refine V.exit ?_ | refine thenK_normal ?_ | refine thenK_ret ?_ | refine thenK_exit ?_ | refine blockK_normal ?_ | refine blockK_ret ?_ | refine blockK_here ?_ | refine loopK_ret ?_ | refine loopK_exit ?_ | refine Ops.nil ?_ | refine A.blockK_on (h := ?_)) | ((with_reducible first | refine A.drw tabOk ⟨[], [], []⟩ mixed (h := ?_) | refine A.reg tabOk (h := ?_) | refine And.intro (by omega) ?_ | refine A.load tabOk (h := ?_) | refine A.or tabOk (h := ?_) | refine A.and tabOk (h := ?_) | refine A.gopen tabOk (h := ?_) | refine A.gshutP tabOk (h := ?_) | refine A.gshutM tabOk (h := ?_) | refine A.gshutN tabOk (h := ?_) | refine A.pickT tabOk (h := ?_) | refine A.pickF tabOk (h := ?_) | refine A.gstep tabOk (h := ?_) | refine A.gload tabOk (h := ?_) | refine A.store tabOk (h := ?_) | refine A.loadL tabOk (h := ?_) | refine A.loadE tabOk (h := ?_) | refine A.storeL tabOk (h := ?_)); (conv => whnf)) | (with_reducible first | refine A.condT (hx := ?_) | refine A.condF (hy := ?_)) | fail)
      (with_reducible refine A.callQ tabOk (hs := awake_q _ _) (h := ?_)); (conv => whnf)
      repeat' (first | (with_reducible first | refine V.seq ?_ | refine V.block ?_ | refine V.ret ?_ | refine V.skip ?_ | refine V.exit ?_ | refine thenK_normal ?_ | refine thenK_ret ?_ | refine thenK_exit ?_ | refine blockK_normal ?_ | refine blockK_ret ?_ | refine blockK_here ?_ | refine loopK_ret ?_ | refine loopK_exit ?_ | refine Ops.nil ?_ | refine A.blockK_on (h := ?_)) | ((with_reducible first | refine A.drw tabOk ⟨[], [], []⟩ mixed (h := ?_) | refine A.reg tabOk (h := ?_) | refine And.intro (by omega) ?_ | refine A.load tabOk (h := ?_) | refine A.or tabOk (h := ?_) | refine A.and tabOk (h := ?_) | refine A.gopen tabOk (h := ?_) | refine A.gshutP tabOk (h := ?_) | refine A.gshutM tabOk (h := ?_) | refine A.gshutN tabOk (h := ?_) | refine A.pickT tabOk (h := ?_) | refine A.pickF tabOk (h := ?_) | refine A.gstep tabOk (h := ?_) | refine A.gload tabOk (h := ?_) | refine A.store tabOk (h := ?_) | refine A.loadL tabOk (h := ?_) | refine A.loadE tabOk (h := ?_) | refine A.storeL tabOk (h := ?_)); (conv => whnf)) | (with_reducible first | refine A.condT (hx := ?_) | refine A.condF (hy := ?_)) | fail)
      exact retK_ret rfl (by first | exact Weak.refl _ | exact Weak.all _ | (repeat (first | exact Weak.refl _ | exact Weak.all _ | refine A.wpick (k := ?_) | apply Weak.drop))) ⟨rfl, rfl⟩
end Go.Proofs.Ytkcabcejnikihaa
