/-
  Whom a mutex belongs to; Low. No conditions but those that each theorem names.
-/
import Derived.Test.YtfmjehkohlbebaaGreatDoorTB
import Derived.Test.YtfmjehkohlbebaaGreatDoorEA
import Derived.Test.YtfmjehkohlbebaaGreatDoorE4
import Derived.Test.YtfmjehkohlbebaaGreatDoorD5
/- A part of the proofs: what functions of the program do, each by its own contract; printed by a program of mine. No conditions but those that each theorem names. -/
namespace Go.Proofs.YtfmjehkohlbebaaGreatDoor
open Eng
set_option maxRecDepth 100000
set_option maxHeartbeats 4000000
set_option linter.unusedVariables false

theorem held1_q (W0 : World) (C : Heap) (x m : Int) (u : Value) (hu : u.oneCell' = true) (c : Nat) (hc : Rd W0 C ⟨c, 0, none⟩ (.int .i64 m)) : Gives W0 Tryz.prog 131 #[.agg #[.int .i64 x, u], .pointer (some ⟨c, 0, none⟩)] C (.bool (decide (x = m))) := Gives.of fun X => by
  refine Does.go Tryz.func131 rfl Tryz.results131 Tryz.ntmps131 rfl rfl ?_; (conv => whnf)
  repeat' (first | (with_reducible first | refine V.seq ?_ | refine V.block ?_ | refine V.ret ?_ | refine V.skip ?_ | refine V.exit ?_ | refine thenK_normal ?_ | refine thenK_ret ?_ | refine thenK_exit ?_ | refine blockK_normal ?_ | refine blockK_ret ?_ | refine blockK_here ?_ | refine loopK_ret ?_ | refine loopK_exit ?_ | refine Ops.nil ?_ | refine A.blockK_on (h := ?_)) | ((with_reducible first | refine A.drw tabOk ⟨[], [], []⟩ mixed (h := ?_) | refine A.reg tabOk (h := ?_) | refine And.intro (by omega) ?_ | refine A.load tabOk (h := ?_) | refine A.or tabOk (h := ?_) | refine A.and tabOk (h := ?_) | refine A.gopen tabOk (h := ?_) | refine A.gshutP tabOk (h := ?_) | refine A.gshutM tabOk (h := ?_) | refine A.gshutN tabOk (h := ?_) | refine A.pickT tabOk (h := ?_) | refine A.pickF tabOk (h := ?_) | refine A.gstep tabOk (h := ?_) | refine A.gload tabOk (h := ?_) | refine A.store tabOk (h := ?_) | refine A.loadL tabOk (h := ?_) | refine A.loadE tabOk (h := ?_) | refine A.storeL tabOk (h := ?_) | refine A.gloadL tabOk (h := ?_) | refine A.gloadE tabOk (h := ?_) | refine A.convS tabOk (h := ?_)); (conv => whnf)) | (with_reducible first | refine A.condT (hx := ?_) | refine A.condF (hy := ?_)) | fail)
  (first | with_reducible refine A.boxN tabOk (h := ?_) | with_reducible refine A.box tabOk (h := ?_)); intro b; (conv => whnf)
  have hc1 := (hc.mono (Weak.skip X C)).mono (Weak.skip [(b, Obj.cells #[Value.int .i64 x, u] 166)] (X :: C))
  repeat' (first | (with_reducible first | refine V.seq ?_ | refine V.block ?_ | refine V.ret ?_ | refine V.skip ?_ | refine V.exit ?_ | refine thenK_normal ?_ | refine thenK_ret ?_ | refine thenK_exit ?_ | refine blockK_normal ?_ | refine blockK_ret ?_ | refine blockK_here ?_ | refine loopK_ret ?_ | refine loopK_exit ?_ | refine Ops.nil ?_ | refine A.blockK_on (h := ?_)) | ((with_reducible first | refine A.drw tabOk ⟨[], [], []⟩ mixed (h := ?_) | refine A.reg tabOk (h := ?_) | refine And.intro (by omega) ?_ | refine A.load tabOk (h := ?_) | refine A.or tabOk (h := ?_) | refine A.and tabOk (h := ?_) | refine A.gopen tabOk (h := ?_) | refine A.gshutP tabOk (h := ?_) | refine A.gshutM tabOk (h := ?_) | refine A.gshutN tabOk (h := ?_) | refine A.pickT tabOk (h := ?_) | refine A.pickF tabOk (h := ?_) | refine A.gstep tabOk (h := ?_) | refine A.gload tabOk (h := ?_) | refine A.store tabOk (h := ?_) | refine A.loadL tabOk (h := ?_) | refine A.loadE tabOk (h := ?_) | refine A.storeL tabOk (h := ?_) | refine A.gloadL tabOk (h := ?_) | refine A.gloadE tabOk (h := ?_) | refine A.convS tabOk (h := ?_)); (conv => whnf)) | (with_reducible first | refine A.condT (hx := ?_) | refine A.condF (hy := ?_)) | fail)
  exact retK_ret rfl (by first | exact Weak.refl _ | exact Weak.all _ | (repeat (first | exact Weak.refl _ | exact Weak.all _ | refine A.wpick (k := ?_) | apply Weak.drop))) ⟨by simp [tup], rfl⟩

theorem index_s (W0 : World) (C : Heap) (s : Value) (n : Nat) (xs : List Value) (ks : Nat → Int) (us : Nat → Value) (m : Int) (c : Nat) (hs : RdS W0 C 2 s n xs) (hk : ∀ i, i < n → xs[2 * i]? = some (.int .i64 (ks i)) ∧ xs[2 * i + 1]? = some (us i) ∧ (us i).oneCell' = true) (hc : Rd W0 C ⟨c, 0, none⟩ (.int .i64 m)) (hn : n ≤ 1000000) :
    Does W0 Tryz.prog 188 #[s, .func (.func 131) #[] #[.pointer (some ⟨c, 0, none⟩)]] C (fun v C' => C' = C ∧ ∃ r : Int, v = .int .i64 r ∧ (-1 ≤ r ∧ r ≤ 1000000) ∧ (0 ≤ r ↔ ∃ i, i < n ∧ ks i = m)) := by
  obtain ⟨ao, ac, rfl, hac, har⟩ := hs.form
  refine Does.go Tryz.func188 rfl Tryz.results188 Tryz.ntmps188 rfl rfl ?_; (conv => whnf)
  repeat' (first | (with_reducible first | refine V.seq ?_ | refine V.block ?_ | refine V.ret ?_ | refine V.skip ?_ | refine V.exit ?_ | refine thenK_normal ?_ | refine thenK_ret ?_ | refine thenK_exit ?_ | refine blockK_normal ?_ | refine blockK_ret ?_ | refine blockK_here ?_ | refine loopK_ret ?_ | refine loopK_exit ?_ | refine Ops.nil ?_ | refine A.blockK_on (h := ?_)) | ((with_reducible first | refine A.drw tabOk ⟨[], [], []⟩ mixed (h := ?_) | refine A.reg tabOk (h := ?_) | refine And.intro (by omega) ?_ | refine A.load tabOk (h := ?_) | refine A.or tabOk (h := ?_) | refine A.and tabOk (h := ?_) | refine A.gopen tabOk (h := ?_) | refine A.gshutP tabOk (h := ?_) | refine A.gshutM tabOk (h := ?_) | refine A.gshutN tabOk (h := ?_) | refine A.pickT tabOk (h := ?_) | refine A.pickF tabOk (h := ?_) | refine A.gstep tabOk (h := ?_) | refine A.gload tabOk (h := ?_) | refine A.store tabOk (h := ?_) | refine A.loadL tabOk (h := ?_) | refine A.loadE tabOk (h := ?_) | refine A.storeL tabOk (h := ?_) | refine A.gloadL tabOk (h := ?_) | refine A.gloadE tabOk (h := ?_) | refine A.convS tabOk (h := ?_)); (conv => whnf)) | (with_reducible first | refine A.condT (hx := ?_) | refine A.condF (hy := ?_)) | fail)
  refine V.loop (G := {k : Nat // k ≤ n ∧ ∀ j, j < k → ks j ≠ m}) (fun g => [(0, true, .slice ao n ac), (1, true, .func (.func 131) #[] #[.pointer (some ⟨c, 0, none⟩)]), (7, true, .int .i64 n), (8, true, .int .i64 g.1)]) (fun _ => C) (fun g => n - g.1) ⟨0, by omega, by omega⟩ (by with_unfolding_all repeat (first | exact trivial | refine And.intro rfl ?_)) (Weak.refl _) ?_
  rintro ⟨k, hkn, hno⟩
  dsimp only
  by_cases hlt : k < n
  · obtain ⟨b1, o1, rfl, r1⟩ := har (by omega)
    obtain ⟨h1, h2, h3⟩ := hk k hlt
    have q1 : RdL W0 C b1 (o1 + k * 2) [.int .i64 (ks k), us k] := fun j u hj => by
      have hj2 : j < 2 := by
        have := (List.getElem?_eq_some_iff.1 hj).1
        simpa using this
      have e : o1 + k * 2 + j = o1 + (2 * k + j) := by omega
      rw [e]
      refine r1 (2 * k + j) u ?_
      rcases j with _ | _ | j
      · simp only [List.getElem?_cons_zero] at hj; rw [← hj]; exact h1
      · simp only [List.getElem?_cons_succ, List.getElem?_cons_zero] at hj; rw [← hj]; exact h2
      · omega
    repeat' (first | (with_reducible first | refine V.seq ?_ | refine V.block ?_ | refine V.ret ?_ | refine V.skip ?_ | refine V.exit ?_ | refine thenK_normal ?_ | refine thenK_ret ?_ | refine thenK_exit ?_ | refine blockK_normal ?_ | refine blockK_ret ?_ | refine blockK_here ?_ | refine loopK_ret ?_ | refine loopK_exit ?_ | refine Ops.nil ?_ | refine A.blockK_on (h := ?_)) | ((with_reducible first | refine A.drw tabOk ⟨[], [], []⟩ mixed (h := ?_) | refine A.reg tabOk (h := ?_) | refine And.intro (by omega) ?_ | refine A.load tabOk (h := ?_) | refine A.or tabOk (h := ?_) | refine A.and tabOk (h := ?_) | refine A.gopen tabOk (h := ?_) | refine A.gshutP tabOk (h := ?_) | refine A.gshutM tabOk (h := ?_) | refine A.gshutN tabOk (h := ?_) | refine A.pickT tabOk (h := ?_) | refine A.pickF tabOk (h := ?_) | refine A.gstep tabOk (h := ?_) | refine A.gload tabOk (h := ?_) | refine A.store tabOk (h := ?_) | refine A.loadL tabOk (h := ?_) | refine A.loadE tabOk (h := ?_) | refine A.storeL tabOk (h := ?_) | refine A.gloadL tabOk (h := ?_) | refine A.gloadE tabOk (h := ?_) | refine A.convS tabOk (h := ?_)); (conv => whnf)) | (with_reducible first | refine A.condT (hx := ?_) | refine A.condF (hy := ?_)) | fail)
    (with_reducible refine A.callVQ tabOk (hs := held1_q _ _ (ks k) m (us k) h3 c hc) (h := ?_)); (conv => whnf)
    repeat' (first | (with_reducible first | refine V.seq ?_ | refine V.block ?_ | refine V.ret ?_ | refine V.skip ?_ | refine V.exit ?_ | refine thenK_normal ?_ | refine thenK_ret ?_ | refine thenK_exit ?_ | refine blockK_normal ?_ | refine blockK_ret ?_ | refine blockK_here ?_ | refine loopK_ret ?_ | refine loopK_exit ?_ | refine Ops.nil ?_ | refine A.blockK_on (h := ?_)) | ((with_reducible first | refine A.drw tabOk ⟨[], [], []⟩ mixed (h := ?_) | refine A.reg tabOk (h := ?_) | refine And.intro (by omega) ?_ | refine A.load tabOk (h := ?_) | refine A.or tabOk (h := ?_) | refine A.and tabOk (h := ?_) | refine A.gopen tabOk (h := ?_) | refine A.gshutP tabOk (h := ?_) | refine A.gshutM tabOk (h := ?_) | refine A.gshutN tabOk (h := ?_) | refine A.pickT tabOk (h := ?_) | refine A.pickF tabOk (h := ?_) | refine A.gstep tabOk (h := ?_) | refine A.gload tabOk (h := ?_) | refine A.store tabOk (h := ?_) | refine A.loadL tabOk (h := ?_) | refine A.loadE tabOk (h := ?_) | refine A.storeL tabOk (h := ?_) | refine A.gloadL tabOk (h := ?_) | refine A.gloadE tabOk (h := ?_) | refine A.convS tabOk (h := ?_)); (conv => whnf)) | (with_reducible first | refine A.condT (hx := ?_) | refine A.condF (hy := ?_)) | fail)
    refine V.cond rfl (fun h => ?_) (fun h => ?_)
    · repeat' (first | (with_reducible first | refine V.seq ?_ | refine V.block ?_ | refine V.ret ?_ | refine V.skip ?_ | refine V.exit ?_ | refine thenK_normal ?_ | refine thenK_ret ?_ | refine thenK_exit ?_ | refine blockK_normal ?_ | refine blockK_ret ?_ | refine blockK_here ?_ | refine loopK_ret ?_ | refine loopK_exit ?_ | refine Ops.nil ?_ | refine A.blockK_on (h := ?_)) | ((with_reducible first | refine A.drw tabOk ⟨[], [], []⟩ mixed (h := ?_) | refine A.reg tabOk (h := ?_) | refine And.intro (by omega) ?_ | refine A.load tabOk (h := ?_) | refine A.or tabOk (h := ?_) | refine A.and tabOk (h := ?_) | refine A.gopen tabOk (h := ?_) | refine A.gshutP tabOk (h := ?_) | refine A.gshutM tabOk (h := ?_) | refine A.gshutN tabOk (h := ?_) | refine A.pickT tabOk (h := ?_) | refine A.pickF tabOk (h := ?_) | refine A.gstep tabOk (h := ?_) | refine A.gload tabOk (h := ?_) | refine A.store tabOk (h := ?_) | refine A.loadL tabOk (h := ?_) | refine A.loadE tabOk (h := ?_) | refine A.storeL tabOk (h := ?_) | refine A.gloadL tabOk (h := ?_) | refine A.gloadE tabOk (h := ?_) | refine A.convS tabOk (h := ?_)); (conv => whnf)) | (with_reducible first | refine A.condT (hx := ?_) | refine A.condF (hy := ?_)) | fail)
      have hm : ks k = m := by simpa using h
      exact retK_ret rfl (Weak.refl _) ⟨rfl, (k : Int), rfl, by omega, ⟨fun _ => ⟨k, hlt, hm⟩, fun _ => by omega⟩⟩
    · repeat' (first | (with_reducible first | refine V.seq ?_ | refine V.block ?_ | refine V.ret ?_ | refine V.skip ?_ | refine V.exit ?_ | refine thenK_normal ?_ | refine thenK_ret ?_ | refine thenK_exit ?_ | refine blockK_normal ?_ | refine blockK_ret ?_ | refine blockK_here ?_ | refine loopK_ret ?_ | refine loopK_exit ?_ | refine Ops.nil ?_ | refine A.blockK_on (h := ?_)) | ((with_reducible first | refine A.drw tabOk ⟨[], [], []⟩ mixed (h := ?_) | refine A.reg tabOk (h := ?_) | refine And.intro (by omega) ?_ | refine A.load tabOk (h := ?_) | refine A.or tabOk (h := ?_) | refine A.and tabOk (h := ?_) | refine A.gopen tabOk (h := ?_) | refine A.gshutP tabOk (h := ?_) | refine A.gshutM tabOk (h := ?_) | refine A.gshutN tabOk (h := ?_) | refine A.pickT tabOk (h := ?_) | refine A.pickF tabOk (h := ?_) | refine A.gstep tabOk (h := ?_) | refine A.gload tabOk (h := ?_) | refine A.store tabOk (h := ?_) | refine A.loadL tabOk (h := ?_) | refine A.loadE tabOk (h := ?_) | refine A.storeL tabOk (h := ?_) | refine A.gloadL tabOk (h := ?_) | refine A.gloadE tabOk (h := ?_) | refine A.convS tabOk (h := ?_)); (conv => whnf)) | (with_reducible first | refine A.condT (hx := ?_) | refine A.condF (hy := ?_)) | fail)
      have hm : ks k ≠ m := by simpa using h
      refine loopK_again ⟨k + 1, by omega, fun j hj => ?_⟩ (by with_unfolding_all repeat (first | exact trivial | refine And.intro rfl ?_)) (Weak.refl _) (by dsimp only; omega)
      by_cases hjk : j = k
      · subst hjk; exact hm
      · exact hno j (by omega)
  · repeat' (first | (with_reducible first | refine V.seq ?_ | refine V.block ?_ | refine V.ret ?_ | refine V.skip ?_ | refine V.exit ?_ | refine thenK_normal ?_ | refine thenK_ret ?_ | refine thenK_exit ?_ | refine blockK_normal ?_ | refine blockK_ret ?_ | refine blockK_here ?_ | refine loopK_ret ?_ | refine loopK_exit ?_ | refine Ops.nil ?_ | refine A.blockK_on (h := ?_)) | ((with_reducible first | refine A.drw tabOk ⟨[], [], []⟩ mixed (h := ?_) | refine A.reg tabOk (h := ?_) | refine And.intro (by omega) ?_ | refine A.load tabOk (h := ?_) | refine A.or tabOk (h := ?_) | refine A.and tabOk (h := ?_) | refine A.gopen tabOk (h := ?_) | refine A.gshutP tabOk (h := ?_) | refine A.gshutM tabOk (h := ?_) | refine A.gshutN tabOk (h := ?_) | refine A.pickT tabOk (h := ?_) | refine A.pickF tabOk (h := ?_) | refine A.gstep tabOk (h := ?_) | refine A.gload tabOk (h := ?_) | refine A.store tabOk (h := ?_) | refine A.loadL tabOk (h := ?_) | refine A.loadE tabOk (h := ?_) | refine A.storeL tabOk (h := ?_) | refine A.gloadL tabOk (h := ?_) | refine A.gloadE tabOk (h := ?_) | refine A.convS tabOk (h := ?_)); (conv => whnf)) | (with_reducible first | refine A.condT (hx := ?_) | refine A.condF (hy := ?_)) | fail)
    have hkn' : k = n := by omega
    subst hkn'
    exact retK_ret rfl (Weak.refl _) ⟨rfl, -1, rfl, by omega, ⟨fun h => by omega, fun ⟨i, hi, he⟩ => absurd he (hno i hi)⟩⟩

open Classical in
theorem contains_q (W0 : World) (C : Heap) (s : Value) (n : Nat) (xs : List Value) (ks : Nat → Int) (us : Nat → Value) (m : Int) (c : Nat) (b : Bool) (hs : RdS W0 C 2 s n xs) (hk : ∀ i, i < n → xs[2 * i]? = some (.int .i64 (ks i)) ∧ xs[2 * i + 1]? = some (us i) ∧ (us i).oneCell' = true) (hc : Rd W0 C ⟨c, 0, none⟩ (.int .i64 m)) (hn : n ≤ 1000000)
    (hb : b = true ↔ ∃ i, i < n ∧ ks i = m) : Gives W0 Tryz.prog 128 #[s, .func (.func 131) #[] #[.pointer (some ⟨c, 0, none⟩)]] C (.bool b) := Gives.of fun X => by
  refine Does.go Tryz.func128 rfl Tryz.results128 Tryz.ntmps128 rfl rfl ?_; (conv => whnf)
  repeat' (first | (with_reducible first | refine V.seq ?_ | refine V.block ?_ | refine V.ret ?_ | refine V.skip ?_ | refine V.exit ?_ | refine thenK_normal ?_ | refine thenK_ret ?_ | refine thenK_exit ?_ | refine blockK_normal ?_ | refine blockK_ret ?_ | refine blockK_here ?_ | refine loopK_ret ?_ | refine loopK_exit ?_ | refine Ops.nil ?_ | refine A.blockK_on (h := ?_)) | ((with_reducible first | refine A.drw tabOk ⟨[], [], []⟩ mixed (h := ?_) | refine A.reg tabOk (h := ?_) | refine And.intro (by omega) ?_ | refine A.load tabOk (h := ?_) | refine A.or tabOk (h := ?_) | refine A.and tabOk (h := ?_) | refine A.gopen tabOk (h := ?_) | refine A.gshutP tabOk (h := ?_) | refine A.gshutM tabOk (h := ?_) | refine A.gshutN tabOk (h := ?_) | refine A.pickT tabOk (h := ?_) | refine A.pickF tabOk (h := ?_) | refine A.gstep tabOk (h := ?_) | refine A.gload tabOk (h := ?_) | refine A.store tabOk (h := ?_) | refine A.loadL tabOk (h := ?_) | refine A.loadE tabOk (h := ?_) | refine A.storeL tabOk (h := ?_) | refine A.gloadL tabOk (h := ?_) | refine A.gloadE tabOk (h := ?_) | refine A.convS tabOk (h := ?_)); (conv => whnf)) | (with_reducible first | refine A.condT (hx := ?_) | refine A.condF (hy := ?_)) | fail)
  (with_reducible refine A.call tabOk (hs := index_s _ _ s n xs ks us m c (hs.mono (Weak.skip X C)) hk (hc.mono (Weak.skip X C)) hn ) (h := ?_)); rintro _ _ ⟨rfl, r, rfl, hr, hi⟩; refine ⟨(by with_unfolding_all first | exact Weak.refl _ | exact Weak.all _ | (repeat (first | exact Weak.refl _ | exact Weak.all _ | refine A.wpick (k := ?_) | apply Weak.drop))), ?_⟩; (conv => whnf)
  repeat' (first | (with_reducible first | refine V.seq ?_ | refine V.block ?_ | refine V.ret ?_ | refine V.skip ?_ | refine V.exit ?_ | refine thenK_normal ?_ | refine thenK_ret ?_ | refine thenK_exit ?_ | refine blockK_normal ?_ | refine blockK_ret ?_ | refine blockK_here ?_ | refine loopK_ret ?_ | refine loopK_exit ?_ | refine Ops.nil ?_ | refine A.blockK_on (h := ?_)) | ((with_reducible first | refine A.drw tabOk ⟨[], [], []⟩ mixed (h := ?_) | refine A.reg tabOk (h := ?_) | refine And.intro (by omega) ?_ | refine A.load tabOk (h := ?_) | refine A.or tabOk (h := ?_) | refine A.and tabOk (h := ?_) | refine A.gopen tabOk (h := ?_) | refine A.gshutP tabOk (h := ?_) | refine A.gshutM tabOk (h := ?_) | refine A.gshutN tabOk (h := ?_) | refine A.pickT tabOk (h := ?_) | refine A.pickF tabOk (h := ?_) | refine A.gstep tabOk (h := ?_) | refine A.gload tabOk (h := ?_) | refine A.store tabOk (h := ?_) | refine A.loadL tabOk (h := ?_) | refine A.loadE tabOk (h := ?_) | refine A.storeL tabOk (h := ?_) | refine A.gloadL tabOk (h := ?_) | refine A.gloadE tabOk (h := ?_) | refine A.convS tabOk (h := ?_)); (conv => whnf)) | (with_reducible first | refine A.condT (hx := ?_) | refine A.condF (hy := ?_)) | fail)
  refine retK_ret rfl (by first | exact Weak.refl _ | exact Weak.all _ | (repeat (first | exact Weak.refl _ | exact Weak.all _ | refine A.wpick (k := ?_) | apply Weak.drop))) ⟨?_, rfl⟩
  simp only [tup]
  congr 1
  rw [Bool.eq_iff_iff, decide_eq_true_iff, hb]
  exact hi

end Go.Proofs.YtfmjehkohlbebaaGreatDoor

/- A part of the proofs: what functions of the program do, each by its own contract; printed by a program of mine. No conditions but those that each theorem names. -/
namespace Go.Proofs.YtfmjehkohlbebaaGreatDoor
open Eng
set_option maxRecDepth 100000
set_option maxHeartbeats 4000000
set_option linter.unusedVariables false

/-- What is told of one entry: whether its row names the mutex. -/
def RowHas (W0 : World) (C : Heap) (m : Int) (v : Value) (b : Bool) : Prop :=
  ∃ n xs, ∃ ks : Nat → Int, ∃ us : Nat → Value, RdS W0 C 2 v n xs ∧ (∀ i, i < n → xs[2 * i]? = some (.int .i64 (ks i)) ∧ xs[2 * i + 1]? = some (us i) ∧ (us i).oneCell' = true) ∧ n ≤ 1000000 ∧ (b = true ↔ ∃ i, i < n ∧ ks i = m)

theorem RowHas.q {W0 : World} {C C' : Heap} {m : Int} {v : Value} {b : Bool} (h : RowHas W0 C m v b) (k : Weak C' C) {c : Nat} (hc : Rd W0 C' ⟨c, 0, none⟩ (.int .i64 m)) : Gives W0 Tryz.prog 128 #[v, .func (.func 131) #[] #[.pointer (some ⟨c, 0, none⟩)]] C' (.bool b) := by
  obtain ⟨n, xs, ks, us, h1, h2, h3, h4⟩ := h
  exact contains_q W0 C' v n xs ks us m c b (h1.mono k) h2 hc h3 h4

theorem filter_lt {seen : List Nat} : ∀ (E : List Ent) (p : Ent), p ∈ E → p.2.2 ∉ seen → (E.filter fun q => !(seen ++ [p.2.2]).contains q.2.2).length < (E.filter fun q => !seen.contains q.2.2).length
  | [], p, hp, _ => by cases hp
  | q :: E, p, hp, hn => by
    have le : ∀ E : List Ent, (E.filter fun q => !(seen ++ [p.2.2]).contains q.2.2).length ≤ (E.filter fun q => !seen.contains q.2.2).length := by
      intro E
      induction E with
      | nil => simp
      | cons q E ih =>
        simp only [List.filter_cons]
        by_cases h1 : q.2.2 ∈ seen
        · have a1 : seen.contains q.2.2 = true := by simpa using h1
          have a2 : (seen ++ [p.2.2]).contains q.2.2 = true := by simp [h1]
          simp only [a1, a2, Bool.not_true, Bool.false_eq_true, if_false]; exact ih
        · have a1 : seen.contains q.2.2 = false := by simpa using h1
          simp only [a1, Bool.not_false, if_true, List.length_cons]
          split
          · simp only [List.length_cons]; omega
          · omega
    simp only [List.filter_cons]
    rcases List.mem_cons.1 hp with rfl | hp
    · have a1 : seen.contains p.2.2 = false := by simpa using hn
      have a2 : (seen ++ [p.2.2]).contains p.2.2 = true := by simp
      simp only [a1, a2, Bool.not_true, Bool.not_false, Bool.false_eq_true, if_false, if_true, List.length_cons]
      have := le E
      omega
    · have ih := filter_lt (seen := seen) E p hp hn
      by_cases h1 : q.2.2 ∈ seen
      · have a1 : seen.contains q.2.2 = true := by simpa using h1
        have a2 : (seen ++ [p.2.2]).contains q.2.2 = true := by simp [h1]
        simp only [a1, a2, Bool.not_true, Bool.false_eq_true, if_false]; exact ih
      · have a1 : seen.contains q.2.2 = false := by simpa using h1
        simp only [a1, Bool.not_false, if_true, List.length_cons]
        split
        · simp only [List.length_cons]; omega
        · omega

theorem owner_s (W0 : World) (C : Heap) (l o h : Nat) (E : List Ent) (clock : Nat) (m : Int) (B : Ent → Bool) (hl : Rd W0 C ⟨l, 1, none⟩ (.map (some h))) (hh : At W0 C h (mapO E clock)) (hB : ∀ p ∈ E, RowHas W0 C m p.2.1 (B p)) (hnd : (E.map (·.2.2)).Nodup) (hc : ∀ p ∈ E, p.2.2 < clock) :
    Does W0 Tryz.prog 73 #[.pointer (some ⟨l, 0, none⟩), .int .i64 m] C (fun v C' => (∃ c1 c2, C' = c1 :: c2 :: C) ∧ ((∃ p ∈ E, B p = true ∧ v = .int .i64 p.1) ∨ ((∀ p ∈ E, B p = false) ∧ v = .int .i64 (-1)))) := by
  refine Does.go Tryz.func73 rfl Tryz.results73 Tryz.ntmps73 rfl rfl ?_; (conv => whnf)
  repeat' (first | (with_reducible first | refine V.seq ?_ | refine V.block ?_ | refine V.ret ?_ | refine V.skip ?_ | refine V.exit ?_ | refine thenK_normal ?_ | refine thenK_ret ?_ | refine thenK_exit ?_ | refine blockK_normal ?_ | refine blockK_ret ?_ | refine blockK_here ?_ | refine loopK_ret ?_ | refine loopK_exit ?_ | refine Ops.nil ?_ | refine A.blockK_on (h := ?_)) | ((with_reducible first | refine A.drw tabOk ⟨[], [], []⟩ mixed (h := ?_) | refine A.reg tabOk (h := ?_) | refine And.intro (by omega) ?_ | refine A.load tabOk (h := ?_) | refine A.or tabOk (h := ?_) | refine A.and tabOk (h := ?_) | refine A.gopen tabOk (h := ?_) | refine A.gshutP tabOk (h := ?_) | refine A.gshutM tabOk (h := ?_) | refine A.gshutN tabOk (h := ?_) | refine A.pickT tabOk (h := ?_) | refine A.pickF tabOk (h := ?_) | refine A.gstep tabOk (h := ?_) | refine A.gload tabOk (h := ?_) | refine A.store tabOk (h := ?_) | refine A.loadL tabOk (h := ?_) | refine A.loadE tabOk (h := ?_) | refine A.storeL tabOk (h := ?_) | refine A.gloadL tabOk (h := ?_) | refine A.gloadE tabOk (h := ?_) | refine A.convS tabOk (h := ?_)); (conv => whnf)) | (with_reducible first | refine A.condT (hx := ?_) | refine A.condF (hy := ?_)) | fail)
  (first | with_reducible refine A.boxN tabOk (h := ?_) | with_reducible refine A.box tabOk (h := ?_)); intro b; (conv => whnf)
  have hl1 := hl.mono (Weak.skip [(b, Obj.cells #[Value.int .i64 m] 3)] C)
  have hh1 : At W0 ([(b, Obj.cells #[Value.int .i64 m] 3)] :: C) h (mapO E clock) := fun w hs => hh w (hs.weak (Weak.skip _ _))
  repeat' (first | (with_reducible first | refine V.seq ?_ | refine V.block ?_ | refine V.ret ?_ | refine V.skip ?_ | refine V.exit ?_ | refine thenK_normal ?_ | refine thenK_ret ?_ | refine thenK_exit ?_ | refine blockK_normal ?_ | refine blockK_ret ?_ | refine blockK_here ?_ | refine loopK_ret ?_ | refine loopK_exit ?_ | refine Ops.nil ?_ | refine A.blockK_on (h := ?_)) | ((with_reducible first | refine A.drw tabOk ⟨[], [], []⟩ mixed (h := ?_) | refine A.reg tabOk (h := ?_) | refine And.intro (by omega) ?_ | refine A.load tabOk (h := ?_) | refine A.or tabOk (h := ?_) | refine A.and tabOk (h := ?_) | refine A.gopen tabOk (h := ?_) | refine A.gshutP tabOk (h := ?_) | refine A.gshutM tabOk (h := ?_) | refine A.gshutN tabOk (h := ?_) | refine A.pickT tabOk (h := ?_) | refine A.pickF tabOk (h := ?_) | refine A.gstep tabOk (h := ?_) | refine A.gload tabOk (h := ?_) | refine A.store tabOk (h := ?_) | refine A.loadL tabOk (h := ?_) | refine A.loadE tabOk (h := ?_) | refine A.storeL tabOk (h := ?_) | refine A.gloadL tabOk (h := ?_) | refine A.gloadE tabOk (h := ?_) | refine A.convS tabOk (h := ?_)); (conv => whnf)) | (with_reducible first | refine A.condT (hx := ?_) | refine A.condF (hy := ?_)) | fail)
  refine Ops.range tabOk rfl rfl rfl hh1 (fun r => ⟨by first | exact Weak.refl _ | exact Weak.all _ | (repeat (first | exact Weak.refl _ | exact Weak.all _ | refine A.wpick (k := ?_) | apply Weak.drop)), ?_⟩); (conv => whnf)
  repeat' (first | (with_reducible first | refine V.seq ?_ | refine V.block ?_ | refine V.ret ?_ | refine V.skip ?_ | refine V.exit ?_ | refine thenK_normal ?_ | refine thenK_ret ?_ | refine thenK_exit ?_ | refine blockK_normal ?_ | refine blockK_ret ?_ | refine blockK_here ?_ | refine loopK_ret ?_ | refine loopK_exit ?_ | refine Ops.nil ?_ | refine A.blockK_on (h := ?_)) | ((with_reducible first | refine A.drw tabOk ⟨[], [], []⟩ mixed (h := ?_) | refine A.reg tabOk (h := ?_) | refine And.intro (by omega) ?_ | refine A.load tabOk (h := ?_) | refine A.or tabOk (h := ?_) | refine A.and tabOk (h := ?_) | refine A.gopen tabOk (h := ?_) | refine A.gshutP tabOk (h := ?_) | refine A.gshutM tabOk (h := ?_) | refine A.gshutN tabOk (h := ?_) | refine A.pickT tabOk (h := ?_) | refine A.pickF tabOk (h := ?_) | refine A.gstep tabOk (h := ?_) | refine A.gload tabOk (h := ?_) | refine A.store tabOk (h := ?_) | refine A.loadL tabOk (h := ?_) | refine A.loadE tabOk (h := ?_) | refine A.storeL tabOk (h := ?_) | refine A.gloadL tabOk (h := ?_) | refine A.gloadE tabOk (h := ?_) | refine A.convS tabOk (h := ?_)); (conv => whnf)) | (with_reducible first | refine A.condT (hx := ?_) | refine A.condF (hy := ?_)) | fail)
  refine V.loop (G := {s : List Nat // ∀ p ∈ E, p.2.2 ∈ s → B p = false}) (fun g => [(3, true, .pointer (some ⟨b, 0, none⟩)), (13, true, .pointer (some ⟨r, 0, none⟩))]) (fun g => itC r h clock g.1 clock :: [(b, Obj.cells #[Value.int .i64 m] 3)] :: C) (fun g => (E.filter fun q => !g.1.contains q.2.2).length) ⟨[], by simp⟩ (by with_unfolding_all repeat (first | exact trivial | refine And.intro rfl ?_)) (Weak.refl _) ?_
  rintro ⟨s, hs⟩
  dsimp only
  repeat' (first | (with_reducible first | refine V.seq ?_ | refine V.block ?_ | refine V.ret ?_ | refine V.skip ?_ | refine V.exit ?_ | refine thenK_normal ?_ | refine thenK_ret ?_ | refine thenK_exit ?_ | refine blockK_normal ?_ | refine blockK_ret ?_ | refine blockK_here ?_ | refine loopK_ret ?_ | refine loopK_exit ?_ | refine Ops.nil ?_ | refine A.blockK_on (h := ?_)) | ((with_reducible first | refine A.drw tabOk ⟨[], [], []⟩ mixed (h := ?_) | refine A.reg tabOk (h := ?_) | refine And.intro (by omega) ?_ | refine A.load tabOk (h := ?_) | refine A.or tabOk (h := ?_) | refine A.and tabOk (h := ?_) | refine A.gopen tabOk (h := ?_) | refine A.gshutP tabOk (h := ?_) | refine A.gshutM tabOk (h := ?_) | refine A.gshutN tabOk (h := ?_) | refine A.pickT tabOk (h := ?_) | refine A.pickF tabOk (h := ?_) | refine A.gstep tabOk (h := ?_) | refine A.gload tabOk (h := ?_) | refine A.store tabOk (h := ?_) | refine A.loadL tabOk (h := ?_) | refine A.loadE tabOk (h := ?_) | refine A.storeL tabOk (h := ?_) | refine A.gloadL tabOk (h := ?_) | refine A.gloadE tabOk (h := ?_) | refine A.convS tabOk (h := ?_)); (conv => whnf)) | (with_reducible first | refine A.condT (hx := ?_) | refine A.condF (hy := ?_)) | fail)
  refine Ops.next tabOk rfl rfl (Weak.refl _) hh1 hc (Nat.le_refl _) (fun hall => ⟨by first | exact Weak.refl _ | exact Weak.all _ | (repeat (first | exact Weak.refl _ | exact Weak.all _ | refine A.wpick (k := ?_) | apply Weak.drop)), ?_⟩) (fun p hp hps => ⟨by first | exact Weak.refl _ | exact Weak.all _ | (repeat (first | exact Weak.refl _ | exact Weak.all _ | refine A.wpick (k := ?_) | apply Weak.drop)), ?_⟩)
  · (conv => whnf)
    repeat' (first | (with_reducible first | refine V.seq ?_ | refine V.block ?_ | refine V.ret ?_ | refine V.skip ?_ | refine V.exit ?_ | refine thenK_normal ?_ | refine thenK_ret ?_ | refine thenK_exit ?_ | refine blockK_normal ?_ | refine blockK_ret ?_ | refine blockK_here ?_ | refine loopK_ret ?_ | refine loopK_exit ?_ | refine Ops.nil ?_ | refine A.blockK_on (h := ?_)) | ((with_reducible first | refine A.drw tabOk ⟨[], [], []⟩ mixed (h := ?_) | refine A.reg tabOk (h := ?_) | refine And.intro (by omega) ?_ | refine A.load tabOk (h := ?_) | refine A.or tabOk (h := ?_) | refine A.and tabOk (h := ?_) | refine A.gopen tabOk (h := ?_) | refine A.gshutP tabOk (h := ?_) | refine A.gshutM tabOk (h := ?_) | refine A.gshutN tabOk (h := ?_) | refine A.pickT tabOk (h := ?_) | refine A.pickF tabOk (h := ?_) | refine A.gstep tabOk (h := ?_) | refine A.gload tabOk (h := ?_) | refine A.store tabOk (h := ?_) | refine A.loadL tabOk (h := ?_) | refine A.loadE tabOk (h := ?_) | refine A.storeL tabOk (h := ?_) | refine A.gloadL tabOk (h := ?_) | refine A.gloadE tabOk (h := ?_) | refine A.convS tabOk (h := ?_)); (conv => whnf)) | (with_reducible first | refine A.condT (hx := ?_) | refine A.condF (hy := ?_)) | fail)
    refine retK_ret rfl (Weak.refl _) ⟨⟨_, _, rfl⟩, .inr ⟨fun p hp => hs p hp (hall p hp), rfl⟩⟩
  · (conv => whnf)
    repeat' (first | (with_reducible first | refine V.seq ?_ | refine V.block ?_ | refine V.ret ?_ | refine V.skip ?_ | refine V.exit ?_ | refine thenK_normal ?_ | refine thenK_ret ?_ | refine thenK_exit ?_ | refine blockK_normal ?_ | refine blockK_ret ?_ | refine blockK_here ?_ | refine loopK_ret ?_ | refine loopK_exit ?_ | refine Ops.nil ?_ | refine A.blockK_on (h := ?_)) | ((with_reducible first | refine A.drw tabOk ⟨[], [], []⟩ mixed (h := ?_) | refine A.reg tabOk (h := ?_) | refine And.intro (by omega) ?_ | refine A.load tabOk (h := ?_) | refine A.or tabOk (h := ?_) | refine A.and tabOk (h := ?_) | refine A.gopen tabOk (h := ?_) | refine A.gshutP tabOk (h := ?_) | refine A.gshutM tabOk (h := ?_) | refine A.gshutN tabOk (h := ?_) | refine A.pickT tabOk (h := ?_) | refine A.pickF tabOk (h := ?_) | refine A.gstep tabOk (h := ?_) | refine A.gload tabOk (h := ?_) | refine A.store tabOk (h := ?_) | refine A.loadL tabOk (h := ?_) | refine A.loadE tabOk (h := ?_) | refine A.storeL tabOk (h := ?_) | refine A.gloadL tabOk (h := ?_) | refine A.gloadE tabOk (h := ?_) | refine A.convS tabOk (h := ?_)); (conv => whnf)) | (with_reducible first | refine A.condT (hx := ?_) | refine A.condF (hy := ?_)) | fail)
    refine Ops.entry (q := p) tabOk rfl rfl At.here (fun w hs => hh1 w (hs.weak (Weak.skip _ _))) hp hnd ⟨by first | exact Weak.refl _ | exact Weak.all _ | (repeat (first | exact Weak.refl _ | exact Weak.all _ | refine A.wpick (k := ?_) | apply Weak.drop)), ?_⟩; (conv => whnf)
    repeat' (first | (with_reducible first | refine V.seq ?_ | refine V.block ?_ | refine V.ret ?_ | refine V.skip ?_ | refine V.exit ?_ | refine thenK_normal ?_ | refine thenK_ret ?_ | refine thenK_exit ?_ | refine blockK_normal ?_ | refine blockK_ret ?_ | refine blockK_here ?_ | refine loopK_ret ?_ | refine loopK_exit ?_ | refine Ops.nil ?_ | refine A.blockK_on (h := ?_)) | ((with_reducible first | refine A.drw tabOk ⟨[], [], []⟩ mixed (h := ?_) | refine A.reg tabOk (h := ?_) | refine And.intro (by omega) ?_ | refine A.load tabOk (h := ?_) | refine A.or tabOk (h := ?_) | refine A.and tabOk (h := ?_) | refine A.gopen tabOk (h := ?_) | refine A.gshutP tabOk (h := ?_) | refine A.gshutM tabOk (h := ?_) | refine A.gshutN tabOk (h := ?_) | refine A.pickT tabOk (h := ?_) | refine A.pickF tabOk (h := ?_) | refine A.gstep tabOk (h := ?_) | refine A.gload tabOk (h := ?_) | refine A.store tabOk (h := ?_) | refine A.loadL tabOk (h := ?_) | refine A.loadE tabOk (h := ?_) | refine A.storeL tabOk (h := ?_) | refine A.gloadL tabOk (h := ?_) | refine A.gloadE tabOk (h := ?_) | refine A.convS tabOk (h := ?_)); (conv => whnf)) | (with_reducible first | refine A.condT (hx := ?_) | refine A.condF (hy := ?_)) | fail)
    have hrow := (hB p hp).q (C' := itC r h clock (s ++ [p.2.2]) clock :: [(b, Obj.cells #[Value.int .i64 m] 3)] :: C) (c := b) ((Weak.skip _ _).trans (Weak.skip _ _)) (by with_unfolding_all first | exact (Rd.here rfl) | exact (Rd.skip (Rd.here rfl)) | exact (Rd.skip (Rd.skip (Rd.here rfl))) | exact (Rd.skip (Rd.skip (Rd.skip (Rd.here rfl)))) | exact (Rd.skip (Rd.skip (Rd.skip (Rd.skip (Rd.here rfl))))) | exact (Rd.skip (Rd.skip (Rd.skip (Rd.skip (Rd.skip (Rd.here rfl)))))) | exact (Rd.skip (Rd.skip (Rd.skip (Rd.skip (Rd.skip (Rd.skip (Rd.here rfl))))))) | exact (Rd.skip (Rd.skip (Rd.skip (Rd.skip (Rd.skip (Rd.skip (Rd.skip (Rd.here rfl)))))))) | exact (Rd.skip (Rd.skip (Rd.skip (Rd.skip (Rd.skip (Rd.skip (Rd.skip (Rd.skip (Rd.here rfl))))))))) | exact (Rd.skip (Rd.skip (Rd.skip (Rd.skip (Rd.skip (Rd.skip (Rd.skip (Rd.skip (Rd.skip (Rd.here rfl)))))))))) | exact (Rd.skip (Rd.skip (Rd.skip (Rd.skip (Rd.skip (Rd.skip (Rd.skip (Rd.skip (Rd.skip (Rd.skip (Rd.here rfl))))))))))) | exact (Rd.skip (Rd.skip (Rd.skip (Rd.skip (Rd.skip (Rd.skip (Rd.skip (Rd.skip (Rd.skip (Rd.skip (Rd.skip (Rd.here rfl)))))))))))) | exact (Rd.skip (Rd.skip (Rd.skip (Rd.skip (Rd.skip (Rd.skip (Rd.skip (Rd.skip (Rd.skip (Rd.skip (Rd.skip (Rd.skip (Rd.here rfl))))))))))))) | exact (Rd.skip (Rd.skip (Rd.skip (Rd.skip (Rd.skip (Rd.skip (Rd.skip (Rd.skip (Rd.skip (Rd.skip (Rd.skip (Rd.skip (Rd.skip (Rd.here rfl)))))))))))))) | assumption | exact Rd.mono (by assumption) (Weak.all _))
    (with_reducible refine A.callQ tabOk (hs := hrow) (h := ?_)); (conv => whnf)
    repeat' (first | (with_reducible first | refine V.seq ?_ | refine V.block ?_ | refine V.ret ?_ | refine V.skip ?_ | refine V.exit ?_ | refine thenK_normal ?_ | refine thenK_ret ?_ | refine thenK_exit ?_ | refine blockK_normal ?_ | refine blockK_ret ?_ | refine blockK_here ?_ | refine loopK_ret ?_ | refine loopK_exit ?_ | refine Ops.nil ?_ | refine A.blockK_on (h := ?_)) | ((with_reducible first | refine A.drw tabOk ⟨[], [], []⟩ mixed (h := ?_) | refine A.reg tabOk (h := ?_) | refine And.intro (by omega) ?_ | refine A.load tabOk (h := ?_) | refine A.or tabOk (h := ?_) | refine A.and tabOk (h := ?_) | refine A.gopen tabOk (h := ?_) | refine A.gshutP tabOk (h := ?_) | refine A.gshutM tabOk (h := ?_) | refine A.gshutN tabOk (h := ?_) | refine A.pickT tabOk (h := ?_) | refine A.pickF tabOk (h := ?_) | refine A.gstep tabOk (h := ?_) | refine A.gload tabOk (h := ?_) | refine A.store tabOk (h := ?_) | refine A.loadL tabOk (h := ?_) | refine A.loadE tabOk (h := ?_) | refine A.storeL tabOk (h := ?_) | refine A.gloadL tabOk (h := ?_) | refine A.gloadE tabOk (h := ?_) | refine A.convS tabOk (h := ?_)); (conv => whnf)) | (with_reducible first | refine A.condT (hx := ?_) | refine A.condF (hy := ?_)) | fail)
    refine V.cond rfl (fun hb => ?_) (fun hb => ?_)
    · repeat' (first | (with_reducible first | refine V.seq ?_ | refine V.block ?_ | refine V.ret ?_ | refine V.skip ?_ | refine V.exit ?_ | refine thenK_normal ?_ | refine thenK_ret ?_ | refine thenK_exit ?_ | refine blockK_normal ?_ | refine blockK_ret ?_ | refine blockK_here ?_ | refine loopK_ret ?_ | refine loopK_exit ?_ | refine Ops.nil ?_ | refine A.blockK_on (h := ?_)) | ((with_reducible first | refine A.drw tabOk ⟨[], [], []⟩ mixed (h := ?_) | refine A.reg tabOk (h := ?_) | refine And.intro (by omega) ?_ | refine A.load tabOk (h := ?_) | refine A.or tabOk (h := ?_) | refine A.and tabOk (h := ?_) | refine A.gopen tabOk (h := ?_) | refine A.gshutP tabOk (h := ?_) | refine A.gshutM tabOk (h := ?_) | refine A.gshutN tabOk (h := ?_) | refine A.pickT tabOk (h := ?_) | refine A.pickF tabOk (h := ?_) | refine A.gstep tabOk (h := ?_) | refine A.gload tabOk (h := ?_) | refine A.store tabOk (h := ?_) | refine A.loadL tabOk (h := ?_) | refine A.loadE tabOk (h := ?_) | refine A.storeL tabOk (h := ?_) | refine A.gloadL tabOk (h := ?_) | refine A.gloadE tabOk (h := ?_) | refine A.convS tabOk (h := ?_)); (conv => whnf)) | (with_reducible first | refine A.condT (hx := ?_) | refine A.condF (hy := ?_)) | fail)
      exact retK_ret rfl (Weak.refl _) ⟨⟨_, _, rfl⟩, .inl ⟨p, hp, hb, rfl⟩⟩
    · repeat' (first | (with_reducible first | refine V.seq ?_ | refine V.block ?_ | refine V.ret ?_ | refine V.skip ?_ | refine V.exit ?_ | refine thenK_normal ?_ | refine thenK_ret ?_ | refine thenK_exit ?_ | refine blockK_normal ?_ | refine blockK_ret ?_ | refine blockK_here ?_ | refine loopK_ret ?_ | refine loopK_exit ?_ | refine Ops.nil ?_ | refine A.blockK_on (h := ?_)) | ((with_reducible first | refine A.drw tabOk ⟨[], [], []⟩ mixed (h := ?_) | refine A.reg tabOk (h := ?_) | refine And.intro (by omega) ?_ | refine A.load tabOk (h := ?_) | refine A.or tabOk (h := ?_) | refine A.and tabOk (h := ?_) | refine A.gopen tabOk (h := ?_) | refine A.gshutP tabOk (h := ?_) | refine A.gshutM tabOk (h := ?_) | refine A.gshutN tabOk (h := ?_) | refine A.pickT tabOk (h := ?_) | refine A.pickF tabOk (h := ?_) | refine A.gstep tabOk (h := ?_) | refine A.gload tabOk (h := ?_) | refine A.store tabOk (h := ?_) | refine A.loadL tabOk (h := ?_) | refine A.loadE tabOk (h := ?_) | refine A.storeL tabOk (h := ?_) | refine A.gloadL tabOk (h := ?_) | refine A.gloadE tabOk (h := ?_) | refine A.convS tabOk (h := ?_)); (conv => whnf)) | (with_reducible first | refine A.condT (hx := ?_) | refine A.condF (hy := ?_)) | fail)
      refine loopK_again ⟨s ++ [p.2.2], fun q hq hqs => ?_⟩ (by with_unfolding_all repeat (first | exact trivial | refine And.intro rfl ?_)) (Weak.refl _) (by dsimp only; exact filter_lt E p hp hps)
      rcases List.mem_append.1 hqs with hqs | hqs
      · exact hs q hq hqs
      · have := List.mem_singleton.1 hqs
        have : q = p := by
          have inj : ∀ {E : List Ent}, (E.map (·.2.2)).Nodup → q ∈ E → p ∈ E → q = p := by
            intro E
            induction E with
            | nil => intro _ h; cases h
            | cons z E ih =>
              intro hn h1 h2
              obtain ⟨hz, hn⟩ := List.nodup_cons.1 (by simpa using hn : (z.2.2 :: E.map (·.2.2)).Nodup)
              rcases List.mem_cons.1 h1 with g1 | g1
              · rcases List.mem_cons.1 h2 with g2 | g2
                · rw [g1, g2]
                · rw [← g1] at hz; exact absurd (List.mem_map.2 ⟨p, g2, this.symm⟩) hz
              · rcases List.mem_cons.1 h2 with g2 | g2
                · rw [← g2] at hz; exact absurd (List.mem_map.2 ⟨q, g1, this⟩) hz
                · exact ih hn g1 g2
          exact inj hnd hq hp
        subst this
        exact hb

end Go.Proofs.YtfmjehkohlbebaaGreatDoor

/-
  Whom a mutex belongs to, as the interpreter tells it.
-/
set_option linter.unusedVariables false
namespace Den
open Go Eng

theorem pairsB_ok {ρ : Rho} {m : Int} : ∀ {l : List VV} {b : Bool}, pairsB m l = some b → ∀ {us : List Value}, Rls ρ l us → us.all (·.oneCell') = true →
    ∃ n, us.length = 2 * n ∧ ∃ ks : Nat → Int, ∃ ws : Nat → Value, (∀ i, i < n → us[2 * i]? = some (.int .i64 (ks i)) ∧ us[2 * i + 1]? = some (ws i) ∧ (ws i).oneCell' = true) ∧ (b = true ↔ ∃ i, i < n ∧ ks i = m)
  | [], b, h, us, hu, _ => by
    cases h
    cases hu
    exact ⟨0, rfl, fun _ => 0, fun _ => undef, fun i hi => by omega, ⟨fun h => (by cases h), fun ⟨i, hi, _⟩ => absurd hi (Nat.not_lt_zero i)⟩⟩
  | [x], b, h, us, hu, _ => by cases x <;> cases h
  | x :: y :: r, b, h, us, hu, ho => by
    cases x with
    | i x =>
      unfold pairsB at h
      split at h
      · rename_i b0 hb
        cases h
        obtain ⟨u, us1, rfl, h1, hu1⟩ := hu
        obtain ⟨u2, us2, rfl, h2, hu2⟩ := hu1
        have h1 : u = .int .i64 x := h1
        subst h1
        simp only [List.all_cons, Bool.and_eq_true] at ho
        obtain ⟨n, hn, ks, ws, h3, h4⟩ := pairsB_ok hb hu2 ho.2.2
        refine ⟨n + 1, by simp only [List.length_cons, hn]; omega, fun i => match i with | 0 => x | i + 1 => ks i, fun i => match i with | 0 => u2 | i + 1 => ws i, fun i hi => ?_, ?_⟩
        · cases i with
          | zero => exact ⟨rfl, rfl, ho.2.1⟩
          | succ i =>
            obtain ⟨g1, g2, g3⟩ := h3 i (by omega)
            refine ⟨?_, ?_, g3⟩
            · rw [show 2 * (i + 1) = 2 * i + 1 + 1 by omega]; simpa using g1
            · rw [show 2 * (i + 1) + 1 = 2 * i + 1 + 1 + 1 by omega]; simpa using g2
        · rw [Bool.or_eq_true, decide_eq_true_eq, h4]
          constructor
          · rintro (h | ⟨i, hi, he⟩)
            · exact ⟨0, by omega, h⟩
            · exact ⟨i + 1, by omega, he⟩
          · rintro ⟨i, hi, he⟩
            cases i with
            | zero => exact .inl he
            | succ i => exact .inr ⟨i, by omega, he⟩
      · cases h
    | _ => cases h

theorem rowB_ok {W0 : World} {ρ : Rho} {M : Mem} {nx : P} {C : Heap} (hM : MR ρ M nx C) {m : Int} {v : VV} {b : Bool} (h : rowB M m v = some b) {u : Value} (hu : Rl ρ v u) : Go.Proofs.YtfmjehkohlbebaaGreatDoor.RowHas W0 C m u b := by
  unfold rowB at h
  split at h
  · cases h
    have hu : u = .slice none 0 0 := hu
    subst hu
    exact ⟨0, [], fun _ => 0, fun _ => undef, ⟨⟨none, 0, rfl, Nat.le_refl _, fun h => by omega⟩, rfl⟩, fun i hi => by omega, by omega, ⟨fun h => (by cases h), fun ⟨i, hi, _⟩ => absurd hi (Nat.not_lt_zero i)⟩⟩
  · cases h
    obtain ⟨r, o, cap, rfl⟩ := hu
    exact ⟨0, [], fun _ => 0, fun _ => undef, ⟨⟨_, cap, rfl, Nat.zero_le _, fun h => by omega⟩, rfl⟩, fun i hi => by omega, by omega, ⟨fun h => (by cases h), fun ⟨i, hi, _⟩ => absurd hi (Nat.not_lt_zero i)⟩⟩
  · rename_i q o n c kn
    split at h
    · rename_i t s l ver hob
      obtain ⟨hb, h⟩ := bifS h
      have hlen := Nat.eq_of_beq_eq_true (and_l hb)
      have hn := Nat.le_of_ble_eq_true (and_r hb)
      obtain ⟨r, mm, cap, hρ, rfl, hcap, _, _⟩ := hu
      obtain ⟨r', c', ro, h1, h2, h3⟩ := hM.live q (by show (Tr.get .dead M q).live; rw [hob]; trivial)
      have hob' : Mm.at M q = .cells t s l ver := hob
      rw [hob'] at h3
      rw [hρ] at h1
      cases h1
      obtain ⟨us, rest, rfl, hl, hone, _⟩ := h3
      have hls := (hl.drop o).take (n * 2)
      have hus := hls.length
      rw [hlen] at hus
      have hall : ((us.drop o).take (n * 2)).all (·.oneCell') = true := by
        refine hls.all_one ?_
        rw [List.all_eq_true] at hone ⊢
        exact fun z hz => hone z (List.mem_of_mem_drop (List.mem_of_mem_take hz))
      obtain ⟨n', hn', ks, ws, h4, h5⟩ := pairsB_ok h hls hall
      have : n' = n := by omega
      subst this
      refine ⟨n', _, ks, ws, ⟨⟨_, cap, rfl, hcap, fun _ => ⟨r, o, rfl, ?_⟩⟩, by rw [hus]⟩, h4, hn, h5⟩
      refine cells_rdL (us := us) (rest := rest) (t := t) h2 fun j w hj => ?_
      rw [List.getElem?_take] at hj
      split at hj
      · rwa [List.getElem?_drop] at hj
      · cases hj
    · cases h
  · cases h

def lookB (b : Nat) : List (Int × VV × Nat) → List Bool → Bool
  | (_, _, b') :: E, x :: bs => bif Nat.beq b b' then x else lookB b E bs
  | _, _ => false

theorem rows_ok {W0 : World} {ρ : Rho} {M : Mem} {nx : P} {C : Heap} (hM : MR ρ M nx C) {m : Int} {c : Nat} : ∀ {E : List (Int × VV × Nat)} {E' : List Ent} {bs : List Bool}, EnR ρ E E' → rowsB M m E = some bs → bornsB c E = true →
    (∀ p ∈ E', Go.Proofs.YtfmjehkohlbebaaGreatDoor.RowHas W0 C m p.2.1 (lookB p.2.2 E bs)) ∧ (∀ p ∈ E', p.2.2 < c ∧ ∃ q ∈ E, q.2.2 = p.2.2) ∧ (E'.map (·.2.2)).Nodup ∧ (∀ p ∈ E', lookB p.2.2 E bs = true → p.1 ∈ keysT E bs) ∧ ∀ k ∈ keysT E bs, ∃ p ∈ E', p.1 = k ∧ lookB p.2.2 E bs = true
  | [], E', bs, hE, h, _ => by
    cases hE; cases h
    exact ⟨by simp, by simp, by simp, by simp, by simp [keysT]⟩
  | (k, v, b) :: E, E', bs, hE, h, hb => by
    obtain ⟨u, r, rfl, hu, hr⟩ := hE
    unfold rowsB at h
    split at h
    · rename_i b0 bs0 h1 h2
      cases h
      have hb1 := and_l (and_l hb)
      have hb2 := and_r (and_l hb)
      obtain ⟨i1, i2, i3, i4, i5⟩ := rows_ok hM hr h2 (and_r hb)
      have hne : ∀ p ∈ r, p.2.2 ≠ b := fun p hp he => by
        obtain ⟨q, hq, hqe⟩ := (i2 p hp).2
        have : (E.any fun q => Nat.beq q.2.2 b) = true := List.any_eq_true.2 ⟨q, hq, by rw [hqe, he]; simp⟩
        rw [this] at hb2
        cases hb2
      have hl : ∀ p ∈ r, lookB p.2.2 ((k, v, b) :: E) (b0 :: bs0) = lookB p.2.2 E bs0 := fun p hp => by
        show (bif Nat.beq p.2.2 b then b0 else lookB p.2.2 E bs0) = _
        rw [beq_ne (hne p hp)]; rfl
      have h0 : lookB b ((k, v, b) :: E) (b0 :: bs0) = b0 := by
        show (bif Nat.beq b b then b0 else lookB b E bs0) = _
        rw [beq_self]; rfl
      refine ⟨fun p hp => ?_, fun p hp => ?_, ?_, fun p hp ht => ?_, fun k' hk' => ?_⟩
      · rcases List.mem_cons.1 hp with rfl | hp
        · simp only [h0]; exact rowB_ok hM h1 hu
        · rw [hl p hp]; exact i1 p hp
      · rcases List.mem_cons.1 hp with rfl | hp
        · exact ⟨Nat.blt_eq.mp hb1, _, List.mem_cons_self .., rfl⟩
        · obtain ⟨g1, q, g2, g3⟩ := i2 p hp; exact ⟨g1, q, List.mem_cons_of_mem _ g2, g3⟩
      · rw [List.map_cons]
        refine List.nodup_cons.2 ⟨fun hin => ?_, i3⟩
        obtain ⟨p, hp, he⟩ := List.mem_map.1 hin
        exact hne p hp he
      · show p.1 ∈ (bif b0 then k :: keysT E bs0 else keysT E bs0)
        rcases List.mem_cons.1 hp with rfl | hp
        · simp only [h0] at ht
          rw [ht]; exact List.mem_cons_self ..
        · rw [hl p hp] at ht
          have := i4 p hp ht
          cases b0 with
          | true => exact List.mem_cons_of_mem _ this
          | false => exact this
      · have hk' : k' ∈ (bif b0 then k :: keysT E bs0 else keysT E bs0) := hk'
        have tail : k' ∈ keysT E bs0 → ∃ p ∈ (k, u, b) :: r, p.1 = k' ∧ lookB p.2.2 ((k, v, b) :: E) (b0 :: bs0) = true := fun h => by
          obtain ⟨p, hp, g1, g2⟩ := i5 k' h
          exact ⟨p, List.mem_cons_of_mem _ hp, g1, by rw [hl p hp]; exact g2⟩
        cases b0 with
        | true =>
          rcases List.mem_cons.1 hk' with rfl | hk'
          · exact ⟨_, List.mem_cons_self .., rfl, h0⟩
          · exact tail hk'
        | false => exact tail hk'
    · cases h

theorem ownerS_ok (W0 : World) (hcb : callable Go.Proofs.Tryz.prog 73 = true) : SpecOk W0 Go.Proofs.Tryz.prog 73 ownerS := by
  intro vs M nx v M' nx' h
  unfold ownerS at h
  split at h <;> try (cases h; done)
  rename_i l m
  split at h <;> try (cases h; done)
  rename_i t s x0 hm rest ver hl
  split at h <;> try (cases h; done)
  rename_i E clock ver2 hh
  split at h <;> try (cases h; done)
  rename_i bs hrows hborn
  have key : ∀ k, (keysT E bs = [] ∧ k = -1 ∨ keysT E bs = [k]) → ∀ ρ C us, Rls ρ [VV.ptr l 0, VV.i m] us → MR ρ M nx C → Does W0 Go.Proofs.Tryz.prog 73 us.toArray C fun u C' => ∃ ρ', Den.Ext ρ ρ' ∧ MR ρ' M nx C' ∧ Keep ρ M M C C' ∧ Rl ρ' (.i k) u := by
    intro k hk ρ C us hu hM
    obtain ⟨u, us1, rfl, hu0, hu1⟩ := hu
    obtain ⟨u1, us2, rfl, hu1, hu2⟩ := hu1
    cases hu2
    have hu1 : u1 = .int .i64 m := hu1
    subst hu1
    obtain ⟨r, c, hρ, rfl⟩ := hu0
    have hl' : Mm.at M l = .cells t s (x0 :: .map hm :: rest) ver := hl
    have hh' : Mm.at M hm = .mp E clock ver2 := hh
    obtain ⟨r1, c1, ro, h1, h2, h3⟩ := hM.live l (by rw [hl']; trivial)
    rw [hρ] at h1
    cases h1
    rw [hl'] at h3
    obtain ⟨us, rest', rfl, hls, hone, _⟩ := h3
    obtain ⟨w0, us, rfl, _, hls⟩ := hls
    obtain ⟨w1, us, rfl, hw1, hls⟩ := hls
    obtain ⟨r2, c2, hρ2, rfl⟩ := hw1
    obtain ⟨r3, c3, ro3, g1, g2, g3⟩ := hM.live hm (by rw [hh']; trivial)
    rw [hρ2] at g1
    cases g1
    rw [hh'] at g3
    obtain ⟨E', rfl, hE⟩ := g3
    obtain ⟨i1, i2, i3, i4, i5⟩ := rows_ok (W0 := W0) hM hE hrows hborn
    refine (Go.Proofs.YtfmjehkohlbebaaGreatDoor.owner_s W0 C r 0 r2 E' clock m (fun p => lookB p.2.2 E bs) (Rd.of_at (mem_at h2) (by simp)) (mem_at g2) i1 i3 fun p hp => (i2 p hp).1).mono fun u C' hC' => ?_
    obtain ⟨⟨d1, d2, rfl⟩, hv⟩ := hC'
    refine ⟨ρ, Den.Ext.refl ρ, hM.sub fun p hp => by simp [hp], fun b r c ro _ _ _ hin => by simp [hin], ?_⟩
    rcases hv with ⟨p, hp, hb, rfl⟩ | ⟨hall, rfl⟩
    · have := i4 p hp hb
      rcases hk with ⟨hk, _⟩ | hk
      · rw [hk] at this; cases this
      · rw [hk] at this
        rw [List.mem_singleton.1 this]
        rfl
    · rcases hk with ⟨_, rfl⟩ | hk
      · rfl
      · obtain ⟨p, hp, _, g⟩ := i5 k (by rw [hk]; exact List.mem_singleton.2 rfl)
        have := hall p hp
        rw [g] at this
        cases this
  split at h <;> cases h
  · rename_i hk; exact ⟨Mono.refl _ _, hcb, key _ (.inl ⟨hk, rfl⟩)⟩
  · rename_i k hk; exact ⟨Mono.refl _ _, hcb, key k (.inr hk)⟩

end Den

/- A part of the proofs: what functions of the program do, each by its own contract; printed by a program of mine. No conditions but those that each theorem names. -/
namespace Go.Proofs.YtfmjehkohlbebaaGreatDoor
open Eng
set_option maxRecDepth 100000
set_option maxHeartbeats 4000000
set_option linter.unusedVariables false

theorem low_q (W0 : World) (C : Heap) (x : Int) (m : Nat) (hn : 1 ≤ m ∧ m ≤ 9223372036854775807) : Gives W0 Tryz.prog 7 #[.int .i64 x, .int .i64 (m : Int)] C (.int .i64 (Den.lowZ x m)) := Gives.of fun X => by
  have h1 := IntKind.wrap_u64 x
  have h2 : IntKind.u64.wrap (m : Int) = m := IntWalk.u64_in m (by omega)
  refine Does.go Tryz.func7 rfl Tryz.results7 Tryz.ntmps7 rfl rfl ?_; (conv => whnf)
  repeat' (first | (with_reducible first | refine V.seq ?_ | refine V.block ?_ | refine V.ret ?_ | refine V.skip ?_ | refine V.exit ?_ | refine thenK_normal ?_ | refine thenK_ret ?_ | refine thenK_exit ?_ | refine blockK_normal ?_ | refine blockK_ret ?_ | refine blockK_here ?_ | refine loopK_ret ?_ | refine loopK_exit ?_ | refine Ops.nil ?_ | refine A.blockK_on (h := ?_)) | ((with_reducible first | refine A.drw tabOk ⟨[], [], []⟩ mixed (h := ?_) | refine A.reg tabOk (h := ?_) | refine And.intro (by omega) ?_ | refine A.load tabOk (h := ?_) | refine A.or tabOk (h := ?_) | refine A.and tabOk (h := ?_) | refine A.gopen tabOk (h := ?_) | refine A.gshutP tabOk (h := ?_) | refine A.gshutM tabOk (h := ?_) | refine A.gshutN tabOk (h := ?_) | refine A.pickT tabOk (h := ?_) | refine A.pickF tabOk (h := ?_) | refine A.gstep tabOk (h := ?_) | refine A.gload tabOk (h := ?_) | refine A.store tabOk (h := ?_) | refine A.loadL tabOk (h := ?_) | refine A.loadE tabOk (h := ?_) | refine A.storeL tabOk (h := ?_) | refine A.gloadL tabOk (h := ?_) | refine A.gloadE tabOk (h := ?_) | refine A.convS tabOk (h := ?_)); (conv => whnf)) | (with_reducible first | refine A.condT (hx := ?_) | refine A.condF (hy := ?_)) | fail)
  refine retK_ret rfl (Weak.refl _) ⟨?_, rfl⟩
  simp only [tup, Den.lowZ]
  congr 1
  rw [h2]

theorem lowZ_bd (x : Int) (m : Nat) (hm : 1 ≤ m ∧ m ≤ 9223372036854775807) : 0 ≤ Den.lowZ x m ∧ Den.lowZ x m < m := by
  unfold Den.lowZ
  have h3 := Int.emod_nonneg (IntKind.u64.wrap x) (show (m : Int) ≠ 0 by omega)
  have h4 := Int.emod_lt_of_pos (IntKind.u64.wrap x) (show (0 : Int) < m by omega)
  rw [IntWalk.i64_in _ (by omega)]
  exact ⟨h3, h4⟩
end Go.Proofs.YtfmjehkohlbebaaGreatDoor

/-
  Low, as the interpreter tells it.
-/
set_option linter.unusedVariables false
namespace Den
open Go Eng Go.Proofs.YtfmjehkohlbebaaGreatDoor

theorem lowS_ok (W0 : World) (hcb : callable Go.Proofs.Tryz.prog 7 = true) : SpecOk W0 Go.Proofs.Tryz.prog 7 lowS := by
  intro vs M nx v M' nx' h
  unfold lowS at h
  split at h <;> try (cases h; done)
  · rename_i m x n
    cases hb : (Nat.beq m n && Nat.ble 1 m && Nat.ble m 9223372036854775807) with
    | false => rw [hb] at h; cases h
    | true =>
      rw [hb] at h
      cases h
      have h1 := Nat.eq_of_beq_eq_true (and_l (and_l hb))
      subst h1
      have h2 := Nat.le_of_ble_eq_true (and_r (and_l hb))
      have h3 := Nat.le_of_ble_eq_true (and_r hb)
      refine ⟨Mono.refl _ _, hcb, fun ρ C us hu hM => ?_⟩
      obtain ⟨u, us1, rfl, hu0, hu1⟩ := hu
      obtain ⟨u1, us2, rfl, hu1, hu2⟩ := hu1
      cases hu2
      obtain ⟨z, rfl, hz⟩ := hu0
      have hu1 : u1 = .int .i64 (m : Int) := hu1
      subst hu1
      refine ((low_q W0 C z m ⟨h2, h3⟩).spec).mono fun u C' hC' => ?_
      obtain ⟨rfl, rfl⟩ := hC'
      exact ⟨ρ, Den.Ext.refl ρ, hM, Keep.refl _ _ _, by rw [hz]; rfl⟩
  · rename_i m q n
    cases hb : (Nat.beq m n && Nat.ble 1 m && Nat.ble m 9223372036854775807) with
    | false => rw [hb] at h; cases h
    | true =>
      rw [hb] at h
      cases h
      have h1 := Nat.eq_of_beq_eq_true (and_l (and_l hb))
      subst h1
      have h2 := Nat.le_of_ble_eq_true (and_r (and_l hb))
      have h3 := Nat.le_of_ble_eq_true (and_r hb)
      refine ⟨Mono.refl _ _, hcb, fun ρ C us hu hM => ?_⟩
      obtain ⟨u, us1, rfl, hu0, hu1⟩ := hu
      obtain ⟨u1, us2, rfl, hu1, hu2⟩ := hu1
      cases hu2
      obtain ⟨z, r, s, rfl, hρ, hz⟩ := hu0
      have hu1 : u1 = .int .i64 (m : Int) := hu1
      subst hu1
      have hbd := lowZ_bd z m ⟨h2, h3⟩
      refine ((low_q W0 C z m ⟨h2, h3⟩).spec).mono fun u C' hC' => ?_
      obtain ⟨rfl, rfl⟩ := hC'
      refine ⟨ρ, Den.Ext.refl ρ, hM, Keep.refl _ _ _, r, s, hρ, by omega, ?_, by rw [hz]; simp⟩
      rw [subZ_eq, ← hz]
      omega

end Den

/- A part of the proofs: what functions of the program do, each by its own contract; printed by a program of mine. No conditions but those that each theorem names. -/
namespace Go.Proofs.YtfmjehkohlbebaaGreatDoor
open Eng
set_option maxRecDepth 100000
set_option maxHeartbeats 4000000
set_option linter.unusedVariables false

def clip (x : Int) : Int := min (max x 0) 1099511627776

theorem clip_q (W0 : World) (C : Heap) (x : Int) : Gives W0 Tryz.prog 72 #[.int .i64 x] C (.int .i64 (clip x)) := Gives.of fun X => by
  refine Does.go Tryz.func72 rfl Tryz.results72 Tryz.ntmps72 rfl rfl ?_; (conv => whnf)
  repeat' (first | (with_reducible first | refine V.seq ?_ | refine V.block ?_ | refine V.ret ?_ | refine V.skip ?_ | refine V.exit ?_ | refine thenK_normal ?_ | refine thenK_ret ?_ | refine thenK_exit ?_ | refine blockK_normal ?_ | refine blockK_ret ?_ | refine blockK_here ?_ | refine loopK_ret ?_ | refine loopK_exit ?_ | refine Ops.nil ?_ | refine A.blockK_on (h := ?_)) | ((with_reducible first | refine A.drw tabOk ⟨[], [], []⟩ mixed (h := ?_) | refine A.reg tabOk (h := ?_) | refine And.intro (by omega) ?_ | refine A.load tabOk (h := ?_) | refine A.or tabOk (h := ?_) | refine A.and tabOk (h := ?_) | refine A.gopen tabOk (h := ?_) | refine A.gshutP tabOk (h := ?_) | refine A.gshutM tabOk (h := ?_) | refine A.gshutN tabOk (h := ?_) | refine A.pickT tabOk (h := ?_) | refine A.pickF tabOk (h := ?_) | refine A.gstep tabOk (h := ?_) | refine A.gload tabOk (h := ?_) | refine A.store tabOk (h := ?_) | refine A.loadL tabOk (h := ?_) | refine A.loadE tabOk (h := ?_) | refine A.storeL tabOk (h := ?_) | refine A.gloadL tabOk (h := ?_) | refine A.gloadE tabOk (h := ?_) | refine A.convS tabOk (h := ?_)); (conv => whnf)) | (with_reducible first | refine A.condT (hx := ?_) | refine A.condF (hy := ?_)) | fail)
  exact retK_ret rfl (Weak.refl _) ⟨rfl, rfl⟩

/-- The dog: what it asks, its last mark, when it fired. -/
structure Dg where
  w : Int
  last : Int
  fired : List Int

def dgC (d : Nat) (x : Dg) (s : Value) : List Blk := [(d, .cells [Value.int .i64 x.w, .int .i64 x.last, s].toArray 158 (0, 0))]

theorem mark_s (W0 : World) (C : Heap) (d : Nat) (x : Dg) (s : Value) (now : Int) :
    Does W0 Tryz.prog 26 #[.pointer (some ⟨d, 0, none⟩), .int .i64 now] (dgC d x s :: C) (fun v C' => v = .tuple #[] ∧ C' = dgC d { x with last := max x.last (clip now) } s :: C) := by
  unfold dgC
  refine Does.go Tryz.func26 rfl Tryz.results26 Tryz.ntmps26 rfl rfl ?_; (conv => whnf)
  repeat' (first | (with_reducible first | refine V.seq ?_ | refine V.block ?_ | refine V.ret ?_ | refine V.skip ?_ | refine V.exit ?_ | refine thenK_normal ?_ | refine thenK_ret ?_ | refine thenK_exit ?_ | refine blockK_normal ?_ | refine blockK_ret ?_ | refine blockK_here ?_ | refine loopK_ret ?_ | refine loopK_exit ?_ | refine Ops.nil ?_ | refine A.blockK_on (h := ?_)) | ((with_reducible first | refine A.drw tabOk ⟨[72], [], []⟩ mixed (h := ?_) | refine A.reg tabOk (h := ?_) | refine And.intro (by omega) ?_ | refine A.load tabOk (h := ?_) | refine A.or tabOk (h := ?_) | refine A.and tabOk (h := ?_) | refine A.gopen tabOk (h := ?_) | refine A.gshutP tabOk (h := ?_) | refine A.gshutM tabOk (h := ?_) | refine A.gshutN tabOk (h := ?_) | refine A.pickT tabOk (h := ?_) | refine A.pickF tabOk (h := ?_) | refine A.gstep tabOk (h := ?_) | refine A.gload tabOk (h := ?_) | refine A.store tabOk (h := ?_) | refine A.loadL tabOk (h := ?_) | refine A.loadE tabOk (h := ?_) | refine A.storeL tabOk (h := ?_) | refine A.gloadL tabOk (h := ?_) | refine A.gloadE tabOk (h := ?_) | refine A.convS tabOk (h := ?_)); (conv => whnf)) | (with_reducible first | refine A.condT (hx := ?_) | refine A.condF (hy := ?_)) | fail)
  (with_reducible refine A.callQ tabOk (hs := clip_q _ _ _) (h := ?_)); (conv => whnf)
  repeat' (first | (with_reducible first | refine V.seq ?_ | refine V.block ?_ | refine V.ret ?_ | refine V.skip ?_ | refine V.exit ?_ | refine thenK_normal ?_ | refine thenK_ret ?_ | refine thenK_exit ?_ | refine blockK_normal ?_ | refine blockK_ret ?_ | refine blockK_here ?_ | refine loopK_ret ?_ | refine loopK_exit ?_ | refine Ops.nil ?_ | refine A.blockK_on (h := ?_)) | ((with_reducible first | refine A.drw tabOk ⟨[], [], []⟩ mixed (h := ?_) | refine A.reg tabOk (h := ?_) | refine And.intro (by omega) ?_ | refine A.load tabOk (h := ?_) | refine A.or tabOk (h := ?_) | refine A.and tabOk (h := ?_) | refine A.gopen tabOk (h := ?_) | refine A.gshutP tabOk (h := ?_) | refine A.gshutM tabOk (h := ?_) | refine A.gshutN tabOk (h := ?_) | refine A.pickT tabOk (h := ?_) | refine A.pickF tabOk (h := ?_) | refine A.gstep tabOk (h := ?_) | refine A.gload tabOk (h := ?_) | refine A.store tabOk (h := ?_) | refine A.loadL tabOk (h := ?_) | refine A.loadE tabOk (h := ?_) | refine A.storeL tabOk (h := ?_) | refine A.gloadL tabOk (h := ?_) | refine A.gloadE tabOk (h := ?_) | refine A.convS tabOk (h := ?_)); (conv => whnf)) | (with_reducible first | refine A.condT (hx := ?_) | refine A.condF (hy := ?_)) | fail)
  exact retK_end rfl (Weak.refl _) ⟨rfl, rfl⟩

def tickB (x : Dg) (now : Int) : Bool := !decide (clip now - x.last < x.w)
def tickD (x : Dg) (now : Int) : Dg := if tickB x now = true then { x with last := max x.last (clip now), fired := x.fired ++ [clip now] } else x

theorem clip_bd (x : Int) : 0 ≤ clip x ∧ clip x ≤ 1099511627776 := by unfold clip; omega
theorem clip_clip (x : Int) : clip (clip x) = clip x := by unfold clip; omega

theorem tick_s (W0 : World) (C : Heap) (d : Nat) (x : Dg) (s : Value) (c : List Blk) (now : Int) (hl : 0 ≤ x.last ∧ x.last ≤ 1099511627776) (hs : Slc 3 1 s x.fired.length (ints x.fired) c) (hn : x.fired.length ≤ 1000000) :
    Does W0 Tryz.prog 27 #[.pointer (some ⟨d, 0, none⟩), .int .i64 now] (dgC d x s :: c :: C) (fun v C' => v = .bool (tickB x now) ∧ ∃ s' c', Slc 3 1 s' (tickD x now).fired.length (ints (tickD x now).fired) c' ∧ (tickB x now = false → s' = s) ∧ C' = dgC d (tickD x now) s' :: c' :: C) := by
  unfold dgC
  have hc := clip_bd now
  refine Does.go Tryz.func27 rfl Tryz.results27 Tryz.ntmps27 rfl rfl ?_; (conv => whnf)
  repeat' (first | (with_reducible first | refine V.seq ?_ | refine V.block ?_ | refine V.ret ?_ | refine V.skip ?_ | refine V.exit ?_ | refine thenK_normal ?_ | refine thenK_ret ?_ | refine thenK_exit ?_ | refine blockK_normal ?_ | refine blockK_ret ?_ | refine blockK_here ?_ | refine loopK_ret ?_ | refine loopK_exit ?_ | refine Ops.nil ?_ | refine A.blockK_on (h := ?_)) | ((with_reducible first | refine A.drw tabOk ⟨[], [], []⟩ mixed (h := ?_) | refine A.reg tabOk (h := ?_) | refine And.intro (by omega) ?_ | refine A.load tabOk (h := ?_) | refine A.or tabOk (h := ?_) | refine A.and tabOk (h := ?_) | refine A.gopen tabOk (h := ?_) | refine A.gshutP tabOk (h := ?_) | refine A.gshutM tabOk (h := ?_) | refine A.gshutN tabOk (h := ?_) | refine A.pickT tabOk (h := ?_) | refine A.pickF tabOk (h := ?_) | refine A.gstep tabOk (h := ?_) | refine A.gload tabOk (h := ?_) | refine A.store tabOk (h := ?_) | refine A.loadL tabOk (h := ?_) | refine A.loadE tabOk (h := ?_) | refine A.storeL tabOk (h := ?_) | refine A.gloadL tabOk (h := ?_) | refine A.gloadE tabOk (h := ?_) | refine A.convS tabOk (h := ?_)); (conv => whnf)) | (with_reducible first | refine A.condT (hx := ?_) | refine A.condF (hy := ?_)) | fail)
  (with_reducible refine A.callQ tabOk (hs := clip_q _ _ _) (h := ?_)); (conv => whnf)
  repeat' (first | (with_reducible first | refine V.seq ?_ | refine V.block ?_ | refine V.ret ?_ | refine V.skip ?_ | refine V.exit ?_ | refine thenK_normal ?_ | refine thenK_ret ?_ | refine thenK_exit ?_ | refine blockK_normal ?_ | refine blockK_ret ?_ | refine blockK_here ?_ | refine loopK_ret ?_ | refine loopK_exit ?_ | refine Ops.nil ?_ | refine A.blockK_on (h := ?_)) | ((with_reducible first | refine A.drw tabOk ⟨[], [], []⟩ mixed (h := ?_) | refine A.reg tabOk (h := ?_) | refine And.intro (by omega) ?_ | refine A.load tabOk (h := ?_) | refine A.or tabOk (h := ?_) | refine A.and tabOk (h := ?_) | refine A.gopen tabOk (h := ?_) | refine A.gshutP tabOk (h := ?_) | refine A.gshutM tabOk (h := ?_) | refine A.gshutN tabOk (h := ?_) | refine A.pickT tabOk (h := ?_) | refine A.pickF tabOk (h := ?_) | refine A.gstep tabOk (h := ?_) | refine A.gload tabOk (h := ?_) | refine A.store tabOk (h := ?_) | refine A.loadL tabOk (h := ?_) | refine A.loadE tabOk (h := ?_) | refine A.storeL tabOk (h := ?_) | refine A.gloadL tabOk (h := ?_) | refine A.gloadE tabOk (h := ?_) | refine A.convS tabOk (h := ?_)); (conv => whnf)) | (with_reducible first | refine A.condT (hx := ?_) | refine A.condF (hy := ?_)) | fail)
  refine V.cond rfl (fun h => ?_) (fun h => ?_)
  · repeat' (first | (with_reducible first | refine V.seq ?_ | refine V.block ?_ | refine V.ret ?_ | refine V.skip ?_ | refine V.exit ?_ | refine thenK_normal ?_ | refine thenK_ret ?_ | refine thenK_exit ?_ | refine blockK_normal ?_ | refine blockK_ret ?_ | refine blockK_here ?_ | refine loopK_ret ?_ | refine loopK_exit ?_ | refine Ops.nil ?_ | refine A.blockK_on (h := ?_)) | ((with_reducible first | refine A.drw tabOk ⟨[], [], []⟩ mixed (h := ?_) | refine A.reg tabOk (h := ?_) | refine And.intro (by omega) ?_ | refine A.load tabOk (h := ?_) | refine A.or tabOk (h := ?_) | refine A.and tabOk (h := ?_) | refine A.gopen tabOk (h := ?_) | refine A.gshutP tabOk (h := ?_) | refine A.gshutM tabOk (h := ?_) | refine A.gshutN tabOk (h := ?_) | refine A.pickT tabOk (h := ?_) | refine A.pickF tabOk (h := ?_) | refine A.gstep tabOk (h := ?_) | refine A.gload tabOk (h := ?_) | refine A.store tabOk (h := ?_) | refine A.loadL tabOk (h := ?_) | refine A.loadE tabOk (h := ?_) | refine A.storeL tabOk (h := ?_) | refine A.gloadL tabOk (h := ?_) | refine A.gloadE tabOk (h := ?_) | refine A.convS tabOk (h := ?_)); (conv => whnf)) | (with_reducible first | refine A.condT (hx := ?_) | refine A.condF (hy := ?_)) | fail)
    have ht : tickB x now = false := by unfold tickB; simpa using h
    rw [show tickD x now = x from if_neg (by rw [ht]; decide)]
    exact retK_ret rfl (Weak.refl _) ⟨by simp only [tup, ht], s, c, hs, fun _ => rfl, rfl⟩
  · repeat' (first | (with_reducible first | refine V.seq ?_ | refine V.block ?_ | refine V.ret ?_ | refine V.skip ?_ | refine V.exit ?_ | refine thenK_normal ?_ | refine thenK_ret ?_ | refine thenK_exit ?_ | refine blockK_normal ?_ | refine blockK_ret ?_ | refine blockK_here ?_ | refine loopK_ret ?_ | refine loopK_exit ?_ | refine Ops.nil ?_ | refine A.blockK_on (h := ?_)) | ((with_reducible first | refine A.drw tabOk ⟨[], [], []⟩ mixed (h := ?_) | refine A.reg tabOk (h := ?_) | refine And.intro (by omega) ?_ | refine A.load tabOk (h := ?_) | refine A.or tabOk (h := ?_) | refine A.and tabOk (h := ?_) | refine A.gopen tabOk (h := ?_) | refine A.gshutP tabOk (h := ?_) | refine A.gshutM tabOk (h := ?_) | refine A.gshutN tabOk (h := ?_) | refine A.pickT tabOk (h := ?_) | refine A.pickF tabOk (h := ?_) | refine A.gstep tabOk (h := ?_) | refine A.gload tabOk (h := ?_) | refine A.store tabOk (h := ?_) | refine A.loadL tabOk (h := ?_) | refine A.loadE tabOk (h := ?_) | refine A.storeL tabOk (h := ?_) | refine A.gloadL tabOk (h := ?_) | refine A.gloadE tabOk (h := ?_) | refine A.convS tabOk (h := ?_)); (conv => whnf)) | (with_reducible first | refine A.condT (hx := ?_) | refine A.condF (hy := ?_)) | fail)
    have ht : tickB x now = true := by unfold tickB; simpa using h
    (with_reducible refine A.callV tabOk (hs := mark_s _ _ _ x _ _ ) (h := ?_)); rintro _ _ ⟨rfl, rfl⟩; refine ⟨(by with_unfolding_all first | exact Weak.refl _ | exact Weak.all _ | (repeat (first | exact Weak.refl _ | exact Weak.all _ | refine A.wpick (k := ?_) | apply Weak.drop))), ?_⟩; (conv => whnf)
    repeat' (first | (with_reducible first | refine V.seq ?_ | refine V.block ?_ | refine V.ret ?_ | refine V.skip ?_ | refine V.exit ?_ | refine thenK_normal ?_ | refine thenK_ret ?_ | refine thenK_exit ?_ | refine blockK_normal ?_ | refine blockK_ret ?_ | refine blockK_here ?_ | refine loopK_ret ?_ | refine loopK_exit ?_ | refine Ops.nil ?_ | refine A.blockK_on (h := ?_)) | ((with_reducible first | refine A.drw tabOk ⟨[], [], []⟩ mixed (h := ?_) | refine A.reg tabOk (h := ?_) | refine And.intro (by omega) ?_ | refine A.load tabOk (h := ?_) | refine A.or tabOk (h := ?_) | refine A.and tabOk (h := ?_) | refine A.gopen tabOk (h := ?_) | refine A.gshutP tabOk (h := ?_) | refine A.gshutM tabOk (h := ?_) | refine A.gshutN tabOk (h := ?_) | refine A.pickT tabOk (h := ?_) | refine A.pickF tabOk (h := ?_) | refine A.gstep tabOk (h := ?_) | refine A.gload tabOk (h := ?_) | refine A.store tabOk (h := ?_) | refine A.loadL tabOk (h := ?_) | refine A.loadE tabOk (h := ?_) | refine A.storeL tabOk (h := ?_) | refine A.gloadL tabOk (h := ?_) | refine A.gloadE tabOk (h := ?_) | refine A.convS tabOk (h := ?_)); (conv => whnf)) | (with_reducible first | refine A.condT (hx := ?_) | refine A.condF (hy := ?_)) | fail)
    (with_reducible refine A.buildSlice tabOk (h := ?_)); (conv => whnf); intro b1; (conv => whnf)
    (with_reducible refine A.append tabOk (hs := hs)  (h := ?_)); intro v c' hs'; refine ⟨(by with_unfolding_all first | exact Weak.refl _ | exact Weak.all _ | (repeat (first | exact Weak.refl _ | exact Weak.all _ | refine A.wpick (k := ?_) | apply Weak.drop))), ?_⟩; (conv => whnf)
    repeat' (first | (with_reducible first | refine V.seq ?_ | refine V.block ?_ | refine V.ret ?_ | refine V.skip ?_ | refine V.exit ?_ | refine thenK_normal ?_ | refine thenK_ret ?_ | refine thenK_exit ?_ | refine blockK_normal ?_ | refine blockK_ret ?_ | refine blockK_here ?_ | refine loopK_ret ?_ | refine loopK_exit ?_ | refine Ops.nil ?_ | refine A.blockK_on (h := ?_)) | ((with_reducible first | refine A.drw tabOk ⟨[], [], []⟩ mixed (h := ?_) | refine A.reg tabOk (h := ?_) | refine And.intro (by omega) ?_ | refine A.load tabOk (h := ?_) | refine A.or tabOk (h := ?_) | refine A.and tabOk (h := ?_) | refine A.gopen tabOk (h := ?_) | refine A.gshutP tabOk (h := ?_) | refine A.gshutM tabOk (h := ?_) | refine A.gshutN tabOk (h := ?_) | refine A.pickT tabOk (h := ?_) | refine A.pickF tabOk (h := ?_) | refine A.gstep tabOk (h := ?_) | refine A.gload tabOk (h := ?_) | refine A.store tabOk (h := ?_) | refine A.loadL tabOk (h := ?_) | refine A.loadE tabOk (h := ?_) | refine A.storeL tabOk (h := ?_) | refine A.gloadL tabOk (h := ?_) | refine A.gloadE tabOk (h := ?_) | refine A.convS tabOk (h := ?_)); (conv => whnf)) | (with_reducible first | refine A.condT (hx := ?_) | refine A.condF (hy := ?_)) | fail)
    rw [show tickD x now = { x with last := max x.last (clip now), fired := x.fired ++ [clip now] } from if_pos ht]
    refine retK_ret rfl ?w ⟨by simp only [tup, ht], v, c', by simpa [ints] using hs', fun h => (by rw [ht] at h; cases h), rfl⟩
    simp only [clip_clip]
    first | exact Weak.refl _ | exact Weak.all _ | (repeat (first | exact Weak.refl _ | exact Weak.all _ | refine A.wpick (k := ?_) | apply Weak.drop))

theorem new_s (W0 : World) (C : Heap) (w : Int) (hw : 1 ≤ w ∧ w ≤ 1099511627776) :
    Does W0 Tryz.prog 49 #[.int .i64 w] C (fun v C' => ∃ d, v = .tuple #[.pointer (some ⟨d, 0, none⟩), .int .i64 0] ∧ C' = dgC d ⟨w, 0, []⟩ (.slice none 0 0) :: [] :: C) := by
  refine Does.go Tryz.func49 rfl Tryz.results49 Tryz.ntmps49 rfl rfl ?_; (conv => whnf)
  repeat' (first | (with_reducible first | refine V.seq ?_ | refine V.block ?_ | refine V.ret ?_ | refine V.skip ?_ | refine V.exit ?_ | refine thenK_normal ?_ | refine thenK_ret ?_ | refine thenK_exit ?_ | refine blockK_normal ?_ | refine blockK_ret ?_ | refine blockK_here ?_ | refine loopK_ret ?_ | refine loopK_exit ?_ | refine Ops.nil ?_ | refine A.blockK_on (h := ?_)) | ((with_reducible first | refine A.drw tabOk ⟨[], [], []⟩ mixed (h := ?_) | refine A.reg tabOk (h := ?_) | refine And.intro (by omega) ?_ | refine A.load tabOk (h := ?_) | refine A.or tabOk (h := ?_) | refine A.and tabOk (h := ?_) | refine A.gopen tabOk (h := ?_) | refine A.gshutP tabOk (h := ?_) | refine A.gshutM tabOk (h := ?_) | refine A.gshutN tabOk (h := ?_) | refine A.pickT tabOk (h := ?_) | refine A.pickF tabOk (h := ?_) | refine A.gstep tabOk (h := ?_) | refine A.gload tabOk (h := ?_) | refine A.store tabOk (h := ?_) | refine A.loadL tabOk (h := ?_) | refine A.loadE tabOk (h := ?_) | refine A.storeL tabOk (h := ?_) | refine A.gloadL tabOk (h := ?_) | refine A.gloadE tabOk (h := ?_) | refine A.convS tabOk (h := ?_)); (conv => whnf)) | (with_reducible first | refine A.condT (hx := ?_) | refine A.condF (hy := ?_)) | fail)
  (first | with_reducible refine A.boxN tabOk (h := ?_) | with_reducible refine A.box tabOk (h := ?_)); intro b; (conv => whnf)
  repeat' (first | (with_reducible first | refine V.seq ?_ | refine V.block ?_ | refine V.ret ?_ | refine V.skip ?_ | refine V.exit ?_ | refine thenK_normal ?_ | refine thenK_ret ?_ | refine thenK_exit ?_ | refine blockK_normal ?_ | refine blockK_ret ?_ | refine blockK_here ?_ | refine loopK_ret ?_ | refine loopK_exit ?_ | refine Ops.nil ?_ | refine A.blockK_on (h := ?_)) | ((with_reducible first | refine A.drw tabOk ⟨[], [], []⟩ mixed (h := ?_) | refine A.reg tabOk (h := ?_) | refine And.intro (by omega) ?_ | refine A.load tabOk (h := ?_) | refine A.or tabOk (h := ?_) | refine A.and tabOk (h := ?_) | refine A.gopen tabOk (h := ?_) | refine A.gshutP tabOk (h := ?_) | refine A.gshutM tabOk (h := ?_) | refine A.gshutN tabOk (h := ?_) | refine A.pickT tabOk (h := ?_) | refine A.pickF tabOk (h := ?_) | refine A.gstep tabOk (h := ?_) | refine A.gload tabOk (h := ?_) | refine A.store tabOk (h := ?_) | refine A.loadL tabOk (h := ?_) | refine A.loadE tabOk (h := ?_) | refine A.storeL tabOk (h := ?_) | refine A.gloadL tabOk (h := ?_) | refine A.gloadE tabOk (h := ?_) | refine A.convS tabOk (h := ?_)); (conv => whnf)) | (with_reducible first | refine A.condT (hx := ?_) | refine A.condF (hy := ?_)) | fail)
  exact retK_ret rfl (by first | exact Weak.refl _ | exact Weak.all _ | (repeat (first | exact Weak.refl _ | exact Weak.all _ | refine A.wpick (k := ?_) | apply Weak.drop))) ⟨b, rfl, rfl⟩

theorem clone_s (W0 : World) (C : Heap) (s : Value) (n : Nat) (xs : List Value) (hs : RdS W0 C 1 s n xs) (hn : n ≤ 1000000) (h1 : xs.all (·.oneCell') = true) :
    Does W0 Tryz.prog 39 #[s] C (fun v C' => ∃ c', Slc 3 1 v n xs c' ∧ C' = c' :: C) := by
  obtain ⟨ao, cap, rfl, hc, hr⟩ := hs.form
  cases ao with
  | none =>
    have h0 : n = 0 := by
      rcases Nat.eq_zero_or_pos n with h | h
      · exact h
      · obtain ⟨b, off, h, _⟩ := hr h; cases h
    subst h0
    have hx0 : xs = [] := List.eq_nil_of_length_eq_zero (by have := hs.len; omega)
    subst hx0
    refine Does.go Tryz.func39 rfl Tryz.results39 Tryz.ntmps39 rfl rfl ?_; (conv => whnf)
    repeat' (first | (with_reducible first | refine V.seq ?_ | refine V.block ?_ | refine V.ret ?_ | refine V.skip ?_ | refine V.exit ?_ | refine thenK_normal ?_ | refine thenK_ret ?_ | refine thenK_exit ?_ | refine blockK_normal ?_ | refine blockK_ret ?_ | refine blockK_here ?_ | refine loopK_ret ?_ | refine loopK_exit ?_ | refine Ops.nil ?_ | refine A.blockK_on (h := ?_)) | ((with_reducible first | refine A.drw tabOk ⟨[], [], []⟩ mixed (h := ?_) | refine A.reg tabOk (h := ?_) | refine And.intro (by omega) ?_ | refine A.load tabOk (h := ?_) | refine A.or tabOk (h := ?_) | refine A.and tabOk (h := ?_) | refine A.gopen tabOk (h := ?_) | refine A.gshutP tabOk (h := ?_) | refine A.gshutM tabOk (h := ?_) | refine A.gshutN tabOk (h := ?_) | refine A.pickT tabOk (h := ?_) | refine A.pickF tabOk (h := ?_) | refine A.gstep tabOk (h := ?_) | refine A.gload tabOk (h := ?_) | refine A.store tabOk (h := ?_) | refine A.loadL tabOk (h := ?_) | refine A.loadE tabOk (h := ?_) | refine A.storeL tabOk (h := ?_) | refine A.gloadL tabOk (h := ?_) | refine A.gloadE tabOk (h := ?_) | refine A.convS tabOk (h := ?_)); (conv => whnf)) | (with_reducible first | refine A.condT (hx := ?_) | refine A.condF (hy := ?_)) | fail)
    exact retK_ret rfl (by first | exact Weak.refl _ | exact Weak.all _ | (repeat (first | exact Weak.refl _ | exact Weak.all _ | refine A.wpick (k := ?_) | apply Weak.drop))) ⟨[], Slc.nil 3 1, rfl⟩
  | some a =>
    refine Does.go Tryz.func39 rfl Tryz.results39 Tryz.ntmps39 rfl rfl ?_; (conv => whnf)
    repeat' (first | (with_reducible first | refine V.seq ?_ | refine V.block ?_ | refine V.ret ?_ | refine V.skip ?_ | refine V.exit ?_ | refine thenK_normal ?_ | refine thenK_ret ?_ | refine thenK_exit ?_ | refine blockK_normal ?_ | refine blockK_ret ?_ | refine blockK_here ?_ | refine loopK_ret ?_ | refine loopK_exit ?_ | refine Ops.nil ?_ | refine A.blockK_on (h := ?_)) | ((with_reducible first | refine A.drw tabOk ⟨[], [], []⟩ mixed (h := ?_) | refine A.reg tabOk (h := ?_) | refine And.intro (by omega) ?_ | refine A.load tabOk (h := ?_) | refine A.or tabOk (h := ?_) | refine A.and tabOk (h := ?_) | refine A.gopen tabOk (h := ?_) | refine A.gshutP tabOk (h := ?_) | refine A.gshutM tabOk (h := ?_) | refine A.gshutN tabOk (h := ?_) | refine A.pickT tabOk (h := ?_) | refine A.pickF tabOk (h := ?_) | refine A.gstep tabOk (h := ?_) | refine A.gload tabOk (h := ?_) | refine A.store tabOk (h := ?_) | refine A.loadL tabOk (h := ?_) | refine A.loadE tabOk (h := ?_) | refine A.storeL tabOk (h := ?_) | refine A.gloadL tabOk (h := ?_) | refine A.gloadE tabOk (h := ?_) | refine A.convS tabOk (h := ?_)); (conv => whnf)) | (with_reducible first | refine A.condT (hx := ?_) | refine A.condF (hy := ?_)) | fail)
    have hl := hs.len
    (with_reducible refine A.buildSlice tabOk (h := ?_)); (conv => whnf); intro b; (conv => whnf)
    (with_reducible refine A.append tabOk (hs := Slc.lit (n := 0) (xs := []) rfl (by unfold maxLen; omega)) (hr := hs.rda.mono (by first | exact Weak.refl _ | exact Weak.all _ | (repeat (first | exact Weak.refl _ | exact Weak.all _ | refine A.wpick (k := ?_) | apply Weak.drop)))) (h := ?_)); intro v c' hs'; refine ⟨(by with_unfolding_all first | exact Weak.refl _ | exact Weak.all _ | (repeat (first | exact Weak.refl _ | exact Weak.all _ | refine A.wpick (k := ?_) | apply Weak.drop))), ?_⟩; (conv => whnf)
    repeat' (first | (with_reducible first | refine V.seq ?_ | refine V.block ?_ | refine V.ret ?_ | refine V.skip ?_ | refine V.exit ?_ | refine thenK_normal ?_ | refine thenK_ret ?_ | refine thenK_exit ?_ | refine blockK_normal ?_ | refine blockK_ret ?_ | refine blockK_here ?_ | refine loopK_ret ?_ | refine loopK_exit ?_ | refine Ops.nil ?_ | refine A.blockK_on (h := ?_)) | ((with_reducible first | refine A.drw tabOk ⟨[], [], []⟩ mixed (h := ?_) | refine A.reg tabOk (h := ?_) | refine And.intro (by omega) ?_ | refine A.load tabOk (h := ?_) | refine A.or tabOk (h := ?_) | refine A.and tabOk (h := ?_) | refine A.gopen tabOk (h := ?_) | refine A.gshutP tabOk (h := ?_) | refine A.gshutM tabOk (h := ?_) | refine A.gshutN tabOk (h := ?_) | refine A.pickT tabOk (h := ?_) | refine A.pickF tabOk (h := ?_) | refine A.gstep tabOk (h := ?_) | refine A.gload tabOk (h := ?_) | refine A.store tabOk (h := ?_) | refine A.loadL tabOk (h := ?_) | refine A.loadE tabOk (h := ?_) | refine A.storeL tabOk (h := ?_) | refine A.gloadL tabOk (h := ?_) | refine A.gloadE tabOk (h := ?_) | refine A.convS tabOk (h := ?_)); (conv => whnf)) | (with_reducible first | refine A.condT (hx := ?_) | refine A.condF (hy := ?_)) | fail)
    exact retK_ret rfl (by first | exact Weak.refl _ | exact Weak.all _ | (repeat (first | exact Weak.refl _ | exact Weak.all _ | refine A.wpick (k := ?_) | apply Weak.drop))) ⟨c', by simpa [tup] using hs', rfl⟩

theorem fired_s (W0 : World) (C : Heap) (d : Nat) (x : Dg) (s : Value) (c : List Blk) (hs : Slc 3 1 s x.fired.length (ints x.fired) c) (hn : x.fired.length ≤ 1000000) :
    Does W0 Tryz.prog 29 #[.pointer (some ⟨d, 0, none⟩)] (dgC d x s :: c :: C) (fun v C' => ∃ c', Slc 3 1 v x.fired.length (ints x.fired) c' ∧ C' = c' :: dgC d x s :: c :: C) := by
  refine Does.go Tryz.func29 rfl Tryz.results29 Tryz.ntmps29 rfl rfl ?_; (conv => whnf)
  repeat' (first | (with_reducible first | refine V.seq ?_ | refine V.block ?_ | refine V.ret ?_ | refine V.skip ?_ | refine V.exit ?_ | refine thenK_normal ?_ | refine thenK_ret ?_ | refine thenK_exit ?_ | refine blockK_normal ?_ | refine blockK_ret ?_ | refine blockK_here ?_ | refine loopK_ret ?_ | refine loopK_exit ?_ | refine Ops.nil ?_ | refine A.blockK_on (h := ?_)) | ((with_reducible first | refine A.drw tabOk ⟨[], [], []⟩ mixed (h := ?_) | refine A.reg tabOk (h := ?_) | refine And.intro (by omega) ?_ | refine A.load tabOk (h := ?_) | refine A.or tabOk (h := ?_) | refine A.and tabOk (h := ?_) | refine A.gopen tabOk (h := ?_) | refine A.gshutP tabOk (h := ?_) | refine A.gshutM tabOk (h := ?_) | refine A.gshutN tabOk (h := ?_) | refine A.pickT tabOk (h := ?_) | refine A.pickF tabOk (h := ?_) | refine A.gstep tabOk (h := ?_) | refine A.gload tabOk (h := ?_) | refine A.store tabOk (h := ?_) | refine A.loadL tabOk (h := ?_) | refine A.loadE tabOk (h := ?_) | refine A.storeL tabOk (h := ?_) | refine A.gloadL tabOk (h := ?_) | refine A.gloadE tabOk (h := ?_) | refine A.convS tabOk (h := ?_)); (conv => whnf)) | (with_reducible first | refine A.condT (hx := ?_) | refine A.condF (hy := ?_)) | fail)
  (with_reducible refine A.call tabOk (hs := clone_s _ _ _ _ _ (hs.rds.mono (by first | exact Weak.refl _ | exact Weak.all _ | (repeat (first | exact Weak.refl _ | exact Weak.all _ | refine A.wpick (k := ?_) | apply Weak.drop)))) hn (by simp [ints, Value.oneCell']) ) (h := ?_)); rintro _ _ ⟨c', hc', rfl⟩; refine ⟨(by with_unfolding_all first | exact Weak.refl _ | exact Weak.all _ | (repeat (first | exact Weak.refl _ | exact Weak.all _ | refine A.wpick (k := ?_) | apply Weak.drop))), ?_⟩; (conv => whnf)
  repeat' (first | (with_reducible first | refine V.seq ?_ | refine V.block ?_ | refine V.ret ?_ | refine V.skip ?_ | refine V.exit ?_ | refine thenK_normal ?_ | refine thenK_ret ?_ | refine thenK_exit ?_ | refine blockK_normal ?_ | refine blockK_ret ?_ | refine blockK_here ?_ | refine loopK_ret ?_ | refine loopK_exit ?_ | refine Ops.nil ?_ | refine A.blockK_on (h := ?_)) | ((with_reducible first | refine A.drw tabOk ⟨[], [], []⟩ mixed (h := ?_) | refine A.reg tabOk (h := ?_) | refine And.intro (by omega) ?_ | refine A.load tabOk (h := ?_) | refine A.or tabOk (h := ?_) | refine A.and tabOk (h := ?_) | refine A.gopen tabOk (h := ?_) | refine A.gshutP tabOk (h := ?_) | refine A.gshutM tabOk (h := ?_) | refine A.gshutN tabOk (h := ?_) | refine A.pickT tabOk (h := ?_) | refine A.pickF tabOk (h := ?_) | refine A.gstep tabOk (h := ?_) | refine A.gload tabOk (h := ?_) | refine A.store tabOk (h := ?_) | refine A.loadL tabOk (h := ?_) | refine A.loadE tabOk (h := ?_) | refine A.storeL tabOk (h := ?_) | refine A.gloadL tabOk (h := ?_) | refine A.gloadE tabOk (h := ?_) | refine A.convS tabOk (h := ?_)); (conv => whnf)) | (with_reducible first | refine A.condT (hx := ?_) | refine A.condF (hy := ?_)) | fail)
  exact retK_ret rfl (by first | exact Weak.refl _ | exact Weak.all _ | (repeat (first | exact Weak.refl _ | exact Weak.all _ | refine A.wpick (k := ?_) | apply Weak.drop))) ⟨c', hc', rfl⟩

end Go.Proofs.YtfmjehkohlbebaaGreatDoor

/-
  A dog whose wants are not known, as the interpreter tells it.
-/
set_option linter.unusedVariables false
namespace Den
open Go Eng Go.Proofs.YtfmjehkohlbebaaGreatDoor

theorem Does.nodup {W0 : World} {Q : Program} {f : FuncId} {args : Array Value} {C : Eng.Heap} {R : Value → Eng.Heap → Prop} (h : Eng.Does W0 Q f args C R) : Eng.Does W0 Q f args C fun v C' => R v C' ∧ (C'.flatten.map Prod.fst).Nodup := ⟨fun X w hs =>
  (h.calls X w hs).mono (by rintro e w' ⟨v, C', rfl, hr, hs'⟩; exact ⟨v, C', rfl, ⟨hr, (hs'.weak (Weak.skip X C')).nodup⟩, hs'⟩)⟩

/-- A dog turned: all else lies where it lay. -/
theorem dg_mr {ρ : Rho} {M : Mem} {nx b q : P} {C C' : Eng.Heap} {ty ti t e t' e' w s r c : Nat} {F' : Value} {own ch' rest : List Blk} (hM : MR ρ M nx C) (hb : Mm.at M b = .dg ty ti t e q) (hperm : C.flatten.Perm (own ++ rest))
    (hno : ∀ p ∈ own, ∀ b', (Mm.at M b').live → ∀ c', ρ b' ≠ some (p.1, c')) (hρ : ρ b = some (r, c)) (hq : ρ q = some (w, s)) (hw : w ≤ 1000) (ht : t' ≤ 100000) (he : e' ≤ 100000) (hsl : Slc ti 1 F' (t' / (w + 1)) (mults w t') ch') (hn0 : t' / (w + 1) = 0 → F' = .slice none 0 0)
    (hC : C'.flatten = ((r, Obj.cells (dgCells w t' e' F').toArray ty (0, 0)) :: ch') ++ rest) (hnd : (C'.flatten.map Prod.fst).Nodup) :
    MR ρ (Tr.set .dead M b (.dg ty ti t' e' q)) nx C' ∧ Keep ρ M (Tr.set .dead M b (.dg ty ti t' e' q)) C C' := by
  have live : ∀ b', (Mm.at (Tr.set .dead M b (.dg ty ti t' e' q)) b').live → b' ≠ b ∧ (Mm.at M b').live := fun b' hb' => by
    by_cases h : b' = b
    · subst h; rw [at_set] at hb'; exact hb'.elim
    · rw [at_set_ne M _ h] at hb'; exact ⟨h, hb'⟩
  have mv : ∀ b' r' c' ro, (Mm.at M b').live → ρ b' = some (r', c') → (r', ro) ∈ C.flatten → (r', ro) ∈ rest := fun b' r' c' ro hl h1 h2 => by
    rcases List.mem_append.1 (hperm.mem_iff.1 h2) with h | h
    · exact absurd h1 (hno _ h b' hl c')
    · exact h
  have hnd' := hnd
  rw [hC, List.map_append, List.nodup_append] at hnd'
  obtain ⟨n1, n2, n3⟩ := hnd'
  refine ⟨⟨hM.old, fun b' hb' => ?_, fun b1 b2 r' c1 c2 h1 h2 => hM.inj b1 b2 r' c1 c2 (live b1 h1).2 (live b2 h2).2, fun b' ty2 ti2 t2 e2 q2 hb' => ?_, fun b1 b2 h1 h2 => ?_⟩, fun b' r' c' ro hl hsame h1 h2 => ?_⟩
  · obtain ⟨hne, hl⟩ := live b' hb'
    rw [at_set_ne M _ hne]
    obtain ⟨r', c', ro, h1, h2, h3⟩ := hM.live b' hl
    exact ⟨r', c', ro, h1, by rw [hC]; exact List.mem_append_right _ (mv b' r' c' ro hl h1 h2), h3⟩
  · have hbb : b' = b := by
      by_cases h : b' = b
      · exact h
      · rw [at_set_ne M _ h] at hb'
        exact hM.one b' b (by rw [hb']; trivial) (by rw [hb]; trivial)
    subst hbb
    rw [at_set] at hb'
    cases hb'
    refine ⟨r, c, w, s, F', ch', hρ, hq, hw, ht, he, hsl, hn0, n1, fun p hp => ⟨by rw [hC]; exact List.mem_append_left _ hp, fun b2 hb2 c2 h2 => ?_⟩⟩
    obtain ⟨hne, hl⟩ := live b2 hb2
    obtain ⟨r', c', ro, h3, h4, _⟩ := hM.live b2 hl
    rw [h2] at h3
    cases h3
    exact n3 p.1 (List.mem_map.2 ⟨p, hp, rfl⟩) p.1 (List.mem_map.2 ⟨_, mv b2 _ _ ro hl h2 h4, rfl⟩) rfl
  · have key : ∀ b', (Mm.at (Tr.set .dead M b (.dg ty ti t' e' q)) b').isD → b' = b := fun b' hb' => by
      by_cases h : b' = b
      · exact h
      · rw [at_set_ne M _ h] at hb'
        exact hM.one b' b hb' (by rw [hb]; trivial)
    rw [key b1 h1, key b2 h2]
  · rw [hC]
    exact List.mem_append_right _ (mv b' r' c' ro hl h1 h2)

theorem noD_true : ∀ {M : Mem}, noD M = true → ∀ b, ¬ (Mm.at M b).isD
  | .lf, _, b, k => by rw [Mm.at, Tr.get_lf] at k; exact k
  | .nd o l m n r, h, b, k => by
    have h : (Bool.rec false (Bool.rec false (Bool.rec false (Bool.rec false (OB.rec true (fun _ _ _ _ => true) (fun _ _ _ => true) (fun _ _ => true) (fun _ _ _ _ _ => false) o) (noD r)) (noD n)) (noD m)) (noD l) : Bool) = true := h
    obtain ⟨h1, h⟩ := brec_true h
    obtain ⟨h2, h⟩ := brec_true h
    obtain ⟨h3, h⟩ := brec_true h
    obtain ⟨h4, h⟩ := brec_true h
    cases b with
    | z => cases o <;> first | exact k | cases h
    | a b => exact noD_true h1 b k
    | b b => exact noD_true h2 b k
    | c b => exact noD_true h3 b k
    | d b => exact noD_true h4 b k

theorem dnewS_ok (W0 : World) (hcb : callable Go.Proofs.Tryz.prog 49 = true) : SpecOk W0 Go.Proofs.Tryz.prog 49 (dnewS 158) := by
  intro vs M nx v M' nx' h
  unfold dnewS at h
  split at h <;> try (cases h; done)
  rename_i q lo hi c
  cases hb : ((Nat.beq c 1 && Nat.ble hi 1000) && noD M) with
  | false => rw [hb] at h; cases h
  | true =>
    rw [hb] at h
    cases h
    have hc := Nat.eq_of_beq_eq_true (and_l (and_l hb))
    subst hc
    have hh := Nat.le_of_ble_eq_true (and_r (and_l hb))
    have hno := noD_true (and_r hb)
    refine ⟨Mono.new, hcb, fun ρ C us hu hM => ?_⟩
    obtain ⟨u0, us1, rfl, ⟨w, s, hq, hlo, hhi, rfl⟩, hu1⟩ := hu
    cases hu1
    have hw : w ≤ 1000 := by
      have : (w : Int) ≤ (hi : Int) := hhi
      omega
    refine (Does.nodup (new_s W0 C ((w : Int) + Int.ofNat 1) ⟨by simp only [Int.ofNat_eq_natCast]; omega, by simp only [Int.ofNat_eq_natCast]; omega⟩)).mono fun u C' hC' => ?_
    obtain ⟨⟨d, rfl, rfl⟩, hnd⟩ := hC'
    have hx := hM.ext_put (d, 0)
    have hfl : (dgC d ⟨(w : Int) + Int.ofNat 1, 0, []⟩ (.slice none 0 0) :: [] :: C).flatten = (d, Obj.cells (dgCells w 0 0 (.slice none 0 0)).toArray 158 (0, 0)) :: C.flatten := by
      simp [dgC, dgCells]
    rw [hfl, List.map_cons, List.nodup_cons] at hnd
    have live : ∀ b, (Mm.at (Tr.set .dead M nx (.dg 158 3 0 0 q)) b).live → b ≠ nx ∧ (Mm.at M b).live := fun b hb' => by
      by_cases h : b = nx
      · subst h; rw [at_set] at hb'; exact hb'.elim
      · rw [at_set_ne M _ h] at hb'; exact ⟨h, hb'⟩
    refine ⟨_, hx, ⟨fun b x hb' => ?_, fun b hb' => ?_, fun b1 b2 r c1 c2 h1 h2 h3 h4 => ?_, fun b ty ti t e q' hb' => ?_, fun b1 b2 h1 h2 => ?_⟩, fun b r c ro hl hsame h1 h2 => by rw [hfl]; exact List.mem_cons_of_mem _ h2, ?_⟩
    · rw [P.num_succ]
      by_cases h : b = nx
      · subst h; omega
      · rw [Rho.put_ne ρ _ h] at hb'
        have := hM.old b x hb'
        omega
    · obtain ⟨hne, hl⟩ := live b hb'
      rw [at_set_ne M _ hne]
      obtain ⟨r, c, ro, h1, h2, h3⟩ := hM.live b hl
      exact ⟨r, c, ro, hx _ _ h1, by rw [hfl]; exact List.mem_cons_of_mem _ h2, h3.ext hx⟩
    · obtain ⟨n1, l1⟩ := live b1 h1
      obtain ⟨n2, l2⟩ := live b2 h2
      rw [Rho.put_ne ρ _ n1] at h3
      rw [Rho.put_ne ρ _ n2] at h4
      exact hM.inj b1 b2 r c1 c2 l1 l2 h3 h4
    · have hbn : b = nx := by
        by_cases h : b = nx
        · exact h
        · rw [at_set_ne M _ h] at hb'
          exact absurd (show (Mm.at M b).isD by rw [hb']; trivial) (hno b)
      subst hbn
      rw [at_set] at hb'
      cases hb'
      refine ⟨d, 0, w, s, .slice none 0 0, [], Rho.put_self _ _ _, hx _ _ hq, hw, by omega, by omega, ?_, fun _ => rfl, by simp, fun p hp => ?_⟩
      · rw [show 0 / (w + 1) = 0 from Nat.zero_div _]
        have : mults w 0 = [] := by simp [mults, multsZ, ints, Nat.zero_div]
        rw [this]
        exact Slc.nil 3 1
      · have hp := List.mem_singleton.1 hp
        subst hp
        refine ⟨by rw [hfl]; exact List.mem_cons_self .., fun b' hb' c' hc' => ?_⟩
        obtain ⟨hne, hl⟩ := live b' hb'
        rw [Rho.put_ne ρ _ hne] at hc'
        obtain ⟨r, c, ro, h1, h2, _⟩ := hM.live b' hl
        rw [hc'] at h1
        cases h1
        exact hnd.1 (List.mem_map.2 ⟨_, h2, rfl⟩)
    · have key : ∀ b, (Mm.at (Tr.set .dead M nx (.dg 158 3 0 0 q)) b).isD → b = nx := fun b hb' => by
        by_cases h : b = nx
        · exact h
        · rw [at_set_ne M _ h] at hb'
          exact absurd hb' (hno b)
      rw [key b1 h1, key b2 h2]
    · exact ⟨_, rfl, _, _, rfl, ⟨d, 0, Rho.put_self _ _ _, rfl⟩, _, _, rfl, rfl, rfl⟩

/-- A dog's blocks, and all else. -/
theorem dg_open {ρ : Rho} {M : Mem} {nx d q : P} {C : Eng.Heap} {ty ti t e : Nat} (hM : MR ρ M nx C) (hd : Mm.at M d = .dg ty ti t e q) :
    ∃ r c w s F ch rest, ρ d = some (r, c) ∧ ρ q = some (w, s) ∧ w ≤ 1000 ∧ t ≤ 100000 ∧ e ≤ 100000 ∧ Slc ti 1 F (t / (w + 1)) (mults w t) ch ∧ (t / (w + 1) = 0 → F = .slice none 0 0) ∧ (∀ p ∈ (r, Obj.cells (dgCells w t e F).toArray ty (0, 0)) :: ch, ∀ b', (Mm.at M b').live → ∀ c', ρ b' ≠ some (p.1, c')) ∧
      C.flatten.Perm (((r, Obj.cells (dgCells w t e F).toArray ty (0, 0)) :: ch) ++ rest) := by
  obtain ⟨r, c, w, s, F, ch, h1, h2, h3, h4, h5, h6, h0, h7, h8⟩ := hM.dgs d ty ti t e q hd
  obtain ⟨rest, hr⟩ := weak_of_mem (List.Pairwise.of_map Prod.fst (fun a b h e => h (by rw [e])) h7) fun p hp => (h8 p hp).1
  exact ⟨r, c, w, s, F, ch, rest, h1, h2, h3, h4, h5, h6, h0, fun p hp => (h8 p hp).2, hr⟩
/-- A dog as the proofs of its functions have it. -/
def dgX (w t e : Nat) : Dg := ⟨((w + 1 : Nat) : Int), ((max ((w + 1) * (t / (w + 1))) e : Nat) : Int), multsZ w t⟩
theorem dgX_len (w t e : Nat) : (dgX w t e).fired.length = t / (w + 1) := by simp [dgX, multsZ]
theorem dgX_c (r w t e : Nat) (F : Value) : dgC r (dgX w t e) F = [(r, Obj.cells (dgCells w t e F).toArray 158 (0, 0))] := rfl
theorem dg_weak {C : Eng.Heap} {a : Blk} {ch rest : List Blk} (h : C.flatten.Perm ((a :: ch) ++ rest)) : Weak C ([a] :: ch :: [rest]) := ⟨[], by simpa using h⟩
theorem clipN {n : Nat} (h : n ≤ 100000) : clip (n : Int) = n := by unfold clip; omega
theorem div_le (t w : Nat) : (w + 1) * (t / (w + 1)) ≤ t := Nat.mul_div_le t (w + 1)

theorem dmarkS_ok (W0 : World) (hcb : callable Go.Proofs.Tryz.prog 26 = true) : SpecOk W0 Go.Proofs.Tryz.prog 26 (dmarkS 158) := by
  intro vs M nx v M' nx' h
  unfold dmarkS at h
  split at h <;> try (cases h; done)
  rename_i d now
  split at h <;> try (cases h; done)
  rename_i ty ti t e q hd
  have hd : Mm.at M d = .dg ty ti t e q := hd
  cases hb : ((Nat.beq ty 158 && Nat.beq ti 3) && (Nat.ble t now && Nat.ble e now)) && Nat.ble now 100000 with
  | false => rw [hb] at h; cases h
  | true =>
    rw [hb] at h
    cases h
    have e1 := Nat.eq_of_beq_eq_true (and_l (and_l (and_l hb)))
    have e2 := Nat.eq_of_beq_eq_true (and_r (and_l (and_l hb)))
    subst e1; subst e2
    have e3 := Nat.le_of_ble_eq_true (and_l (and_r (and_l hb)))
    have e4 := Nat.le_of_ble_eq_true (and_r (and_r (and_l hb)))
    have e5 := Nat.le_of_ble_eq_true (and_r hb)
    refine ⟨Mono.set (fun h => (by rw [hd] at h; exact h.elim)) (.inr fun h => h), hcb, fun ρ C us hu hM => ?_⟩
    obtain ⟨u0, us1, rfl, ⟨r', c', hρ', rfl⟩, u1, us2, rfl, hu1, hu2⟩ := hu
    cases hu2
    have hu1 : u1 = .int .i64 (now : Int) := hu1
    subst hu1
    obtain ⟨r, c, w, s, F, ch, rest, h1, h2, h3, h4, h5, h6, h0, h7, h8⟩ := dg_open hM hd
    rw [hρ'] at h1
    cases h1
    have hle := div_le t w
    refine (Does.nodup (Eng.Does.weak (dg_weak h8) (mark_s W0 (ch :: [rest]) r' (dgX w t e) F (now : Int)))).mono fun u C' hC' => ?_
    obtain ⟨⟨rfl, rfl⟩, hnd⟩ := hC'
    have hx : dgC r' { dgX w t e with last := max (dgX w t e).last (clip (now : Int)) } F = [(r', Obj.cells (dgCells w t now F).toArray 158 (0, 0))] := by
      have e6 : max (dgX w t e).last (clip (now : Int)) = ((max ((w + 1) * (t / (w + 1))) now : Nat) : Int) := by
        rw [clipN e5]
        show max (((max ((w + 1) * (t / (w + 1))) e : Nat) : Int)) (now : Int) = _
        generalize (w + 1) * (t / (w + 1)) = z at hle
        omega
      rw [e6]
      rfl
    rw [hx] at hnd ⊢
    obtain ⟨m1, m2⟩ := dg_mr hM hd h8 h7 hρ' h2 h3 h4 e5 h6 h0 (by simp) hnd
    exact ⟨ρ, Den.Ext.refl ρ, m1, m2, _, rfl, rfl⟩

theorem dfiredS_ok (W0 : World) (hcb : callable Go.Proofs.Tryz.prog 29 = true) : SpecOk W0 Go.Proofs.Tryz.prog 29 (dfiredS 158) := by
  intro vs M nx v M' nx' h
  unfold dfiredS at h
  split at h <;> try (cases h; done)
  rename_i d
  split at h <;> try (cases h; done)
  rename_i ty ti t e q hd
  have hd : Mm.at M d = .dg ty ti t e q := hd
  cases hb : (Nat.beq ty 158 && Nat.beq ti 3) && Nat.ble t 100000 with
  | false => rw [hb] at h; cases h
  | true =>
    rw [hb] at h
    cases h
    have e1 := Nat.eq_of_beq_eq_true (and_l (and_l hb))
    have e2 := Nat.eq_of_beq_eq_true (and_r (and_l hb))
    subst e1; subst e2
    refine ⟨Mono.refl _ _, hcb, fun ρ C us hu hM => ?_⟩
    obtain ⟨u0, us1, rfl, ⟨r', c', hρ', rfl⟩, hu1⟩ := hu
    cases hu1
    obtain ⟨r, c, w, s, F, ch, rest, h1, h2, h3, h4, h5, h6, h0, h7, h8⟩ := dg_open hM hd
    rw [hρ'] at h1
    cases h1
    have hlen := dgX_len w t e
    have hle : t / (w + 1) ≤ t := Nat.div_le_self _ _
    refine (Eng.Does.weak (dg_weak h8) (fired_s W0 [rest] r' (dgX w t e) F ch (by rw [hlen]; exact h6) (by rw [hlen]; omega))).mono fun u C' hC' => ?_
    obtain ⟨c'', hs, rfl⟩ := hC'
    have hsub : ∀ p ∈ C.flatten, p ∈ (c'' :: dgC r' (dgX w t e) F :: ch :: [rest]).flatten := fun p hp => by
      have := h8.mem_iff.1 hp
      rw [dgX_c]
      simp only [List.flatten_cons, List.mem_append, List.mem_cons, List.flatten_nil, List.append_nil, List.cons_append] at this ⊢
      rcases this with h | h | h <;> simp [h]
    exact ⟨ρ, Den.Ext.refl ρ, hM.sub hsub, fun b r c ro _ _ _ hin => hsub _ hin, hs.one⟩

theorem multsZ_same {w t : Nat} (h : (t + 1) / (w + 1) = t / (w + 1)) : multsZ w (t + 1) = multsZ w t := by unfold multsZ; rw [h]
theorem multsZ_next {w t : Nat} (h : (t + 1) / (w + 1) = t / (w + 1) + 1) (h2 : (w + 1) * ((t + 1) / (w + 1)) = t + 1) : multsZ w (t + 1) = multsZ w t ++ [((t + 1 : Nat) : Int)] := by
  unfold multsZ
  rw [h, List.range_succ, List.map_append, List.map_singleton]
  congr 3
  rw [h] at h2
  rw [← h2, Nat.mul_comm]
theorem div_step (t w : Nat) : (t + 1) / (w + 1) = t / (w + 1) ∧ (t - (w + 1) * (t / (w + 1))) < w ∨ (t + 1) / (w + 1) = t / (w + 1) + 1 ∧ (w + 1) * ((t + 1) / (w + 1)) = t + 1 ∧ t - (w + 1) * (t / (w + 1)) = w := by
  have h1 := Nat.div_add_mod t (w + 1)
  have h2 := Nat.mod_lt t (show 0 < w + 1 by omega)
  have h3 : t % (w + 1) = t - (w + 1) * (t / (w + 1)) := by omega
  have h4 := Nat.succ_div (a := t) (b := w + 1)
  by_cases hm : t % (w + 1) = w
  · right
    have e : t + 1 = (w + 1) * (t / (w + 1) + 1) := by rw [Nat.mul_add, Nat.mul_one]; omega
    have e2 : (t + 1) / (w + 1) = t / (w + 1) + 1 := by
      rw [e]
      exact Nat.mul_div_cancel_left _ (by omega)
    exact ⟨e2, by rw [e2, ← e], by omega⟩
  · left
    refine ⟨?_, by omega⟩
    have e : t + 1 = (w + 1) * (t / (w + 1)) + (t % (w + 1) + 1) := by omega
    rw [e, Nat.mul_add_div (by omega), Nat.div_eq_of_lt (show t % (w + 1) + 1 < w + 1 by omega), Nat.add_zero]

theorem tick_same {w t now : Nat} (ht : t ≤ now) (hn : now ≤ 100000) : tickD (dgX w t now) (now : Int) = dgX w t now := by
  refine if_neg fun h => ?_
  have hle := div_le t w
  simp only [tickB, dgX, clipN hn, Bool.not_eq_true', decide_eq_false_iff_not] at h
  have : max ((w + 1) * (t / (w + 1))) now = now := by omega
  rw [this] at h
  omega
theorem tickB_same {w t now : Nat} (ht : t ≤ now) (hn : now ≤ 100000) : tickB (dgX w t now) (now : Int) = false := by
  have hle := div_le t w
  simp only [tickB, dgX, clipN hn, Bool.not_eq_false', decide_eq_true_eq]
  have : max ((w + 1) * (t / (w + 1))) now = now := by omega
  rw [this]
  omega
theorem tickB_next {w t : Nat} (hn : t + 1 ≤ 100000) (h : (t + 1) / (w + 1) = 0) : t / (w + 1) = 0 ∧ tickB (dgX w t 0) ((t + 1 : Nat) : Int) = false := by
  have hle := div_le t w
  rcases div_step t w with ⟨h1, h2⟩ | ⟨h1, _, _⟩
  · refine ⟨by rw [← h1]; exact h, ?_⟩
    simp only [tickB, dgX, clipN hn, Bool.not_eq_false', decide_eq_true_eq, Nat.max_zero]
    generalize (w + 1) * (t / (w + 1)) = z at hle h2
    omega
  · rw [h1] at h
    exact absurd h (Nat.succ_ne_zero _)
theorem tick_next {w t : Nat} (hn : t + 1 ≤ 100000) : tickD (dgX w t 0) ((t + 1 : Nat) : Int) = dgX w (t + 1) 0 := by
  have hle := div_le t w
  rcases div_step t w with ⟨h1, h2⟩ | ⟨h1, h2, h3⟩
  · have hb : tickB (dgX w t 0) ((t + 1 : Nat) : Int) = false := by
      simp only [tickB, dgX, clipN hn, Bool.not_eq_false', decide_eq_true_eq, Nat.max_zero]
      generalize (w + 1) * (t / (w + 1)) = z at hle h2
      omega
    rw [tickD, hb, if_neg (by decide)]
    simp only [dgX, multsZ_same h1, h1]
  · have hb : tickB (dgX w t 0) ((t + 1 : Nat) : Int) = true := by
      simp only [tickB, dgX, clipN hn, Bool.not_eq_true', decide_eq_false_iff_not, Nat.max_zero]
      omega
    have e6 : max (dgX w t 0).last (clip ((t + 1 : Nat) : Int)) = ((max ((w + 1) * ((t + 1) / (w + 1))) 0 : Nat) : Int) := by
      rw [clipN hn, h2]
      show max (((max ((w + 1) * (t / (w + 1))) 0 : Nat) : Int)) ((t + 1 : Nat) : Int) = _
      generalize (w + 1) * (t / (w + 1)) = z at hle
      omega
    rw [tickD, if_pos hb]
    show ({ w := (dgX w t 0).w, last := max (dgX w t 0).last (clip ((t + 1 : Nat) : Int)), fired := (dgX w t 0).fired ++ [clip ((t + 1 : Nat) : Int)] } : Dg) = dgX w (t + 1) 0
    rw [e6, clipN hn]
    show ({ w := _, last := _, fired := multsZ w t ++ [((t + 1 : Nat) : Int)] } : Dg) = { w := _, last := _, fired := multsZ w (t + 1) }
    rw [multsZ_next h1 h2]
    rfl

theorem dtickS_ok (W0 : World) (hcb : callable Go.Proofs.Tryz.prog 27 = true) : SpecOk W0 Go.Proofs.Tryz.prog 27 (dtickS 158) := by
  intro vs M nx v M' nx' h
  unfold dtickS at h
  split at h <;> try (cases h; done)
  rename_i d now
  split at h <;> try (cases h; done)
  rename_i ty ti t e q hd
  have hd : Mm.at M d = .dg ty ti t e q := hd
  cases hb : (Nat.beq ty 158 && Nat.beq ti 3) && (Nat.ble t now && Nat.ble now 100000) with
  | false => rw [hb] at h; cases h
  | true =>
    rw [hb] at h
    have e1 := Nat.eq_of_beq_eq_true (and_l (and_l hb))
    have e2 := Nat.eq_of_beq_eq_true (and_r (and_l hb))
    subst e1; subst e2
    have e3 := Nat.le_of_ble_eq_true (and_l (and_r hb))
    have e5 := Nat.le_of_ble_eq_true (and_r (and_r hb))
    have go : ∀ t' e' : Nat, t' ≤ 100000 → e' ≤ 100000 → (∀ w, tickD (dgX w t e) (now : Int) = dgX w t' e') → (∀ w, t' / (w + 1) = 0 → t / (w + 1) = 0 ∧ tickB (dgX w t e) (now : Int) = false) → Mono M nx (Tr.set .dead M d (.dg 158 3 t' e' q)) nx ∧ callable Go.Proofs.Tryz.prog 27 = true ∧
        ∀ ρ C us, Rls ρ [VV.ptr d 0, .i (.ofNat now)] us → MR ρ M nx C → Eng.Does W0 Go.Proofs.Tryz.prog 27 us.toArray C fun u C' => ∃ ρ', Den.Ext ρ ρ' ∧ MR ρ' (Tr.set .dead M d (.dg 158 3 t' e' q)) nx C' ∧ Keep ρ M (Tr.set .dead M d (.dg 158 3 t' e' q)) C C' ∧ Rl ρ' .any u := fun t' e' ht' he' hx hz => by
      refine ⟨Mono.set (fun h => (by rw [hd] at h; exact h.elim)) (.inr fun h => h), hcb, fun ρ C us hu hM => ?_⟩
      obtain ⟨u0, us1, rfl, ⟨r', c', hρ', rfl⟩, u1, us2, rfl, hu1, hu2⟩ := hu
      cases hu2
      have hu1 : u1 = .int .i64 (now : Int) := hu1
      subst hu1
      obtain ⟨r, c, w, s, F, ch, rest, h1, h2, h3, h4, h5, h6, h0, h7, h8⟩ := dg_open hM hd
      rw [hρ'] at h1
      cases h1
      have hlen := dgX_len w t e
      have hle : t / (w + 1) ≤ t := Nat.div_le_self _ _
      have hle2 := div_le t w
      refine (Does.nodup (Eng.Does.weak (dg_weak h8) (tick_s W0 [rest] r' (dgX w t e) F ch (now : Int) ⟨by simp only [dgX]; omega, by simp only [dgX]; omega⟩ (by rw [hlen]; exact h6) (by rw [hlen]; omega)))).mono fun u C' hC' => ?_
      obtain ⟨⟨rfl, F', ch', hs, hsame, rfl⟩, hnd⟩ := hC'
      rw [hx w, dgX_len] at hs
      rw [hx w, dgX_c] at hnd ⊢
      obtain ⟨m1, m2⟩ := dg_mr hM hd h8 h7 hρ' h2 h3 ht' he' hs (fun h => by obtain ⟨a1, a2⟩ := hz w h; rw [hsame a2]; exact h0 a1) (by simp) hnd
      exact ⟨ρ, Den.Ext.refl ρ, m1, m2, rfl⟩
    cases hen : Nat.beq e now with
    | true =>
      rw [cond_true, hen, cond_true] at h
      cases h
      have hen := Nat.eq_of_beq_eq_true hen
      subst hen
      obtain ⟨_, g2, g3⟩ := go t e (by omega) e5 (fun w => tick_same e3 e5) fun w h => ⟨h, tickB_same e3 e5⟩
      have same : ∀ (C : Eng.Heap) ρ, MR ρ (Tr.set .dead M d (.dg 158 3 t e q)) nx C → MR ρ M nx C := fun C ρ h => by
        have eq : ∀ b, Mm.at (Tr.set .dead M d (.dg 158 3 t e q)) b = Mm.at M b := fun b => by
          by_cases hbd : b = d
          · subst hbd; rw [at_set, hd]
          · exact at_set_ne M _ hbd
        exact ⟨h.old, fun b hb => by rw [← eq] at hb ⊢; exact h.live b hb, fun b b' r c c' h1 h2 => h.inj b b' r c c' (by rw [eq]; exact h1) (by rw [eq]; exact h2), fun b ty ti t e q hb => (h.dgs b ty ti t e q (by rw [eq]; exact hb)).mono (Den.Ext.refl _) fun p hp hf => ⟨hp, fun b' hb' => hf b' (by rw [eq]; exact hb')⟩, fun b b' h1 h2 => h.one b b' (by rw [eq]; exact h1) (by rw [eq]; exact h2)⟩
      refine ⟨Mono.refl _ _, g2, fun ρ C us hu hM => (g3 ρ C us hu hM).mono fun u C' hC' => ?_⟩
      obtain ⟨ρ', a1, a2, a3, a4⟩ := hC'
      refine ⟨ρ', a1, same C' ρ' a2, fun b r c ro hl hs h1 h2 => a3 b r c ro hl ?_ h1 h2, a4⟩
      by_cases hbd : b = d
      · subst hbd; rw [hd] at hl; exact hl.elim
      · exact at_set_ne M _ hbd
    | false =>
      rw [cond_true, hen, cond_false] at h
      cases h0 : Nat.beq e 0 && Nat.beq now (Nat.succ t) with
      | false => rw [h0] at h; cases h
      | true =>
        rw [h0] at h
        cases h
        have h1 := Nat.eq_of_beq_eq_true (and_l h0)
        have h2 := Nat.eq_of_beq_eq_true (and_r h0)
        subst h1
        subst h2
        exact go (t + 1) 0 e5 (by omega) (fun w => tick_next e5) fun w h => tickB_next e5 h

end Den
