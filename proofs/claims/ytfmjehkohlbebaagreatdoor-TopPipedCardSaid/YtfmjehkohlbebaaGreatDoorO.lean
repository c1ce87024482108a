/-
  Whom a mutex belongs to; Low. No conditions but those that each theorem names.
-/
import Derived.Test.YtfmjehkohlbebaaGreatDoorTB
import Derived.Test.YtfmjehkohlbebaaGreatDoorEA
import Derived.Test.YtfmjehkohlbebaaGreatDoorE4
namespace Go.Proofs.YtfmjehkohlbebaaGreatDoor
open Eng
set_option maxRecDepth 100000
set_option maxHeartbeats 4000000
set_option linter.unusedVariables false
theorem held1_q (W0 : World) (C : Heap) (x m : Int) (u : Value) (hu : u.oneCell' = true) (c : Nat) (hc : Rd W0 C ⟨c, 0, none⟩ (.int .i64 m)) : Gives W0 Tryz.prog 131 #[.agg #[.int .i64 x, u], .pointer (some ⟨c, 0, none⟩)] C (.bool (decide (x = m))) := Gives.of fun X => by
  refine Does.go Tryz.func131 rfl Tryz.results131 Tryz.ntmps131 rfl rfl ?_; (conv => whnf)
  repeat' (first | (with_reducible first | refine V.seq ?_ | refine V.block ?_ | refine V.ret ?_ | refine V.skip ?_ | refine V.exit ?_ | refine thenK_normal ?_ | refine thenK_ret ?_ | refine thenK_exit ?_ | refine blockK_normal ?_ | refine blockK_ret ?_ | refine blockK_here ?_ | refine loopK_ret ?_ | refine loopK_exit ?_ | refine Ops.nil ?_ | refine A.blockK_on (h := ?_)) | ((with_reducible first | refine A.drw tabOk ⟨[], [], []⟩ mixed (h := ?_) | refine A.reg tabOk (h := ?_) | refine And.intro (by omega) ?_ | refine A.load tabOk (h := ?_) | refine A.or tabOk (h := ?_) | refine A.and tabOk (h := ?_) | refine A.gopen tabOk (h := ?_) | refine A.gshutP tabOk (h := ?_) | refine A.gshutM tabOk (h := ?_) | refine A.gshutN tabOk (h := ?_) | refine A.pickT tabOk (h := ?_) | refine A.pickF tabOk (h := ?_) | refine A.gstep tabOk (h := ?_) | refine A.gload tabOk (h := ?_) | refine A.store tabOk (h := ?_) | refine A.loadL tabOk (h := ?_) | refine A.loadE tabOk (h := ?_) | refine A.storeL tabOk (h := ?_) | refine A.gloadL tabOk (h := ?_) | refine A.gloadE tabOk (h := ?_) | refine A.convS tabOk (h := ?_)); (conv => whnf)) | (with_reducible first | refine A.condT (hx := ?_) | refine A.condF (hy := ?_)) | fail)
  (first | with_reducible refine A.boxN tabOk (h := ?_) | with_reducible refine A.box tabOk (h := ?_)); intro b; (conv => whnf)
  have hc1 := (hc.mono (Weak.skip X C)).mono (Weak.skip [(b, Obj.cells #[Value.int .i64 x, u] 166)] (X :: C))
  repeat' (first | (with_reducible first | refine V.seq ?_ | refine V.block ?_ | refine V.ret ?_ | refine V.skip ?_ | refine V.exit ?_ | refine thenK_normal ?_ | refine thenK_ret ?_ | refine thenK_exit ?_ | refine blockK_normal ?_ | refine blockK_ret ?_ | refine blockK_here ?_ | refine loopK_ret ?_ | refine loopK_exit ?_ | refine Ops.nil ?_ | refine A.blockK_on (h := ?_)) | ((with_reducible first | refine A.drw tabOk ⟨[], [], []⟩ mixed (h := ?_) | refine A.reg tabOk (h := ?_) | refine And.intro (by omega) ?_ | refine A.load tabOk (h := ?_) | refine A.or tabOk (h := ?_) | refine A.and tabOk (h := ?_) | refine A.gopen tabOk (h := ?_) | refine A.gshutP tabOk (h := ?_) | refine A.gshutM tabOk (h := ?_) | refine A.gshutN tabOk (h := ?_) | refine A.pickT tabOk (h := ?_) | refine A.pickF tabOk (h := ?_) | refine A.gstep tabOk (h := ?_) | refine A.gload tabOk (h := ?_) | refine A.store tabOk (h := ?_) | refine A.loadL tabOk (h := ?_) | refine A.loadE tabOk (h := ?_) | refine A.storeL tabOk (h := ?_) | refine A.gloadL tabOk (h := ?_) | refine A.gloadE tabOk (h := ?_) | refine A.convS tabOk (h := ?_)); (conv => whnf)) | (with_reducible first | refine A.condT (hx := ?_) | refine A.condF (hy := ?_)) | fail)
  exact retK_ret rfl (by first | exact Weak.refl _ | exact Weak.all _ | (repeat (first | exact Weak.refl _ | exact Weak.all _ | refine A.wpick (k := ?_) | apply Weak.drop))) ⟨by simp [tup], rfl⟩
theorem index_s (W0 : World) (C : Heap) (s : Value) (n : Nat) (xs : List Value) (ks : Nat → Int) (us : Nat → Value) (m : Int) (c : Nat) (hs : RdS W0 C 2 s n xs) (hk : ∀ i, i < n → xs[2 * i]? = some (.int .i64 (ks i)) ∧ xs[2 * i + 1]? = some (us i) ∧ (us i).oneCell' = true) (hc : Rd W0 C ⟨c, 0, none⟩ (.int .i64 m)) (hn : n ≤ 1000000) :
    Does W0 Tryz.prog 188 #[s, .func (.func 131) #[] #[.pointer (some ⟨c, 0, none⟩)]] C (fun v C' => C' = C ∧ ∃ r : Int, v = .int .i64 r ∧ (-1 ≤ r ∧ r ≤ 1000000) ∧ (0 ≤ r ↔ ∃ i, i < n ∧ ks i = m)) := by
  obtain ⟨ao, ac, rfl, hac, har⟩ := hs.form
  refine Does.go Tryz.func188 rfl Tryz.results188 Tryz.ntmps188 rfl rfl ?_; (conv => whnf)
  repeat' (first | (with_reducible first | refine V.seq ?_ | refine V.block ?_ | refine V.ret ?_ | refine V.skip ?_ | refine V.exit ?_ | refine thenK_normal ?_ | refine thenK_ret ?_ | refine thenK_exit ?_ | refine blockK_normal ?_ | refine blockK_ret ?_ | refine blockK_here ?_ | refine loopK_ret ?_ | refine loopK_exit ?_ | refine Ops.nil ?_ | refine A.blockK_on (h := ?_)) | ((with_reducible first | refine A.drw tabOk ⟨[], [], []⟩ mixed (h := ?_) | refine A.reg tabOk (h := ?_) | refine And.intro (by omega) ?_ | refine A.load tabOk (h := ?_) | refine A.or tabOk (h := ?_) | refine A.and tabOk (h := ?_) | refine A.gopen tabOk (h := ?_) | refine A.gshutP tabOk (h := ?_) | refine A.gshutM tabOk (h := ?_) | refine A.gshutN tabOk (h := ?_) | refine A.pickT tabOk (h := ?_) | refine A.pickF tabOk (h := ?_) | refine A.gstep tabOk (h := ?_) | refine A.gload tabOk (h := ?_) | refine A.store tabOk (h := ?_) | refine A.loadL tabOk (h := ?_) | refine A.loadE tabOk (h := ?_) | refine A.storeL tabOk (h := ?_) | refine A.gloadL tabOk (h := ?_) | refine A.gloadE tabOk (h := ?_) | refine A.convS tabOk (h := ?_)); (conv => whnf)) | (with_reducible first | refine A.condT (hx := ?_) | refine A.condF (hy := ?_)) | fail)
  refine V.loop (G := {k : Nat // k ≤ n ∧ ∀ j, j < k → ks j ≠ m}) (fun g => [(0, true, .slice ao n ac), (1, true, .func (.func 131) #[] #[.pointer (some ⟨c, 0, none⟩)]), (7, true, .int .i64 n), (8, true, .int .i64 g.1)]) (fun _ => C) (fun g => n - g.1) ⟨0, by omega, by omega⟩ (by with_unfolding_all repeat (first | exact trivial | refine And.intro rfl ?_)) (Weak.refl _) ?_
  rintro ⟨k, hkn, hno⟩
  dsimp only
  by_cases hlt : k < n
  · obtain ⟨b1, o1, rfl, r1⟩ := har (by omega)
    obtain ⟨h1, h2, h3⟩ := hk k hlt
    have q1 : RdL W0 C b1 (o1 + k * 2) [.int .i64 (ks k), us k] := fun j u hj => by
      have hj2 : j < 2 := by
        have := (List.getElem?_eq_some_iff.1 hj).1
        simpa using this
      have e : o1 + k * 2 + j = o1 + (2 * k + j) := by omega
      rw [e]
      refine r1 (2 * k + j) u ?_
      rcases j with _ | _ | j
      · simp only [List.getElem?_cons_zero] at hj; rw [← hj]; exact h1
      · simp only [List.getElem?_cons_succ, List.getElem?_cons_zero] at hj; rw [← hj]; exact h2
      · omega
    repeat' (first | (with_reducible first | refine V.seq ?_ | refine V.block ?_ | refine V.ret ?_ | refine V.skip ?_ | refine V.exit ?_ | refine thenK_normal ?_ | refine thenK_ret ?_ | refine thenK_exit ?_ | refine blockK_normal ?_ | refine blockK_ret ?_ | refine blockK_here ?_ | refine loopK_ret ?_ | refine loopK_exit ?_ | refine Ops.nil ?_ | refine A.blockK_on (h := ?_)) | ((with_reducible first | refine A.drw tabOk ⟨[], [], []⟩ mixed (h := ?_) | refine A.reg tabOk (h := ?_) | refine And.intro (by omega) ?_ | refine A.load tabOk (h := ?_) | refine A.or tabOk (h := ?_) | refine A.and tabOk (h := ?_) | refine A.gopen tabOk (h := ?_) | refine A.gshutP tabOk (h := ?_) | refine A.gshutM tabOk (h := ?_) | refine A.gshutN tabOk (h := ?_) | refine A.pickT tabOk (h := ?_) | refine A.pickF tabOk (h := ?_) | refine A.gstep tabOk (h := ?_) | refine A.gload tabOk (h := ?_) | refine A.store tabOk (h := ?_) | refine A.loadL tabOk (h := ?_) | refine A.loadE tabOk (h := ?_) | refine A.storeL tabOk (h := ?_) | refine A.gloadL tabOk (h := ?_) | refine A.gloadE tabOk (h := ?_) | refine A.convS tabOk (h := ?_)); (conv => whnf)) | (with_reducible first | refine A.condT (hx := ?_) | refine A.condF (hy := ?_)) | fail)
    (with_reducible refine A.callVQ tabOk (hs := held1_q _ _ (ks k) m (us k) h3 c hc) (h := ?_)); (conv => whnf)
    repeat' (first | (with_reducible first | refine V.seq ?_ | refine V.block ?_ | refine V.ret ?_ | refine V.skip ?_ | refine V.exit ?_ | refine thenK_normal ?_ | refine thenK_ret ?_ | refine thenK_exit ?_ | refine blockK_normal ?_ | refine blockK_ret ?_ | refine blockK_here ?_ | refine loopK_ret ?_ | refine loopK_exit ?_ | refine Ops.nil ?_ | refine A.blockK_on (h := ?_)) | ((with_reducible first | refine A.drw tabOk ⟨[], [], []⟩ mixed (h := ?_) | refine A.reg tabOk (h := ?_) | refine And.intro (by omega) ?_ | refine A.load tabOk (h := ?_) | refine A.or tabOk (h := ?_) | refine A.and tabOk (h := ?_) | refine A.gopen tabOk (h := ?_) | refine A.gshutP tabOk (h := ?_) | refine A.gshutM tabOk (h := ?_) | refine A.gshutN tabOk (h := ?_) | refine A.pickT tabOk (h := ?_) | refine A.pickF tabOk (h := ?_) | refine A.gstep tabOk (h := ?_) | refine A.gload tabOk (h := ?_) | refine A.store tabOk (h := ?_) | refine A.loadL tabOk (h := ?_) | refine A.loadE tabOk (h := ?_) | refine A.storeL tabOk (h := ?_) | refine A.gloadL tabOk (h := ?_) | refine A.gloadE tabOk (h := ?_) | refine A.convS tabOk (h := ?_)); (conv => whnf)) | (with_reducible first | refine A.condT (hx := ?_) | refine A.condF (hy := ?_)) | fail)
    refine V.cond rfl (fun h => ?_) (fun h => ?_)
    · repeat' (first | (with_reducible first | refine V.seq ?_ | refine V.block ?_ | refine V.ret ?_ | refine V.skip ?_ | refine V.exit ?_ | refine thenK_normal ?_ | refine thenK_ret ?_ | refine thenK_exit ?_ | refine blockK_normal ?_ | refine blockK_ret ?_ | refine blockK_here ?_ | refine loopK_ret ?_ | refine loopK_exit ?_ | refine Ops.nil ?_ | refine A.blockK_on (h := ?_)) | ((with_reducible first | refine A.drw tabOk ⟨[], [], []⟩ mixed (h := ?_) | refine A.reg tabOk (h := ?_) | refine And.intro (by omega) ?_ | refine A.load tabOk (h := ?_) | refine A.or tabOk (h := ?_) | refine A.and tabOk (h := ?_) | refine A.gopen tabOk (h := ?_) | refine A.gshutP tabOk (h := ?_) | refine A.gshutM tabOk (h := ?_) | refine A.gshutN tabOk (h := ?_) | refine A.pickT tabOk (h := ?_) | refine A.pickF tabOk (h := ?_) | refine A.gstep tabOk (h := ?_) | refine A.gload tabOk (h := ?_) | refine A.store tabOk (h := ?_) | refine A.loadL tabOk (h := ?_) | refine A.loadE tabOk (h := ?_) | refine A.storeL tabOk (h := ?_) | refine A.gloadL tabOk (h := ?_) | refine A.gloadE tabOk (h := ?_) | refine A.convS tabOk (h := ?_)); (conv => whnf)) | (with_reducible first | refine A.condT (hx := ?_) | refine A.condF (hy := ?_)) | fail)
      have hm : ks k = m := by simpa using h
      exact retK_ret rfl (Weak.refl _) ⟨rfl, (k : Int), rfl, by omega, ⟨fun _ => ⟨k, hlt, hm⟩, fun _ => by omega⟩⟩
    · repeat' (first | (with_reducible first | refine V.seq ?_ | refine V.block ?_ | refine V.ret ?_ | refine V.skip ?_ | refine V.exit ?_ | refine thenK_normal ?_ | refine thenK_ret ?_ | refine thenK_exit ?_ | refine blockK_normal ?_ | refine blockK_ret ?_ | refine blockK_here ?_ | refine loopK_ret ?_ | refine loopK_exit ?_ | refine Ops.nil ?_ | refine A.blockK_on (h := ?_)) | ((with_reducible first | refine A.drw tabOk ⟨[], [], []⟩ mixed (h := ?_) | refine A.reg tabOk (h := ?_) | refine And.intro (by omega) ?_ | refine A.load tabOk (h := ?_) | refine A.or tabOk (h := ?_) | refine A.and tabOk (h := ?_) | refine A.gopen tabOk (h := ?_) | refine A.gshutP tabOk (h := ?_) | refine A.gshutM tabOk (h := ?_) | refine A.gshutN tabOk (h := ?_) | refine A.pickT tabOk (h := ?_) | refine A.pickF tabOk (h := ?_) | refine A.gstep tabOk (h := ?_) | refine A.gload tabOk (h := ?_) | refine A.store tabOk (h := ?_) | refine A.loadL tabOk (h := ?_) | refine A.loadE tabOk (h := ?_) | refine A.storeL tabOk (h := ?_) | refine A.gloadL tabOk (h := ?_) | refine A.gloadE tabOk (h := ?_) | refine A.convS tabOk (h := ?_)); (conv => whnf)) | (with_reducible first | refine A.condT (hx := ?_) | refine A.condF (hy := ?_)) | fail)
      have hm : ks k ≠ m := by simpa using h
      refine loopK_again ⟨k + 1, by omega, fun j hj => ?_⟩ (by with_unfolding_all repeat (first | exact trivial | refine And.intro rfl ?_)) (Weak.refl _) (by dsimp only; omega)
      by_cases hjk : j = k
      · subst hjk; exact hm
      · exact hno j (by omega)
  · repeat' (first | (with_reducible first | refine V.seq ?_ | refine V.block ?_ | refine V.ret ?_ | refine V.skip ?_ | refine V.exit ?_ | refine thenK_normal ?_ | refine thenK_ret ?_ | refine thenK_exit ?_ | refine blockK_normal ?_ | refine blockK_ret ?_ | refine blockK_here ?_ | refine loopK_ret ?_ | refine loopK_exit ?_ | refine Ops.nil ?_ | refine A.blockK_on (h := ?_)) | ((with_reducible first | refine A.drw tabOk ⟨[], [], []⟩ mixed (h := ?_) | refine A.reg tabOk (h := ?_) | refine And.intro (by omega) ?_ | refine A.load tabOk (h := ?_) | refine A.or tabOk (h := ?_) | refine A.and tabOk (h := ?_) | refine A.gopen tabOk (h := ?_) | refine A.gshutP tabOk (h := ?_) | refine A.gshutM tabOk (h := ?_) | refine A.gshutN tabOk (h := ?_) | refine A.pickT tabOk (h := ?_) | refine A.pickF tabOk (h := ?_) | refine A.gstep tabOk (h := ?_) | refine A.gload tabOk (h := ?_) | refine A.store tabOk (h := ?_) | refine A.loadL tabOk (h := ?_) | refine A.loadE tabOk (h := ?_) | refine A.storeL tabOk (h := ?_) | refine A.gloadL tabOk (h := ?_) | refine A.gloadE tabOk (h := ?_) | refine A.convS tabOk (h := ?_)); (conv => whnf)) | (with_reducible first | refine A.condT (hx := ?_) | refine A.condF (hy := ?_)) | fail)
    have hkn' : k = n := by omega
    subst hkn'
    exact retK_ret rfl (Weak.refl _) ⟨rfl, -1, rfl, by omega, ⟨fun h => by omega, fun ⟨i, hi, he⟩ => absurd he (hno i hi)⟩⟩
open Classical in
theorem contains_q (W0 : World) (C : Heap) (s : Value) (n : Nat) (xs : List Value) (ks : Nat → Int) (us : Nat → Value) (m : Int) (c : Nat) (b : Bool) (hs : RdS W0 C 2 s n xs) (hk : ∀ i, i < n → xs[2 * i]? = some (.int .i64 (ks i)) ∧ xs[2 * i + 1]? = some (us i) ∧ (us i).oneCell' = true) (hc : Rd W0 C ⟨c, 0, none⟩ (.int .i64 m)) (hn : n ≤ 1000000)
    (hb : b = true ↔ ∃ i, i < n ∧ ks i = m) : Gives W0 Tryz.prog 128 #[s, .func (.func 131) #[] #[.pointer (some ⟨c, 0, none⟩)]] C (.bool b) := Gives.of fun X => by
  refine Does.go Tryz.func128 rfl Tryz.results128 Tryz.ntmps128 rfl rfl ?_; (conv => whnf)
  repeat' (first | (with_reducible first | refine V.seq ?_ | refine V.block ?_ | refine V.ret ?_ | refine V.skip ?_ | refine V.exit ?_ | refine thenK_normal ?_ | refine thenK_ret ?_ | refine thenK_exit ?_ | refine blockK_normal ?_ | refine blockK_ret ?_ | refine blockK_here ?_ | refine loopK_ret ?_ | refine loopK_exit ?_ | refine Ops.nil ?_ | refine A.blockK_on (h := ?_)) | ((with_reducible first | refine A.drw tabOk ⟨[], [], []⟩ mixed (h := ?_) | refine A.reg tabOk (h := ?_) | refine And.intro (by omega) ?_ | refine A.load tabOk (h := ?_) | refine A.or tabOk (h := ?_) | refine A.and tabOk (h := ?_) | refine A.gopen tabOk (h := ?_) | refine A.gshutP tabOk (h := ?_) | refine A.gshutM tabOk (h := ?_) | refine A.gshutN tabOk (h := ?_) | refine A.pickT tabOk (h := ?_) | refine A.pickF tabOk (h := ?_) | refine A.gstep tabOk (h := ?_) | refine A.gload tabOk (h := ?_) | refine A.store tabOk (h := ?_) | refine A.loadL tabOk (h := ?_) | refine A.loadE tabOk (h := ?_) | refine A.storeL tabOk (h := ?_) | refine A.gloadL tabOk (h := ?_) | refine A.gloadE tabOk (h := ?_) | refine A.convS tabOk (h := ?_)); (conv => whnf)) | (with_reducible first | refine A.condT (hx := ?_) | refine A.condF (hy := ?_)) | fail)
  (with_reducible refine A.call tabOk (hs := index_s _ _ s n xs ks us m c (hs.mono (Weak.skip X C)) hk (hc.mono (Weak.skip X C)) hn ) (h := ?_)); rintro _ _ ⟨rfl, r, rfl, hr, hi⟩; refine ⟨(by with_unfolding_all first | exact Weak.refl _ | exact Weak.all _ | (repeat (first | exact Weak.refl _ | exact Weak.all _ | refine A.wpick (k := ?_) | apply Weak.drop))), ?_⟩; (conv => whnf)
  repeat' (first | (with_reducible first | refine V.seq ?_ | refine V.block ?_ | refine V.ret ?_ | refine V.skip ?_ | refine V.exit ?_ | refine thenK_normal ?_ | refine thenK_ret ?_ | refine thenK_exit ?_ | refine blockK_normal ?_ | refine blockK_ret ?_ | refine blockK_here ?_ | refine loopK_ret ?_ | refine loopK_exit ?_ | refine Ops.nil ?_ | refine A.blockK_on (h := ?_)) | ((with_reducible first | refine A.drw tabOk ⟨[], [], []⟩ mixed (h := ?_) | refine A.reg tabOk (h := ?_) | refine And.intro (by omega) ?_ | refine A.load tabOk (h := ?_) | refine A.or tabOk (h := ?_) | refine A.and tabOk (h := ?_) | refine A.gopen tabOk (h := ?_) | refine A.gshutP tabOk (h := ?_) | refine A.gshutM tabOk (h := ?_) | refine A.gshutN tabOk (h := ?_) | refine A.pickT tabOk (h := ?_) | refine A.pickF tabOk (h := ?_) | refine A.gstep tabOk (h := ?_) | refine A.gload tabOk (h := ?_) | refine A.store tabOk (h := ?_) | refine A.loadL tabOk (h := ?_) | refine A.loadE tabOk (h := ?_) | refine A.storeL tabOk (h := ?_) | refine A.gloadL tabOk (h := ?_) | refine A.gloadE tabOk (h := ?_) | refine A.convS tabOk (h := ?_)); (conv => whnf)) | (with_reducible first | refine A.condT (hx := ?_) | refine A.condF (hy := ?_)) | fail)
  refine retK_ret rfl (by first | exact Weak.refl _ | exact Weak.all _ | (repeat (first | exact Weak.refl _ | exact Weak.all _ | refine A.wpick (k := ?_) | apply Weak.drop))) ⟨?_, rfl⟩
  simp only [tup]
  congr 1
  rw [Bool.eq_iff_iff, decide_eq_true_iff, hb]
  exact hi
end Go.Proofs.YtfmjehkohlbebaaGreatDoor
namespace Go.Proofs.YtfmjehkohlbebaaGreatDoor
open Eng
set_option maxRecDepth 100000
set_option maxHeartbeats 4000000
set_option linter.unusedVariables false
def RowHas (W0 : World) (C : Heap) (m : Int) (v : Value) (b : Bool) : Prop :=
  ∃ n xs, ∃ ks : Nat → Int, ∃ us : Nat → Value, RdS W0 C 2 v n xs ∧ (∀ i, i < n → xs[2 * i]? = some (.int .i64 (ks i)) ∧ xs[2 * i + 1]? = some (us i) ∧ (us i).oneCell' = true) ∧ n ≤ 1000000 ∧ (b = true ↔ ∃ i, i < n ∧ ks i = m)
theorem RowHas.q {W0 : World} {C C' : Heap} {m : Int} {v : Value} {b : Bool} (h : RowHas W0 C m v b) (k : Weak C' C) {c : Nat} (hc : Rd W0 C' ⟨c, 0, none⟩ (.int .i64 m)) : Gives W0 Tryz.prog 128 #[v, .func (.func 131) #[] #[.pointer (some ⟨c, 0, none⟩)]] C' (.bool b) := by
  obtain ⟨n, xs, ks, us, h1, h2, h3, h4⟩ := h
  exact contains_q W0 C' v n xs ks us m c b (h1.mono k) h2 hc h3 h4
theorem filter_lt {seen : List Nat} : ∀ (E : List Ent) (p : Ent), p ∈ E → p.2.2 ∉ seen → (E.filter fun q => !(seen ++ [p.2.2]).contains q.2.2).length < (E.filter fun q => !seen.contains q.2.2).length
  | [], p, hp, _ => by cases hp
  | q :: E, p, hp, hn => by
    have le : ∀ E : List Ent, (E.filter fun q => !(seen ++ [p.2.2]).contains q.2.2).length ≤ (E.filter fun q => !seen.contains q.2.2).length := by
      intro E
      induction E with
      | nil => simp
      | cons q E ih =>
        simp only [List.filter_cons]
        by_cases h1 : q.2.2 ∈ seen
        · have a1 : seen.contains q.2.2 = true := by simpa using h1
          have a2 : (seen ++ [p.2.2]).contains q.2.2 = true := by simp [h1]
          simp only [a1, a2, Bool.not_true, Bool.false_eq_true, if_false]; exact ih
        · have a1 : seen.contains q.2.2 = false := by simpa using h1
          simp only [a1, Bool.not_false, if_true, List.length_cons]
          split
          · simp only [List.length_cons]; omega
          · omega
    simp only [List.filter_cons]
    rcases List.mem_cons.1 hp with rfl | hp
    · have a1 : seen.contains p.2.2 = false := by simpa using hn
      have a2 : (seen ++ [p.2.2]).contains p.2.2 = true := by simp
      simp only [a1, a2, Bool.not_true, Bool.not_false, Bool.false_eq_true, if_false, if_true, List.length_cons]
      have := le E
      omega
    · have ih := filter_lt (seen := seen) E p hp hn
      by_cases h1 : q.2.2 ∈ seen
      · have a1 : seen.contains q.2.2 = true := by simpa using h1
        have a2 : (seen ++ [p.2.2]).contains q.2.2 = true := by simp [h1]
        simp only [a1, a2, Bool.not_true, Bool.false_eq_true, if_false]; exact ih
      · have a1 : seen.contains q.2.2 = false := by simpa using h1
        simp only [a1, Bool.not_false, if_true, List.length_cons]
        split
        · simp only [List.length_cons]; omega
        · omega
theorem owner_s (W0 : World) (C : Heap) (l o h : Nat) (E : List Ent) (clock : Nat) (m : Int) (B : Ent → Bool) (hl : Rd W0 C ⟨l, 1, none⟩ (.map (some h))) (hh : At W0 C h (mapO E clock)) (hB : ∀ p ∈ E, RowHas W0 C m p.2.1 (B p)) (hnd : (E.map (·.2.2)).Nodup) (hc : ∀ p ∈ E, p.2.2 < clock) :
    Does W0 Tryz.prog 73 #[.pointer (some ⟨l, 0, none⟩), .int .i64 m] C (fun v C' => (∃ c1 c2, C' = c1 :: c2 :: C) ∧ ((∃ p ∈ E, B p = true ∧ v = .int .i64 p.1) ∨ ((∀ p ∈ E, B p = false) ∧ v = .int .i64 (-1)))) := by
  refine Does.go Tryz.func73 rfl Tryz.results73 Tryz.ntmps73 rfl rfl ?_; (conv => whnf)
  repeat' (first | (with_reducible first | refine V.seq ?_ | refine V.block ?_ | refine V.ret ?_ | refine V.skip ?_ | refine V.exit ?_ | refine thenK_normal ?_ | refine thenK_ret ?_ | refine thenK_exit ?_ | refine blockK_normal ?_ | refine blockK_ret ?_ | refine blockK_here ?_ | refine loopK_ret ?_ | refine loopK_exit ?_ | refine Ops.nil ?_ | refine A.blockK_on (h := ?_)) | ((with_reducible first | refine A.drw tabOk ⟨[], [], []⟩ mixed (h := ?_) | refine A.reg tabOk (h := ?_) | refine And.intro (by omega) ?_ | refine A.load tabOk (h := ?_) | refine A.or tabOk (h := ?_) | refine A.and tabOk (h := ?_) | refine A.gopen tabOk (h := ?_) | refine A.gshutP tabOk (h := ?_) | refine A.gshutM tabOk (h := ?_) | refine A.gshutN tabOk (h := ?_) | refine A.pickT tabOk (h := ?_) | refine A.pickF tabOk (h := ?_) | refine A.gstep tabOk (h := ?_) | refine A.gload tabOk (h := ?_) | refine A.store tabOk (h := ?_) | refine A.loadL tabOk (h := ?_) | refine A.loadE tabOk (h := ?_) | refine A.storeL tabOk (h := ?_) | refine A.gloadL tabOk (h := ?_) | refine A.gloadE tabOk (h := ?_) | refine A.convS tabOk (h := ?_)); (conv => whnf)) | (with_reducible first | refine A.condT (hx := ?_) | refine A.condF (hy := ?_)) | fail)
  (first | with_reducible refine A.boxN tabOk (h := ?_) | with_reducible refine A.box tabOk (h := ?_)); intro b; (conv => whnf)
  have hl1 := hl.mono (Weak.skip [(b, Obj.cells #[Value.int .i64 m] 3)] C)
  have hh1 : At W0 ([(b, Obj.cells #[Value.int .i64 m] 3)] :: C) h (mapO E clock) := fun w hs => hh w (hs.weak (Weak.skip _ _))
  repeat' (first | (with_reducible first | refine V.seq ?_ | refine V.block ?_ | refine V.ret ?_ | refine V.skip ?_ | refine V.exit ?_ | refine thenK_normal ?_ | refine thenK_ret ?_ | refine thenK_exit ?_ | refine blockK_normal ?_ | refine blockK_ret ?_ | refine blockK_here ?_ | refine loopK_ret ?_ | refine loopK_exit ?_ | refine Ops.nil ?_ | refine A.blockK_on (h := ?_)) | ((with_reducible first | refine A.drw tabOk ⟨[], [], []⟩ mixed (h := ?_) | refine A.reg tabOk (h := ?_) | refine And.intro (by omega) ?_ | refine A.load tabOk (h := ?_) | refine A.or tabOk (h := ?_) | refine A.and tabOk (h := ?_) | refine A.gopen tabOk (h := ?_) | refine A.gshutP tabOk (h := ?_) | refine A.gshutM tabOk (h := ?_) | refine A.gshutN tabOk (h := ?_) | refine A.pickT tabOk (h := ?_) | refine A.pickF tabOk (h := ?_) | refine A.gstep tabOk (h := ?_) | refine A.gload tabOk (h := ?_) | refine A.store tabOk (h := ?_) | refine A.loadL tabOk (h := ?_) | refine A.loadE tabOk (h := ?_) | refine A.storeL tabOk (h := ?_) | refine A.gloadL tabOk (h := ?_) | refine A.gloadE tabOk (h := ?_) | refine A.convS tabOk (h := ?_)); (conv => whnf)) | (with_reducible first | refine A.condT (hx := ?_) | refine A.condF (hy := ?_)) | fail)
  refine Ops.range tabOk rfl rfl rfl hh1 (fun r => ⟨by first | exact Weak.refl _ | exact Weak.all _ | (repeat (first | exact Weak.refl _ | exact Weak.all _ | refine A.wpick (k := ?_) | apply Weak.drop)), ?_⟩); (conv => whnf)
  repeat' (first | (with_reducible first | refine V.seq ?_ | refine V.block ?_ | refine V.ret ?_ | refine V.skip ?_ | refine V.exit ?_ | refine thenK_normal ?_ | refine thenK_ret ?_ | refine thenK_exit ?_ | refine blockK_normal ?_ | refine blockK_ret ?_ | refine blockK_here ?_ | refine loopK_ret ?_ | refine loopK_exit ?_ | refine Ops.nil ?_ | refine A.blockK_on (h := ?_)) | ((with_reducible first | refine A.drw tabOk ⟨[], [], []⟩ mixed (h := ?_) | refine A.reg tabOk (h := ?_) | refine And.intro (by omega) ?_ | refine A.load tabOk (h := ?_) | refine A.or tabOk (h := ?_) | refine A.and tabOk (h := ?_) | refine A.gopen tabOk (h := ?_) | refine A.gshutP tabOk (h := ?_) | refine A.gshutM tabOk (h := ?_) | refine A.gshutN tabOk (h := ?_) | refine A.pickT tabOk (h := ?_) | refine A.pickF tabOk (h := ?_) | refine A.gstep tabOk (h := ?_) | refine A.gload tabOk (h := ?_) | refine A.store tabOk (h := ?_) | refine A.loadL tabOk (h := ?_) | refine A.loadE tabOk (h := ?_) | refine A.storeL tabOk (h := ?_) | refine A.gloadL tabOk (h := ?_) | refine A.gloadE tabOk (h := ?_) | refine A.convS tabOk (h := ?_)); (conv => whnf)) | (with_reducible first | refine A.condT (hx := ?_) | refine A.condF (hy := ?_)) | fail)
  refine V.loop (G := {s : List Nat // ∀ p ∈ E, p.2.2 ∈ s → B p = false}) (fun g => [(3, true, .pointer (some ⟨b, 0, none⟩)), (13, true, .pointer (some ⟨r, 0, none⟩))]) (fun g => itC r h clock g.1 clock :: [(b, Obj.cells #[Value.int .i64 m] 3)] :: C) (fun g => (E.filter fun q => !g.1.contains q.2.2).length) ⟨[], by simp⟩ (by with_unfolding_all repeat (first | exact trivial | refine And.intro rfl ?_)) (Weak.refl _) ?_
  rintro ⟨s, hs⟩
  dsimp only
  repeat' (first | (with_reducible first | refine V.seq ?_ | refine V.block ?_ | refine V.ret ?_ | refine V.skip ?_ | refine V.exit ?_ | refine thenK_normal ?_ | refine thenK_ret ?_ | refine thenK_exit ?_ | refine blockK_normal ?_ | refine blockK_ret ?_ | refine blockK_here ?_ | refine loopK_ret ?_ | refine loopK_exit ?_ | refine Ops.nil ?_ | refine A.blockK_on (h := ?_)) | ((with_reducible first | refine A.drw tabOk ⟨[], [], []⟩ mixed (h := ?_) | refine A.reg tabOk (h := ?_) | refine And.intro (by omega) ?_ | refine A.load tabOk (h := ?_) | refine A.or tabOk (h := ?_) | refine A.and tabOk (h := ?_) | refine A.gopen tabOk (h := ?_) | refine A.gshutP tabOk (h := ?_) | refine A.gshutM tabOk (h := ?_) | refine A.gshutN tabOk (h := ?_) | refine A.pickT tabOk (h := ?_) | refine A.pickF tabOk (h := ?_) | refine A.gstep tabOk (h := ?_) | refine A.gload tabOk (h := ?_) | refine A.store tabOk (h := ?_) | refine A.loadL tabOk (h := ?_) | refine A.loadE tabOk (h := ?_) | refine A.storeL tabOk (h := ?_) | refine A.gloadL tabOk (h := ?_) | refine A.gloadE tabOk (h := ?_) | refine A.convS tabOk (h := ?_)); (conv => whnf)) | (with_reducible first | refine A.condT (hx := ?_) | refine A.condF (hy := ?_)) | fail)
  refine Ops.next tabOk rfl rfl (Weak.refl _) hh1 hc (Nat.le_refl _) (fun hall => ⟨by first | exact Weak.refl _ | exact Weak.all _ | (repeat (first | exact Weak.refl _ | exact Weak.all _ | refine A.wpick (k := ?_) | apply Weak.drop)), ?_⟩) (fun p hp hps => ⟨by first | exact Weak.refl _ | exact Weak.all _ | (repeat (first | exact Weak.refl _ | exact Weak.all _ | refine A.wpick (k := ?_) | apply Weak.drop)), ?_⟩)
  · (conv => whnf)
    repeat' (first | (with_reducible first | refine V.seq ?_ | refine V.block ?_ | refine V.ret ?_ | refine V.skip ?_ | refine V.exit ?_ | refine thenK_normal ?_ | refine thenK_ret ?_ | refine thenK_exit ?_ | refine blockK_normal ?_ | refine blockK_ret ?_ | refine blockK_here ?_ | refine loopK_ret ?_ | refine loopK_exit ?_ | refine Ops.nil ?_ | refine A.blockK_on (h := ?_)) | ((with_reducible first | refine A.drw tabOk ⟨[], [], []⟩ mixed (h := ?_) | refine A.reg tabOk (h := ?_) | refine And.intro (by omega) ?_ | refine A.load tabOk (h := ?_) | refine A.or tabOk (h := ?_) | refine A.and tabOk (h := ?_) | refine A.gopen tabOk (h := ?_) | refine A.gshutP tabOk (h := ?_) | refine A.gshutM tabOk (h := ?_) | refine A.gshutN tabOk (h := ?_) | refine A.pickT tabOk (h := ?_) | refine A.pickF tabOk (h := ?_) | refine A.gstep tabOk (h := ?_) | refine A.gload tabOk (h := ?_) | refine A.store tabOk (h := ?_) | refine A.loadL tabOk (h := ?_) | refine A.loadE tabOk (h := ?_) | refine A.storeL tabOk (h := ?_) | refine A.gloadL tabOk (h := ?_) | refine A.gloadE tabOk (h := ?_) | refine A.convS tabOk (h := ?_)); (conv => whnf)) | (with_reducible first | refine A.condT (hx := ?_) | refine A.condF (hy := ?_)) | fail)
    refine retK_ret rfl (Weak.refl _) ⟨⟨_, _, rfl⟩, .inr ⟨fun p hp => hs p hp (hall p hp), rfl⟩⟩
  · (conv => whnf)
    repeat' (first | (with_reducible first | refine V.seq ?_ | refine V.block ?_ | refine V.ret ?_ | refine V.skip ?_ | refine V.exit ?_ | refine thenK_normal ?_ | refine thenK_ret ?_ | refine thenK_exit ?_ | refine blockK_normal ?_ | refine blockK_ret ?_ | refine blockK_here ?_ | refine loopK_ret ?_ | refine loopK_exit ?_ | refine Ops.nil ?_ | refine A.blockK_on (h := ?_)) | ((with_reducible first | refine A.drw tabOk ⟨[], [], []⟩ mixed (h := ?_) | refine A.reg tabOk (h := ?_) | refine And.intro (by omega) ?_ | refine A.load tabOk (h := ?_) | refine A.or tabOk (h := ?_) | refine A.and tabOk (h := ?_) | refine A.gopen tabOk (h := ?_) | refine A.gshutP tabOk (h := ?_) | refine A.gshutM tabOk (h := ?_) | refine A.gshutN tabOk (h := ?_) | refine A.pickT tabOk (h := ?_) | refine A.pickF tabOk (h := ?_) | refine A.gstep tabOk (h := ?_) | refine A.gload tabOk (h := ?_) | refine A.store tabOk (h := ?_) | refine A.loadL tabOk (h := ?_) | refine A.loadE tabOk (h := ?_) | refine A.storeL tabOk (h := ?_) | refine A.gloadL tabOk (h := ?_) | refine A.gloadE tabOk (h := ?_) | refine A.convS tabOk (h := ?_)); (conv => whnf)) | (with_reducible first | refine A.condT (hx := ?_) | refine A.condF (hy := ?_)) | fail)
    refine Ops.entry (q := p) tabOk rfl rfl At.here (fun w hs => hh1 w (hs.weak (Weak.skip _ _))) hp hnd ⟨by first | exact Weak.refl _ | exact Weak.all _ | (repeat (first | exact Weak.refl _ | exact Weak.all _ | refine A.wpick (k := ?_) | apply Weak.drop)), ?_⟩; (conv => whnf)
    repeat' (first | (with_reducible first | refine V.seq ?_ | refine V.block ?_ | refine V.ret ?_ | refine V.skip ?_ | refine V.exit ?_ | refine thenK_normal ?_ | refine thenK_ret ?_ | refine thenK_exit ?_ | refine blockK_normal ?_ | refine blockK_ret ?_ | refine blockK_here ?_ | refine loopK_ret ?_ | refine loopK_exit ?_ | refine Ops.nil ?_ | refine A.blockK_on (h := ?_)) | ((with_reducible first | refine A.drw tabOk ⟨[], [], []⟩ mixed (h := ?_) | refine A.reg tabOk (h := ?_) | refine And.intro (by omega) ?_ | refine A.load tabOk (h := ?_) | refine A.or tabOk (h := ?_) | refine A.and tabOk (h := ?_) | refine A.gopen tabOk (h := ?_) | refine A.gshutP tabOk (h := ?_) | refine A.gshutM tabOk (h := ?_) | refine A.gshutN tabOk (h := ?_) | refine A.pickT tabOk (h := ?_) | refine A.pickF tabOk (h := ?_) | refine A.gstep tabOk (h := ?_) | refine A.gload tabOk (h := ?_) | refine A.store tabOk (h := ?_) | refine A.loadL tabOk (h := ?_) | refine A.loadE tabOk (h := ?_) | refine A.storeL tabOk (h := ?_) | refine A.gloadL tabOk (h := ?_) | refine A.gloadE tabOk (h := ?_) | refine A.convS tabOk (h := ?_)); (conv => whnf)) | (with_reducible first | refine A.condT (hx := ?_) | refine A.condF (hy := ?_)) | fail)
    have hrow := (hB p hp).q (C' := itC r h clock (s ++ [p.2.2]) clock :: [(b, Obj.cells #[Value.int .i64 m] 3)] :: C) (c := b) ((Weak.skip _ _).trans (Weak.skip _ _)) (by with_unfolding_all first | exact (Rd.here rfl) | exact (Rd.skip (Rd.here rfl)) | exact (Rd.skip (Rd.skip (Rd.here rfl))) | exact (Rd.skip (Rd.skip (Rd.skip (Rd.here rfl)))) | exact (Rd.skip (Rd.skip (Rd.skip (Rd.skip (Rd.here rfl))))) | exact (Rd.skip (Rd.skip (Rd.skip (Rd.skip (Rd.skip (Rd.here rfl)))))) | exact (Rd.skip (Rd.skip (Rd.skip (Rd.skip (Rd.skip (Rd.skip (Rd.here rfl))))))) | exact (Rd.skip (Rd.skip (Rd.skip (Rd.skip (Rd.skip (Rd.skip (Rd.skip (Rd.here rfl)))))))) | exact (Rd.skip (Rd.skip (Rd.skip (Rd.skip (Rd.skip (Rd.skip (Rd.skip (Rd.skip (Rd.here rfl))))))))) | exact (Rd.skip (Rd.skip (Rd.skip (Rd.skip (Rd.skip (Rd.skip (Rd.skip (Rd.skip (Rd.skip (Rd.here rfl)))))))))) | exact (Rd.skip (Rd.skip (Rd.skip (Rd.skip (Rd.skip (Rd.skip (Rd.skip (Rd.skip (Rd.skip (Rd.skip (Rd.here rfl))))))))))) | exact (Rd.skip (Rd.skip (Rd.skip (Rd.skip (Rd.skip (Rd.skip (Rd.skip (Rd.skip (Rd.skip (Rd.skip (Rd.skip (Rd.here rfl)))))))))))) | exact (Rd.skip (Rd.skip (Rd.skip (Rd.skip (Rd.skip (Rd.skip (Rd.skip (Rd.skip (Rd.skip (Rd.skip (Rd.skip (Rd.skip (Rd.here rfl))))))))))))) | exact (Rd.skip (Rd.skip (Rd.skip (Rd.skip (Rd.skip (Rd.skip (Rd.skip (Rd.skip (Rd.skip (Rd.skip (Rd.skip (Rd.skip (Rd.skip (Rd.here rfl)))))))))))))) | assumption | exact Rd.mono (by assumption) (Weak.all _))
    (with_reducible refine A.callQ tabOk (hs := hrow) (h := ?_)); (conv => whnf)
    repeat' (first | (with_reducible first | refine V.seq ?_ | refine V.block ?_ | refine V.ret ?_ | refine V.skip ?_ | refine V.exit ?_ | refine thenK_normal ?_ | refine thenK_ret ?_ | refine thenK_exit ?_ | refine blockK_normal ?_ | refine blockK_ret ?_ | refine blockK_here ?_ | refine loopK_ret ?_ | refine loopK_exit ?_ | refine Ops.nil ?_ | refine A.blockK_on (h := ?_)) | ((with_reducible first | refine A.drw tabOk ⟨[], [], []⟩ mixed (h := ?_) | refine A.reg tabOk (h := ?_) | refine And.intro (by omega) ?_ | refine A.load tabOk (h := ?_) | refine A.or tabOk (h := ?_) | refine A.and tabOk (h := ?_) | refine A.gopen tabOk (h := ?_) | refine A.gshutP tabOk (h := ?_) | refine A.gshutM tabOk (h := ?_) | refine A.gshutN tabOk (h := ?_) | refine A.pickT tabOk (h := ?_) | refine A.pickF tabOk (h := ?_) | refine A.gstep tabOk (h := ?_) | refine A.gload tabOk (h := ?_) | refine A.store tabOk (h := ?_) | refine A.loadL tabOk (h := ?_) | refine A.loadE tabOk (h := ?_) | refine A.storeL tabOk (h := ?_) | refine A.gloadL tabOk (h := ?_) | refine A.gloadE tabOk (h := ?_) | refine A.convS tabOk (h := ?_)); (conv => whnf)) | (with_reducible first | refine A.condT (hx := ?_) | refine A.condF (hy := ?_)) | fail)
    refine V.cond rfl (fun hb => ?_) (fun hb => ?_)
    · repeat' (first | (with_reducible first | refine V.seq ?_ | refine V.block ?_ | refine V.ret ?_ | refine V.skip ?_ | refine V.exit ?_ | refine thenK_normal ?_ | refine thenK_ret ?_ | refine thenK_exit ?_ | refine blockK_normal ?_ | refine blockK_ret ?_ | refine blockK_here ?_ | refine loopK_ret ?_ | refine loopK_exit ?_ | refine Ops.nil ?_ | refine A.blockK_on (h := ?_)) | ((with_reducible first | refine A.drw tabOk ⟨[], [], []⟩ mixed (h := ?_) | refine A.reg tabOk (h := ?_) | refine And.intro (by omega) ?_ | refine A.load tabOk (h := ?_) | refine A.or tabOk (h := ?_) | refine A.and tabOk (h := ?_) | refine A.gopen tabOk (h := ?_) | refine A.gshutP tabOk (h := ?_) | refine A.gshutM tabOk (h := ?_) | refine A.gshutN tabOk (h := ?_) | refine A.pickT tabOk (h := ?_) | refine A.pickF tabOk (h := ?_) | refine A.gstep tabOk (h := ?_) | refine A.gload tabOk (h := ?_) | refine A.store tabOk (h := ?_) | refine A.loadL tabOk (h := ?_) | refine A.loadE tabOk (h := ?_) | refine A.storeL tabOk (h := ?_) | refine A.gloadL tabOk (h := ?_) | refine A.gloadE tabOk (h := ?_) | refine A.convS tabOk (h := ?_)); (conv => whnf)) | (with_reducible first | refine A.condT (hx := ?_) | refine A.condF (hy := ?_)) | fail)
      exact retK_ret rfl (Weak.refl _) ⟨⟨_, _, rfl⟩, .inl ⟨p, hp, hb, rfl⟩⟩
    · repeat' (first | (with_reducible first | refine V.seq ?_ | refine V.block ?_ | refine V.ret ?_ | refine V.skip ?_ | refine V.exit ?_ | refine thenK_normal ?_ | refine thenK_ret ?_ | refine thenK_exit ?_ | refine blockK_normal ?_ | refine blockK_ret ?_ | refine blockK_here ?_ | refine loopK_ret ?_ | refine loopK_exit ?_ | refine Ops.nil ?_ | refine A.blockK_on (h := ?_)) | ((with_reducible first | refine A.drw tabOk ⟨[], [], []⟩ mixed (h := ?_) | refine A.reg tabOk (h := ?_) | refine And.intro (by omega) ?_ | refine A.load tabOk (h := ?_) | refine A.or tabOk (h := ?_) | refine A.and tabOk (h := ?_) | refine A.gopen tabOk (h := ?_) | refine A.gshutP tabOk (h := ?_) | refine A.gshutM tabOk (h := ?_) | refine A.gshutN tabOk (h := ?_) | refine A.pickT tabOk (h := ?_) | refine A.pickF tabOk (h := ?_) | refine A.gstep tabOk (h := ?_) | refine A.gload tabOk (h := ?_) | refine A.store tabOk (h := ?_) | refine A.loadL tabOk (h := ?_) | refine A.loadE tabOk (h := ?_) | refine A.storeL tabOk (h := ?_) | refine A.gloadL tabOk (h := ?_) | refine A.gloadE tabOk (h := ?_) | refine A.convS tabOk (h := ?_)); (conv => whnf)) | (with_reducible first | refine A.condT (hx := ?_) | refine A.condF (hy := ?_)) | fail)
      refine loopK_again ⟨s ++ [p.2.2], fun q hq hqs => ?_⟩ (by with_unfolding_all repeat (first | exact trivial | refine And.intro rfl ?_)) (Weak.refl _) (by dsimp only; exact filter_lt E p hp hps)
      rcases List.mem_append.1 hqs with hqs | hqs
      · exact hs q hq hqs
      · have := List.mem_singleton.1 hqs
        have : q = p := by
          have inj : ∀ {E : List Ent}, (E.map (·.2.2)).Nodup → q ∈ E → p ∈ E → q = p := by
            intro E
            induction E with
            | nil => intro _ h; cases h
            | cons z E ih =>
              intro hn h1 h2
              obtain ⟨hz, hn⟩ := List.nodup_cons.1 (by simpa using hn : (z.2.2 :: E.map (·.2.2)).Nodup)
              rcases List.mem_cons.1 h1 with g1 | g1
              · rcases List.mem_cons.1 h2 with g2 | g2
                · rw [g1, g2]
                · rw [← g1] at hz; exact absurd (List.mem_map.2 ⟨p, g2, this.symm⟩) hz
              · rcases List.mem_cons.1 h2 with g2 | g2
                · rw [← g2] at hz; exact absurd (List.mem_map.2 ⟨q, g1, this⟩) hz
                · exact ih hn g1 g2
          exact inj hnd hq hp
        subst this
        exact hb
end Go.Proofs.YtfmjehkohlbebaaGreatDoor
set_option linter.unusedVariables false
namespace Den
open Go Eng
theorem pairsB_ok {ρ : Rho} {m : Int} : ∀ {l : List VV} {b : Bool}, pairsB m l = some b → ∀ {us : List Value}, Rls ρ l us → us.all (·.oneCell') = true →
    ∃ n, us.length = 2 * n ∧ ∃ ks : Nat → Int, ∃ ws : Nat → Value, (∀ i, i < n → us[2 * i]? = some (.int .i64 (ks i)) ∧ us[2 * i + 1]? = some (ws i) ∧ (ws i).oneCell' = true) ∧ (b = true ↔ ∃ i, i < n ∧ ks i = m)
  | [], b, h, us, hu, _ => by
    cases h
    cases hu
    exact ⟨0, rfl, fun _ => 0, fun _ => undef, fun i hi => by omega, ⟨fun h => (by cases h), fun ⟨i, hi, _⟩ => absurd hi (Nat.not_lt_zero i)⟩⟩
  | [x], b, h, us, hu, _ => by cases x <;> cases h
  | x :: y :: r, b, h, us, hu, ho => by
    cases x with
    | i x =>
      unfold pairsB at h
      split at h
      · rename_i b0 hb
        cases h
        obtain ⟨u, us1, rfl, h1, hu1⟩ := hu
        obtain ⟨u2, us2, rfl, h2, hu2⟩ := hu1
        have h1 : u = .int .i64 x := h1
        subst h1
        simp only [List.all_cons, Bool.and_eq_true] at ho
        obtain ⟨n, hn, ks, ws, h3, h4⟩ := pairsB_ok hb hu2 ho.2.2
        refine ⟨n + 1, by simp only [List.length_cons, hn]; omega, fun i => match i with | 0 => x | i + 1 => ks i, fun i => match i with | 0 => u2 | i + 1 => ws i, fun i hi => ?_, ?_⟩
        · cases i with
          | zero => exact ⟨rfl, rfl, ho.2.1⟩
          | succ i =>
            obtain ⟨g1, g2, g3⟩ := h3 i (by omega)
            refine ⟨?_, ?_, g3⟩
            · rw [show 2 * (i + 1) = 2 * i + 1 + 1 by omega]; simpa using g1
            · rw [show 2 * (i + 1) + 1 = 2 * i + 1 + 1 + 1 by omega]; simpa using g2
        · rw [Bool.or_eq_true, decide_eq_true_eq, h4]
          constructor
          · rintro (h | ⟨i, hi, he⟩)
            · exact ⟨0, by omega, h⟩
            · exact ⟨i + 1, by omega, he⟩
          · rintro ⟨i, hi, he⟩
            cases i with
            | zero => exact .inl he
            | succ i => exact .inr ⟨i, by omega, he⟩
      · cases h
    | _ => cases h
theorem rowB_ok {W0 : World} {ρ : Rho} {M : Mem} {nx : P} {C : Heap} (hM : MR W0 ρ M nx C) {m : Int} {v : VV} {b : Bool} (h : rowB M m v = some b) {u : Value} (hu : Rl ρ v u) : Go.Proofs.YtfmjehkohlbebaaGreatDoor.RowHas W0 C m u b := by
  unfold rowB at h
  split at h
  · cases h
    have hu : u = .slice none 0 0 := hu
    subst hu
    exact ⟨0, [], fun _ => 0, fun _ => undef, ⟨⟨none, 0, rfl, Nat.le_refl _, fun h => by omega⟩, rfl⟩, fun i hi => by omega, by omega, ⟨fun h => (by cases h), fun ⟨i, hi, _⟩ => absurd hi (Nat.not_lt_zero i)⟩⟩
  · cases h
    obtain ⟨a, cap, rfl⟩ := hu
    exact ⟨0, [], fun _ => 0, fun _ => undef, ⟨⟨_, cap, rfl, Nat.zero_le _, fun h => by omega⟩, rfl⟩, fun i hi => by omega, by omega, ⟨fun h => (by cases h), fun ⟨i, hi, _⟩ => absurd hi (Nat.not_lt_zero i)⟩⟩
  · rename_i q o n c kn
    split at h
    · rename_i t s l ver hob
      obtain ⟨hb, h⟩ := bifS h
      have hlen := Nat.eq_of_beq_eq_true (and_l hb)
      have hn := Nat.le_of_ble_eq_true (and_r hb)
      obtain ⟨r, mm, cap, hρ, rfl, hcap, _, _⟩ := hu
      obtain ⟨r', c', ro, h1, h2, h3⟩ := hM.live q (by show (Tr.get .dead M q).live; rw [hob]; trivial)
      have hob' : Mm.at M q = .cells t s l ver := hob
      rw [hob'] at h3
      rw [hρ] at h1
      cases h1
      obtain ⟨us, rest, rfl, hl, hone, _⟩ := h3
      have hls := (hl.drop o).take (n * 2)
      have hus := hls.length
      rw [hlen] at hus
      have hall : ((us.drop o).take (n * 2)).all (·.oneCell') = true := by
        refine hls.all_one ?_
        rw [List.all_eq_true] at hone ⊢
        exact fun z hz => hone z (List.mem_of_mem_drop (List.mem_of_mem_take hz))
      obtain ⟨n', hn', ks, ws, h4, h5⟩ := pairsB_ok h hls hall
      have : n' = n := by omega
      subst this
      refine ⟨n', _, ks, ws, ⟨⟨_, cap, rfl, hcap, fun _ => ⟨r, o, rfl, ?_⟩⟩, by rw [hus]⟩, h4, hn, h5⟩
      refine cells_rdL (us := us) (rest := rest) (t := t) h2 fun j w hj => ?_
      rw [List.getElem?_take] at hj
      split at hj
      · rwa [List.getElem?_drop] at hj
      · cases hj
    · cases h
  · cases h
def lookB (b : Nat) : List (Int × VV × Nat) → List Bool → Bool
  | (_, _, b') :: E, x :: bs => bif Nat.beq b b' then x else lookB b E bs
  | _, _ => false
theorem rows_ok {W0 : World} {ρ : Rho} {M : Mem} {nx : P} {C : Heap} (hM : MR W0 ρ M nx C) {m : Int} {c : Nat} : ∀ {E : List (Int × VV × Nat)} {E' : List Ent} {bs : List Bool}, EnR ρ E E' → rowsB M m E = some bs → bornsB c E = true →
    (∀ p ∈ E', Go.Proofs.YtfmjehkohlbebaaGreatDoor.RowHas W0 C m p.2.1 (lookB p.2.2 E bs)) ∧ (∀ p ∈ E', p.2.2 < c ∧ ∃ q ∈ E, q.2.2 = p.2.2) ∧ (E'.map (·.2.2)).Nodup ∧ (∀ p ∈ E', lookB p.2.2 E bs = true → p.1 ∈ keysT E bs) ∧ ∀ k ∈ keysT E bs, ∃ p ∈ E', p.1 = k ∧ lookB p.2.2 E bs = true
  | [], E', bs, hE, h, _ => by
    cases hE; cases h
    exact ⟨by simp, by simp, by simp, by simp, by simp [keysT]⟩
  | (k, v, b) :: E, E', bs, hE, h, hb => by
    obtain ⟨u, r, rfl, hu, hr⟩ := hE
    unfold rowsB at h
    split at h
    · rename_i b0 bs0 h1 h2
      cases h
      have hb1 := and_l (and_l hb)
      have hb2 := and_r (and_l hb)
      obtain ⟨i1, i2, i3, i4, i5⟩ := rows_ok hM hr h2 (and_r hb)
      have hne : ∀ p ∈ r, p.2.2 ≠ b := fun p hp he => by
        obtain ⟨q, hq, hqe⟩ := (i2 p hp).2
        have : (E.any fun q => Nat.beq q.2.2 b) = true := List.any_eq_true.2 ⟨q, hq, by rw [hqe, he]; simp⟩
        rw [this] at hb2
        cases hb2
      have hl : ∀ p ∈ r, lookB p.2.2 ((k, v, b) :: E) (b0 :: bs0) = lookB p.2.2 E bs0 := fun p hp => by
        show (bif Nat.beq p.2.2 b then b0 else lookB p.2.2 E bs0) = _
        rw [beq_ne (hne p hp)]; rfl
      have h0 : lookB b ((k, v, b) :: E) (b0 :: bs0) = b0 := by
        show (bif Nat.beq b b then b0 else lookB b E bs0) = _
        rw [beq_self]; rfl
      refine ⟨fun p hp => ?_, fun p hp => ?_, ?_, fun p hp ht => ?_, fun k' hk' => ?_⟩
      · rcases List.mem_cons.1 hp with rfl | hp
        · simp only [h0]; exact rowB_ok hM h1 hu
        · rw [hl p hp]; exact i1 p hp
      · rcases List.mem_cons.1 hp with rfl | hp
        · exact ⟨Nat.blt_eq.mp hb1, _, List.mem_cons_self .., rfl⟩
        · obtain ⟨g1, q, g2, g3⟩ := i2 p hp; exact ⟨g1, q, List.mem_cons_of_mem _ g2, g3⟩
      · rw [List.map_cons]
        refine List.nodup_cons.2 ⟨fun hin => ?_, i3⟩
        obtain ⟨p, hp, he⟩ := List.mem_map.1 hin
        exact hne p hp he
      · show p.1 ∈ (bif b0 then k :: keysT E bs0 else keysT E bs0)
        rcases List.mem_cons.1 hp with rfl | hp
        · simp only [h0] at ht
          rw [ht]; exact List.mem_cons_self ..
        · rw [hl p hp] at ht
          have := i4 p hp ht
          cases b0 with
          | true => exact List.mem_cons_of_mem _ this
          | false => exact this
      · have hk' : k' ∈ (bif b0 then k :: keysT E bs0 else keysT E bs0) := hk'
        have tail : k' ∈ keysT E bs0 → ∃ p ∈ (k, u, b) :: r, p.1 = k' ∧ lookB p.2.2 ((k, v, b) :: E) (b0 :: bs0) = true := fun h => by
          obtain ⟨p, hp, g1, g2⟩ := i5 k' h
          exact ⟨p, List.mem_cons_of_mem _ hp, g1, by rw [hl p hp]; exact g2⟩
        cases b0 with
        | true =>
          rcases List.mem_cons.1 hk' with rfl | hk'
          · exact ⟨_, List.mem_cons_self .., rfl, h0⟩
          · exact tail hk'
        | false => exact tail hk'
    · cases h
theorem ownerS_ok (W0 : World) (hcb : callable Go.Proofs.Tryz.prog 73 = true) : SpecOk W0 Go.Proofs.Tryz.prog 73 ownerS := by
  intro vs M nx v M' nx' h
  unfold ownerS at h
  split at h <;> try (cases h; done)
  rename_i l m
  split at h <;> try (cases h; done)
  rename_i t s x0 hm rest ver hl
  split at h <;> try (cases h; done)
  rename_i E clock ver2 hh
  split at h <;> try (cases h; done)
  rename_i bs hrows hborn
  have key : ∀ k, (keysT E bs = [] ∧ k = -1 ∨ keysT E bs = [k]) → ∀ ρ C us, Rls ρ [VV.ptr l 0, VV.i m] us → MR W0 ρ M nx C → Does W0 Go.Proofs.Tryz.prog 73 us.toArray C fun u C' => ∃ ρ', Den.Ext ρ ρ' ∧ MR W0 ρ' M nx C' ∧ Keep ρ M M C C' ∧ Rl ρ' (.i k) u := by
    intro k hk ρ C us hu hM
    obtain ⟨u, us1, rfl, hu0, hu1⟩ := hu
    obtain ⟨u1, us2, rfl, hu1, hu2⟩ := hu1
    cases hu2
    have hu1 : u1 = .int .i64 m := hu1
    subst hu1
    obtain ⟨r, c, hρ, rfl⟩ := hu0
    have hl' : Mm.at M l = .cells t s (x0 :: .map hm :: rest) ver := hl
    have hh' : Mm.at M hm = .mp E clock ver2 := hh
    obtain ⟨r1, c1, ro, h1, h2, h3⟩ := hM.live l (by rw [hl']; trivial)
    rw [hρ] at h1
    cases h1
    rw [hl'] at h3
    obtain ⟨us, rest', rfl, hls, hone, _⟩ := h3
    obtain ⟨w0, us, rfl, _, hls⟩ := hls
    obtain ⟨w1, us, rfl, hw1, hls⟩ := hls
    obtain ⟨r2, c2, hρ2, rfl⟩ := hw1
    obtain ⟨r3, c3, ro3, g1, g2, g3⟩ := hM.live hm (by rw [hh']; trivial)
    rw [hρ2] at g1
    cases g1
    rw [hh'] at g3
    obtain ⟨E', rfl, hE⟩ := g3
    obtain ⟨i1, i2, i3, i4, i5⟩ := rows_ok (W0 := W0) hM hE hrows hborn
    refine (Go.Proofs.YtfmjehkohlbebaaGreatDoor.owner_s W0 C r 0 r2 E' clock m (fun p => lookB p.2.2 E bs) (Rd.of_at (mem_at h2) (by simp)) (mem_at g2) i1 i3 fun p hp => (i2 p hp).1).mono fun u C' hC' => ?_
    obtain ⟨⟨d1, d2, rfl⟩, hv⟩ := hC'
    refine ⟨ρ, Den.Ext.refl ρ, hM.sub fun p hp => by simp [hp], fun b r c ro _ _ _ hin => by simp [hin], ?_⟩
    rcases hv with ⟨p, hp, hb, rfl⟩ | ⟨hall, rfl⟩
    · have := i4 p hp hb
      rcases hk with ⟨hk, _⟩ | hk
      · rw [hk] at this; cases this
      · rw [hk] at this
        rw [List.mem_singleton.1 this]
        rfl
    · rcases hk with ⟨_, rfl⟩ | hk
      · rfl
      · obtain ⟨p, hp, _, g⟩ := i5 k (by rw [hk]; exact List.mem_singleton.2 rfl)
        have := hall p hp
        rw [g] at this
        cases this
  split at h <;> cases h
  · rename_i hk; exact ⟨Mono.refl _ _, hcb, key _ (.inl ⟨hk, rfl⟩)⟩
  · rename_i k hk; exact ⟨Mono.refl _ _, hcb, key k (.inr hk)⟩
end Den
namespace Go.Proofs.YtfmjehkohlbebaaGreatDoor
open Eng
set_option maxRecDepth 100000
set_option maxHeartbeats 4000000
set_option linter.unusedVariables false
theorem low_q (W0 : World) (C : Heap) (x : Int) (m : Nat) (hn : 1 ≤ m ∧ m ≤ 9223372036854775807) : Gives W0 Tryz.prog 7 #[.int .i64 x, .int .i64 (m : Int)] C (.int .i64 (Den.lowZ x m)) := Gives.of fun X => by
  have h1 := IntKind.wrap_u64 x
  have h2 : IntKind.u64.wrap (m : Int) = m := IntWalk.u64_in m (by omega)
  refine Does.go Tryz.func7 rfl Tryz.results7 Tryz.ntmps7 rfl rfl ?_; (conv => whnf)
  repeat' (first | (with_reducible first | refine V.seq ?_ | refine V.block ?_ | refine V.ret ?_ | refine V.skip ?_ | refine V.exit ?_ | refine thenK_normal ?_ | refine thenK_ret ?_ | refine thenK_exit ?_ | refine blockK_normal ?_ | refine blockK_ret ?_ | refine blockK_here ?_ | refine loopK_ret ?_ | refine loopK_exit ?_ | refine Ops.nil ?_ | refine A.blockK_on (h := ?_)) | ((with_reducible first | refine A.drw tabOk ⟨[], [], []⟩ mixed (h := ?_) | refine A.reg tabOk (h := ?_) | refine And.intro (by omega) ?_ | refine A.load tabOk (h := ?_) | refine A.or tabOk (h := ?_) | refine A.and tabOk (h := ?_) | refine A.gopen tabOk (h := ?_) | refine A.gshutP tabOk (h := ?_) | refine A.gshutM tabOk (h := ?_) | refine A.gshutN tabOk (h := ?_) | refine A.pickT tabOk (h := ?_) | refine A.pickF tabOk (h := ?_) | refine A.gstep tabOk (h := ?_) | refine A.gload tabOk (h := ?_) | refine A.store tabOk (h := ?_) | refine A.loadL tabOk (h := ?_) | refine A.loadE tabOk (h := ?_) | refine A.storeL tabOk (h := ?_) | refine A.gloadL tabOk (h := ?_) | refine A.gloadE tabOk (h := ?_) | refine A.convS tabOk (h := ?_)); (conv => whnf)) | (with_reducible first | refine A.condT (hx := ?_) | refine A.condF (hy := ?_)) | fail)
  refine retK_ret rfl (Weak.refl _) ⟨?_, rfl⟩
  simp only [tup, Den.lowZ]
  congr 1
  rw [h2]
theorem lowZ_bd (x : Int) (m : Nat) (hm : 1 ≤ m ∧ m ≤ 9223372036854775807) : 0 ≤ Den.lowZ x m ∧ Den.lowZ x m < m := by
  unfold Den.lowZ
  have h3 := Int.emod_nonneg (IntKind.u64.wrap x) (show (m : Int) ≠ 0 by omega)
  have h4 := Int.emod_lt_of_pos (IntKind.u64.wrap x) (show (0 : Int) < m by omega)
  rw [IntWalk.i64_in _ (by omega)]
  exact ⟨h3, h4⟩
end Go.Proofs.YtfmjehkohlbebaaGreatDoor
set_option linter.unusedVariables false
namespace Den
open Go Eng Go.Proofs.YtfmjehkohlbebaaGreatDoor
theorem lowS_ok (W0 : World) (hcb : callable Go.Proofs.Tryz.prog 7 = true) : SpecOk W0 Go.Proofs.Tryz.prog 7 lowS := by
  intro vs M nx v M' nx' h
  unfold lowS at h
  split at h <;> try (cases h; done)
  · rename_i m x n
    cases hb : (Nat.beq m n && Nat.ble 1 m && Nat.ble m 9223372036854775807) with
    | false => rw [hb] at h; cases h
    | true =>
      rw [hb] at h
      cases h
      have h1 := Nat.eq_of_beq_eq_true (and_l (and_l hb))
      subst h1
      have h2 := Nat.le_of_ble_eq_true (and_r (and_l hb))
      have h3 := Nat.le_of_ble_eq_true (and_r hb)
      refine ⟨Mono.refl _ _, hcb, fun ρ C us hu hM => ?_⟩
      obtain ⟨u, us1, rfl, hu0, hu1⟩ := hu
      obtain ⟨u1, us2, rfl, hu1, hu2⟩ := hu1
      cases hu2
      obtain ⟨z, rfl, hz⟩ := hu0
      have hu1 : u1 = .int .i64 (m : Int) := hu1
      subst hu1
      refine ((low_q W0 C z m ⟨h2, h3⟩).spec).mono fun u C' hC' => ?_
      obtain ⟨rfl, rfl⟩ := hC'
      exact ⟨ρ, Den.Ext.refl ρ, hM, Keep.refl _ _ _, by rw [hz]; rfl⟩
  · rename_i m q n
    cases hb : (Nat.beq m n && Nat.ble 1 m && Nat.ble m 9223372036854775807) with
    | false => rw [hb] at h; cases h
    | true =>
      rw [hb] at h
      cases h
      have h1 := Nat.eq_of_beq_eq_true (and_l (and_l hb))
      subst h1
      have h2 := Nat.le_of_ble_eq_true (and_r (and_l hb))
      have h3 := Nat.le_of_ble_eq_true (and_r hb)
      refine ⟨Mono.refl _ _, hcb, fun ρ C us hu hM => ?_⟩
      obtain ⟨u, us1, rfl, hu0, hu1⟩ := hu
      obtain ⟨u1, us2, rfl, hu1, hu2⟩ := hu1
      cases hu2
      obtain ⟨z, r, s, rfl, hρ, hz⟩ := hu0
      have hu1 : u1 = .int .i64 (m : Int) := hu1
      subst hu1
      have hbd := lowZ_bd z m ⟨h2, h3⟩
      refine ((low_q W0 C z m ⟨h2, h3⟩).spec).mono fun u C' hC' => ?_
      obtain ⟨rfl, rfl⟩ := hC'
      refine ⟨ρ, Den.Ext.refl ρ, hM, Keep.refl _ _ _, r, s, hρ, by omega, ?_, by rw [hz]; simp⟩
      rw [subZ_eq, ← hz]
      omega
end Den
