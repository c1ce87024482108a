/- A part of the proofs: what functions of the program do, each by its own contract; printed by a program of mine. No conditions but those that each theorem names. -/
import Derived.Test.YtfodmphekdaobaaF11
import Derived.Test.YtfodmphekdaobaaEng9
namespace Go.Proofs.Ytfodmphekdaobaa
open Eng Go.RowKit
set_option maxRecDepth 100000
set_option maxHeartbeats 4000000

theorem kept (W0 : World) (C : Heap) (b : Nat) (v : Value) (n : Nat) (l : List Int) (hv : RdS W0 C 1 v n (u8s l)) (hn : n ≤ 1000000) :
    Gives W0 Try.prog 26 #[.slice (some ⟨b, 0, none⟩) n (n + 3), v] ([(b, Obj.cells (u8s l ++ u8s (pad 3)).toArray 5 (0, 0))] :: C) (.bool true) := Gives.of fun X => by
  have hl := hv.len
  rw [u8s_length] at hl
  have hlk : l.length = n := by omega
  have hof : slOff (n + 3) ((n : Int)).toNat 0 1 = n := by unfold slOff; rw [if_neg (by omega)]; omega
  have ha : RdS W0 ([(b, Obj.cells (u8s l ++ u8s (pad 3)).toArray 5 (0, 0))] :: C) 1 (.slice (some ⟨b, 0, none⟩) n (n + 3)) n (u8s l) :=
    ⟨⟨_, _, rfl, by omega, fun _ => ⟨b, 0, rfl, RdL.of_at At.here fun j u hj => by
      have hlt := (List.getElem?_eq_some_iff.1 hj).1
      rw [Nat.zero_add, List.getElem?_append_left hlt]; exact hj⟩⟩, by rw [u8s_length]; omega⟩
  have hq := fun C1 (hw : Weak C1 ([(b, Obj.cells (u8s l ++ u8s (pad 3)).toArray 5 (0, 0))] :: C)) => sameB_q W0 C1 _ v n l (ha.mono hw) ((hv.mono (Weak.skip _ C)).mono hw) hn
  refine Does.go Try.func26 rfl Try.results26 Try.ntmps26 rfl rfl ?_; (conv => whnf)
  repeat' (first | (with_reducible first | refine V.seq ?_ | refine V.block ?_ | refine V.ret ?_ | refine V.skip ?_ | refine V.exit ?_ | refine thenK_normal ?_ | refine thenK_ret ?_ | refine thenK_exit ?_ | refine blockK_normal ?_ | refine blockK_ret ?_ | refine blockK_here ?_ | refine loopK_ret ?_ | refine loopK_exit ?_ | refine Ops.nil ?_ | refine A.blockK_on (h := ?_)) | ((with_reducible first | refine A.drw tabOk ⟨[], [], []⟩ mixed (h := ?_) | refine A.reg tabOk (h := ?_) | refine And.intro (by omega) ?_ | refine A.load tabOk (h := ?_) | refine A.or tabOk (h := ?_) | refine A.and tabOk (h := ?_) | refine A.gopen tabOk (h := ?_) | refine A.gshutP tabOk (h := ?_) | refine A.gshutM tabOk (h := ?_) | refine A.gshutN tabOk (h := ?_) | refine A.pickT tabOk (h := ?_) | refine A.pickF tabOk (h := ?_) | refine A.gstep tabOk (h := ?_) | refine A.gload tabOk (h := ?_) | refine A.store tabOk (h := ?_) | refine A.loadL tabOk (h := ?_) | refine A.loadE tabOk (h := ?_) | refine A.storeL tabOk (h := ?_)); (conv => whnf)) | (with_reducible first | refine A.condT (hx := ?_) | refine A.condF (hy := ?_)) | fail)
  rw [hof, show ((n : Int) + 3).toNat - (n : Int).toNat = 3 by omega]
  refine V.loop (G := {k : Nat // k ≤ 3}) (fun g => [(0, true, .slice (some ⟨b, 0, none⟩) n (n + 3)), (1, true, v), (5, true, .slice (some ⟨b, n, none⟩) 3 (n + 3 - (n : Int).toNat)), (6, true, .int .i64 g.1)]) (fun g => X :: [(b, Obj.cells (u8s l ++ u8s (pad 3)).toArray 5 (0, 0))] :: C) (fun g => 3 - g.1) ⟨0, by omega⟩ (by with_unfolding_all repeat (first | exact trivial | refine And.intro rfl ?_)) (Weak.refl _) ?_
  rintro ⟨k, hk⟩
  dsimp only
  by_cases hkn : k < 3
  · have q : Rd W0 ([(b, Obj.cells (u8s l ++ u8s (pad 3)).toArray 5 (0, 0))] :: []) ⟨b, n + (k : Int).toNat, none⟩ (.int .u8 119) := Rd.here (by
      rw [List.getElem?_append_right (by rw [u8s_length]; omega), u8s_length]
      rw [show n + (k : Int).toNat - l.length = k by omega]
      match k, hkn with
      | 0, _ => rfl
      | 1, _ => rfl
      | 2, _ => rfl)
    have q := q.mono (C := X :: [(b, Obj.cells (u8s l ++ u8s (pad 3)).toArray 5 (0, 0))] :: C) (by first | exact Weak.refl _ | exact Weak.all _ | (repeat (first | exact Weak.refl _ | exact Weak.all _ | refine A.wpick (k := ?_) | apply Weak.drop)))
    repeat' (first | (with_reducible first | refine V.seq ?_ | refine V.block ?_ | refine V.ret ?_ | refine V.skip ?_ | refine V.exit ?_ | refine thenK_normal ?_ | refine thenK_ret ?_ | refine thenK_exit ?_ | refine blockK_normal ?_ | refine blockK_ret ?_ | refine blockK_here ?_ | refine loopK_ret ?_ | refine loopK_exit ?_ | refine Ops.nil ?_ | refine A.blockK_on (h := ?_)) | ((with_reducible first | refine A.drw tabOk ⟨[], [], []⟩ mixed (h := ?_) | refine A.reg tabOk (h := ?_) | refine And.intro (by omega) ?_ | refine A.load tabOk (h := ?_) | refine A.or tabOk (h := ?_) | refine A.and tabOk (h := ?_) | refine A.gopen tabOk (h := ?_) | refine A.gshutP tabOk (h := ?_) | refine A.gshutM tabOk (h := ?_) | refine A.gshutN tabOk (h := ?_) | refine A.pickT tabOk (h := ?_) | refine A.pickF tabOk (h := ?_) | refine A.gstep tabOk (h := ?_) | refine A.gload tabOk (h := ?_) | refine A.store tabOk (h := ?_) | refine A.loadL tabOk (h := ?_) | refine A.loadE tabOk (h := ?_) | refine A.storeL tabOk (h := ?_)); (conv => whnf)) | (with_reducible first | refine A.condT (hx := ?_) | refine A.condF (hy := ?_)) | fail)
    exact loopK_again ⟨k + 1, by omega⟩ (by with_unfolding_all repeat (first | exact trivial | refine And.intro rfl ?_)) (Weak.refl _) (by dsimp only; omega)
  · repeat' (first | (with_reducible first | refine V.seq ?_ | refine V.block ?_ | refine V.ret ?_ | refine V.skip ?_ | refine V.exit ?_ | refine thenK_normal ?_ | refine thenK_ret ?_ | refine thenK_exit ?_ | refine blockK_normal ?_ | refine blockK_ret ?_ | refine blockK_here ?_ | refine loopK_ret ?_ | refine loopK_exit ?_ | refine Ops.nil ?_ | refine A.blockK_on (h := ?_)) | ((with_reducible first | refine A.drw tabOk ⟨[], [], []⟩ mixed (h := ?_) | refine A.reg tabOk (h := ?_) | refine And.intro (by omega) ?_ | refine A.load tabOk (h := ?_) | refine A.or tabOk (h := ?_) | refine A.and tabOk (h := ?_) | refine A.gopen tabOk (h := ?_) | refine A.gshutP tabOk (h := ?_) | refine A.gshutM tabOk (h := ?_) | refine A.gshutN tabOk (h := ?_) | refine A.pickT tabOk (h := ?_) | refine A.pickF tabOk (h := ?_) | refine A.gstep tabOk (h := ?_) | refine A.gload tabOk (h := ?_) | refine A.store tabOk (h := ?_) | refine A.loadL tabOk (h := ?_) | refine A.loadE tabOk (h := ?_) | refine A.storeL tabOk (h := ?_)); (conv => whnf)) | (with_reducible first | refine A.condT (hx := ?_) | refine A.condF (hy := ?_)) | fail)
    (with_reducible refine A.callQ tabOk (hs := hq _ (by first | exact Weak.refl _ | exact Weak.all _ | (repeat (first | exact Weak.refl _ | exact Weak.all _ | refine A.wpick (k := ?_) | apply Weak.drop)))) (h := ?_)); (conv => whnf)
    repeat' (first | (with_reducible first | refine V.seq ?_ | refine V.block ?_ | refine V.ret ?_ | refine V.skip ?_ | refine V.exit ?_ | refine thenK_normal ?_ | refine thenK_ret ?_ | refine thenK_exit ?_ | refine blockK_normal ?_ | refine blockK_ret ?_ | refine blockK_here ?_ | refine loopK_ret ?_ | refine loopK_exit ?_ | refine Ops.nil ?_ | refine A.blockK_on (h := ?_)) | ((with_reducible first | refine A.drw tabOk ⟨[], [], []⟩ mixed (h := ?_) | refine A.reg tabOk (h := ?_) | refine And.intro (by omega) ?_ | refine A.load tabOk (h := ?_) | refine A.or tabOk (h := ?_) | refine A.and tabOk (h := ?_) | refine A.gopen tabOk (h := ?_) | refine A.gshutP tabOk (h := ?_) | refine A.gshutM tabOk (h := ?_) | refine A.gshutN tabOk (h := ?_) | refine A.pickT tabOk (h := ?_) | refine A.pickF tabOk (h := ?_) | refine A.gstep tabOk (h := ?_) | refine A.gload tabOk (h := ?_) | refine A.store tabOk (h := ?_) | refine A.loadL tabOk (h := ?_) | refine A.loadE tabOk (h := ?_) | refine A.storeL tabOk (h := ?_)); (conv => whnf)) | (with_reducible first | refine A.condT (hx := ?_) | refine A.condF (hy := ?_)) | fail)
    exact retK_ret rfl (by first | exact Weak.refl _ | exact Weak.all _ | (repeat (first | exact Weak.refl _ | exact Weak.all _ | refine A.wpick (k := ?_) | apply Weak.drop))) ⟨rfl, rfl⟩
end Go.Proofs.Ytfodmphekdaobaa
