/- A part of the proofs: what functions of the program do, each by its own contract; printed by a program of mine. No conditions but those that each theorem names. -/
import Derived.Test.YtofcmcgopdhfeaaS22a
namespace Go.Proofs.Ytofcmcgopdhfeaa
open Eng
set_option maxRecDepth 100000
set_option maxHeartbeats 4000000

theorem updF_length (id : Int) (y : FA) : ∀ L : List FA, (updF id y L).length = L.length
  | [] => rfl
  | x :: r => by
    unfold updF
    split
    · rfl
    · rw [List.length_cons, List.length_cons, updF_length id y r]

theorem rds_head3 {W0 : World} {C : Heap} {a : Option Addr} {n cap k : Nat} {xs : List Value} (h : RdS W0 C 3 (.slice a n cap) n xs) (hk : k ≤ n) : RdS W0 C 3 (.slice a k cap) k (xs.take (k * 3)) := by
  obtain ⟨ao, cap', h1, h2, h3⟩ := h.form
  cases h1
  refine ⟨⟨_, _, rfl, by omega, fun h0 => ?_⟩, by rw [List.length_take, h.len]; omega⟩
  obtain ⟨b, off, rfl, hr⟩ := h3 (by omega)
  exact ⟨b, off, rfl, fun j u hj => by
    rw [List.getElem?_take] at hj
    split at hj
    · exact hr j u hj
    · cases hj⟩
theorem rds_tail3 {W0 : World} {C : Heap} {b off n cap k : Nat} {xs : List Value} (h : RdS W0 C 3 (.slice (some ⟨b, off, none⟩) n cap) n xs) (hk : k ≤ n) : RdS W0 C 3 (.slice (some ⟨b, slOff cap k off 3, none⟩) (n - k) (cap - k)) (n - k) (xs.drop (k * 3)) := by
  obtain ⟨ao, cap', h1, h2, h3⟩ := h.form
  cases h1
  have hcap := h2
  refine ⟨⟨_, _, rfl, by omega, fun h0 => ?_⟩, by rw [List.length_drop, h.len]; omega⟩
  obtain ⟨b', off', h4, hr⟩ := h3 (by omega)
  cases h4
  exact ⟨_, _, rfl, fun j u hj => by
    rw [List.getElem?_drop] at hj
    rw [show slOff cap k off 3 = off + k * 3 by unfold slOff; rw [if_neg (by omega)], Nat.add_assoc]
    exact hr _ u hj⟩
theorem rf_take (r1 : List RF) (r : RF) (r2 : List RF) : ((r1 ++ r :: r2).map rfL).flatten.take (r1.length * 3) = (r1.map rfL).flatten := by
  rw [rf_split, ← rf_len, List.take_left]
theorem rf_drop (r1 : List RF) (r : RF) (r2 : List RF) : ((r1 ++ r :: r2).map rfL).flatten.drop ((r1.length + 1) * 3) = (r2.map rfL).flatten := by
  rw [rf_split, ← List.append_assoc, show (r1.length + 1) * 3 = ((r1.map rfL).flatten ++ rfL r).length by rw [List.length_append, rf_len]; simp; omega, List.drop_left]

theorem rs_drop (W0 : World) (C : Heap) (w d : Nat) (Z : AS) (c : List Blk) (h : RS W0 w d Z c) (id : Int) (hL : Z.L.length ≤ 1000000) (hi : AInv Z) (hlk : ∀ f ∈ Z.L, LOk Z.q f.l) {e : Int} {Z' : AS} (he : aDrop Z id = (e, Z')) :
    Does W0 Try.prog 24 #[.pointer (some ⟨w, 0, none⟩), .int .i64 id] (c :: C) (fun v C' => v = .int .i64 e ∧ ∃ c', RS W0 w d Z' c' ∧ C' = c' :: C) := by
  have hcut := fun e' Z'' => rs_cut W0 C w d Z c h id hL hi hlk (e := e') (Z' := Z'')
  unfold aCut at hcut
  unfold aDrop at he
  cases ha : atF id Z.L with
  | none =>
    rw [ha] at hcut he
    cases he
    have hcut := hcut _ _ rfl
    refine Does.go Try.func24 rfl Try.results24 Try.ntmps24 rfl rfl ?_; (conv => whnf)
    repeat' (first | (with_reducible first | refine V.seq ?_ | refine V.block ?_ | refine V.ret ?_ | refine V.skip ?_ | refine V.exit ?_ | refine thenK_normal ?_ | refine thenK_ret ?_ | refine thenK_exit ?_ | refine blockK_normal ?_ | refine blockK_ret ?_ | refine blockK_here ?_ | refine loopK_ret ?_ | refine loopK_exit ?_ | refine Ops.nil ?_ | refine A.blockK_on (h := ?_)) | ((with_reducible first | refine A.drw tabOk ⟨[], [], []⟩ mixed (h := ?_) | refine A.reg tabOk (h := ?_) | refine And.intro (by omega) ?_ | refine A.load tabOk (h := ?_) | refine A.or tabOk (h := ?_) | refine A.and tabOk (h := ?_) | refine A.gopen tabOk (h := ?_) | refine A.gshutP tabOk (h := ?_) | refine A.gshutM tabOk (h := ?_) | refine A.gshutN tabOk (h := ?_) | refine A.pickT tabOk (h := ?_) | refine A.pickF tabOk (h := ?_) | refine A.gstep tabOk (h := ?_) | refine A.gload tabOk (h := ?_) | refine A.store tabOk (h := ?_) | refine A.loadL tabOk (h := ?_) | refine A.loadE tabOk (h := ?_) | refine A.storeL tabOk (h := ?_) | refine A.gloadL tabOk (h := ?_) | refine A.gloadE tabOk (h := ?_) | refine A.convS tabOk (h := ?_)); (conv => whnf)) | (with_reducible first | refine A.condT (hx := ?_) | refine A.condF (hy := ?_)) | fail)
    (with_reducible refine A.call tabOk (hs := hcut ) (h := ?_)); rintro _ _ ⟨rfl, c', hc', rfl⟩; refine ⟨(by with_unfolding_all first | exact Weak.refl _ | exact Weak.all _ | (repeat (first | exact Weak.refl _ | exact Weak.all _ | refine A.wpick (k := ?_) | apply Weak.drop))), ?_⟩; (conv => whnf)
    repeat' (first | (with_reducible first | refine V.seq ?_ | refine V.block ?_ | refine V.ret ?_ | refine V.skip ?_ | refine V.exit ?_ | refine thenK_normal ?_ | refine thenK_ret ?_ | refine thenK_exit ?_ | refine blockK_normal ?_ | refine blockK_ret ?_ | refine blockK_here ?_ | refine loopK_ret ?_ | refine loopK_exit ?_ | refine Ops.nil ?_ | refine A.blockK_on (h := ?_)) | ((with_reducible first | refine A.drw tabOk ⟨[], [], []⟩ mixed (h := ?_) | refine A.reg tabOk (h := ?_) | refine And.intro (by omega) ?_ | refine A.load tabOk (h := ?_) | refine A.or tabOk (h := ?_) | refine A.and tabOk (h := ?_) | refine A.gopen tabOk (h := ?_) | refine A.gshutP tabOk (h := ?_) | refine A.gshutM tabOk (h := ?_) | refine A.gshutN tabOk (h := ?_) | refine A.pickT tabOk (h := ?_) | refine A.pickF tabOk (h := ?_) | refine A.gstep tabOk (h := ?_) | refine A.gload tabOk (h := ?_) | refine A.store tabOk (h := ?_) | refine A.loadL tabOk (h := ?_) | refine A.loadE tabOk (h := ?_) | refine A.storeL tabOk (h := ?_) | refine A.gloadL tabOk (h := ?_) | refine A.gloadE tabOk (h := ?_) | refine A.convS tabOk (h := ?_)); (conv => whnf)) | (with_reducible first | refine A.condT (hx := ?_) | refine A.condF (hy := ?_)) | fail)
    exact retK_ret rfl (by first | exact Weak.refl _ | exact Weak.all _ | (repeat (first | exact Weak.refl _ | exact Weak.all _ | refine A.wpick (k := ?_) | apply Weak.drop))) ⟨rfl, c', hc', rfl⟩
  | some f =>
    rw [ha] at hcut he
    cases he
    have hcut := hcut _ _ rfl
    have hat := at_upd id ⟨id, [], []⟩ rfl Z.L (by rw [ha]; simp)
    have hopen : Does W0 Try.prog 31 #[.pointer (some ⟨w, 0, none⟩), .int .i64 id] (c :: C) (fun v C' => v = .int .i64 0 ∧ ∃ lo lc cL r1 r r2 E fc, FR W0 d (giveAll Z.q f.l) fc ∧ delF id Z.L = (r1 ++ r2).map RF.fa ∧ (r1 ++ r :: r2).length ≤ 1000000 ∧ idxR id (r1 ++ r :: r2) 0 = r1.length ∧ (∀ x ∈ r1 ++ r :: r2, RFok W0 E x) ∧
        Slc 86 3 (.slice (some ⟨lo, 0, none⟩) (r1 ++ r :: r2).length lc) (r1 ++ r :: r2).length ((r1 ++ r :: r2).map rfL).flatten cL ∧ (r1 ++ r :: r2).length ≤ lc ∧ lc ≤ maxLen ∧ C' = wC w d (.slice (some ⟨lo, 0, none⟩) (r1 ++ r :: r2).length lc) :: fc :: cL :: E :: C) := by
      refine hcut.post ?_
      rintro v C' ⟨rfl, c', ⟨Lv, cL, recs, E, fc, rfl, hf, hs, hLL, hok⟩, rfl⟩
      have hLL : updF id ⟨id, [], []⟩ Z.L = recs.map RF.fa := hLL
      have hll : recs.length ≤ 1000000 := by rw [← List.length_map (f := RF.fa), ← hLL, updF_length]; exact hL
      rw [hLL] at hat
      rcases rfound id recs with ⟨h1, h2, h3⟩ | ⟨r1, r, r2, rfl, hid, h1, h2, h3⟩
      · rw [h3] at hat
        cases hat
      · have hdel := del_upd id ⟨id, [], []⟩ rfl Z.L
        rw [hLL, rdel_at id r1 r r2 hid h1] at hdel
        have hs0 := hs
        obtain ⟨lb, Lc, rest, rfl, e2, hb3, hb4, hb5⟩ := slc_block hs
        exact ⟨_, rs_open _ _ _ _ _, rfl, lb, Lc, cL, r1, r, r2, E, fc, hf, hdel.symm, hll, h2, hok, hs0, hb3, hb4, rfl⟩
    refine Does.go Try.func24 rfl Try.results24 Try.ntmps24 rfl rfl ?_; (conv => whnf)
    repeat' (first | (with_reducible first | refine V.seq ?_ | refine V.block ?_ | refine V.ret ?_ | refine V.skip ?_ | refine V.exit ?_ | refine thenK_normal ?_ | refine thenK_ret ?_ | refine thenK_exit ?_ | refine blockK_normal ?_ | refine blockK_ret ?_ | refine blockK_here ?_ | refine loopK_ret ?_ | refine loopK_exit ?_ | refine Ops.nil ?_ | refine A.blockK_on (h := ?_)) | ((with_reducible first | refine A.drw tabOk ⟨[], [], []⟩ mixed (h := ?_) | refine A.reg tabOk (h := ?_) | refine And.intro (by omega) ?_ | refine A.load tabOk (h := ?_) | refine A.or tabOk (h := ?_) | refine A.and tabOk (h := ?_) | refine A.gopen tabOk (h := ?_) | refine A.gshutP tabOk (h := ?_) | refine A.gshutM tabOk (h := ?_) | refine A.gshutN tabOk (h := ?_) | refine A.pickT tabOk (h := ?_) | refine A.pickF tabOk (h := ?_) | refine A.gstep tabOk (h := ?_) | refine A.gload tabOk (h := ?_) | refine A.store tabOk (h := ?_) | refine A.loadL tabOk (h := ?_) | refine A.loadE tabOk (h := ?_) | refine A.storeL tabOk (h := ?_) | refine A.gloadL tabOk (h := ?_) | refine A.gloadE tabOk (h := ?_) | refine A.convS tabOk (h := ?_)); (conv => whnf)) | (with_reducible first | refine A.condT (hx := ?_) | refine A.condF (hy := ?_)) | fail)
    (with_reducible refine A.call tabOk (hs := hopen ) (h := ?_)); rintro _ _ ⟨rfl, lo, lc, cL, r1, r, r2, E, fc, hf, hdel, hn, hm, hok, hs, hc3, hc4, rfl⟩; refine ⟨(by with_unfolding_all first | exact Weak.refl _ | exact Weak.all _ | (repeat (first | exact Weak.refl _ | exact Weak.all _ | refine A.wpick (k := ?_) | apply Weak.drop))), ?_⟩; (conv => whnf)
    have hat := fun C => at_q W0 C w d _ cL _ hs id hn
    rw [hm] at hat
    have hat := fun C => (hat C).mono (C := wC w d (.slice (some ⟨lo, 0, none⟩) (r1 ++ r :: r2).length lc) :: fc :: cL :: C) (by first | exact Weak.refl _ | exact Weak.all _ | (repeat (first | exact Weak.refl _ | exact Weak.all _ | refine A.wpick (k := ?_) | apply Weak.drop)))
    have hll : (r1 ++ r :: r2).length = r1.length + (r2.length + 1) := by simp
    have hrd := hs.rds (W0 := W0) (C := [])
    have hx1 := rds_head3 hrd (k := r1.length) (by omega)
    have hx2 := rds_tail3 hrd (k := r1.length + 1) (by omega)
    rw [rf_take] at hx1
    rw [rf_drop] at hx2
    have ho1 := rf_one (recs := r1) fun x hx => hok x (by simp [hx])
    have ho2 := rf_one (recs := r2) fun x hx => hok x (by simp [hx])
    repeat' (first | (with_reducible first | refine V.seq ?_ | refine V.block ?_ | refine V.ret ?_ | refine V.skip ?_ | refine V.exit ?_ | refine thenK_normal ?_ | refine thenK_ret ?_ | refine thenK_exit ?_ | refine blockK_normal ?_ | refine blockK_ret ?_ | refine blockK_here ?_ | refine loopK_ret ?_ | refine loopK_exit ?_ | refine Ops.nil ?_ | refine A.blockK_on (h := ?_)) | ((with_reducible first | refine A.drw tabOk ⟨[], [], []⟩ mixed (h := ?_) | refine A.reg tabOk (h := ?_) | refine And.intro (by omega) ?_ | refine A.load tabOk (h := ?_) | refine A.or tabOk (h := ?_) | refine A.and tabOk (h := ?_) | refine A.gopen tabOk (h := ?_) | refine A.gshutP tabOk (h := ?_) | refine A.gshutM tabOk (h := ?_) | refine A.gshutN tabOk (h := ?_) | refine A.pickT tabOk (h := ?_) | refine A.pickF tabOk (h := ?_) | refine A.gstep tabOk (h := ?_) | refine A.gload tabOk (h := ?_) | refine A.store tabOk (h := ?_) | refine A.loadL tabOk (h := ?_) | refine A.loadE tabOk (h := ?_) | refine A.storeL tabOk (h := ?_) | refine A.gloadL tabOk (h := ?_) | refine A.gloadE tabOk (h := ?_) | refine A.convS tabOk (h := ?_)); (conv => whnf)) | (with_reducible first | refine A.condT (hx := ?_) | refine A.condF (hy := ?_)) | fail)
    (with_reducible refine A.callQ2 tabOk (hs := hat _) (h := ?_)); (conv => whnf)
    (repeat' (with_reducible first | refine V.seq ?_ | refine thenK_normal ?_ | refine Ops.nil ?_ | fail))
    (with_reducible refine A.drwL tabOk ⟨[], [19,26], wC w d (.slice (some ⟨lo, 0, none⟩) (r1 ++ r :: r2).length lc) :: []⟩ mixed (hD := by first | exact Weak.refl _ | exact Weak.all _ | (repeat (first | exact Weak.refl _ | exact Weak.all _ | refine A.wpick (k := ?_) | apply Weak.drop))) (h := ?_)); (conv => whnf)
    repeat' (first | (with_reducible first | refine V.seq ?_ | refine V.block ?_ | refine V.ret ?_ | refine V.skip ?_ | refine V.exit ?_ | refine thenK_normal ?_ | refine thenK_ret ?_ | refine thenK_exit ?_ | refine blockK_normal ?_ | refine blockK_ret ?_ | refine blockK_here ?_ | refine loopK_ret ?_ | refine loopK_exit ?_ | refine Ops.nil ?_ | refine A.blockK_on (h := ?_)) | ((with_reducible first | refine A.drw tabOk ⟨[], [19,26], wC w d (.slice (some ⟨lo, 0, none⟩) (r1 ++ r :: r2).length lc) :: []⟩ mixed (h := ?_) | refine A.reg tabOk (h := ?_) | refine And.intro (by omega) ?_ | refine A.load tabOk (h := ?_) | refine A.loadS tabOk (h := ?_) | refine A.gloadS tabOk (h := ?_) | refine A.loadLS tabOk (h := ?_) | refine A.loadES tabOk (h := ?_) | refine A.gloadLS tabOk (h := ?_) | refine A.gloadES tabOk (h := ?_) | refine A.or tabOk (h := ?_) | refine A.and tabOk (h := ?_) | refine A.gopen tabOk (h := ?_) | refine A.gshutP tabOk (h := ?_) | refine A.gshutM tabOk (h := ?_) | refine A.gshutN tabOk (h := ?_) | refine A.pickT tabOk (h := ?_) | refine A.pickF tabOk (h := ?_) | refine A.gstep tabOk (h := ?_) | refine A.gload tabOk (h := ?_) | refine A.store tabOk (h := ?_) | refine A.loadL tabOk (h := ?_) | refine A.loadE tabOk (h := ?_) | refine A.storeL tabOk (h := ?_) | refine A.gloadL tabOk (h := ?_) | refine A.gloadE tabOk (h := ?_) | refine A.convS tabOk (h := ?_)); (conv => whnf)) | (with_reducible first | refine A.condT (hx := ?_) | refine A.condF (hy := ?_)) | fail)
    rw [show (r1.length : Int).toNat = r1.length by omega]
    (with_reducible refine A.appendS tabOk (hs := Slc.nil 86 3) (hC := Weak.nil _) (hr := by with_unfolding_all exact hx1.mono (by first | exact Weak.refl _ | exact Weak.all _ | (repeat (first | exact Weak.refl _ | exact Weak.all _ | refine A.wpick (k := ?_) | apply Weak.drop)))) (h := ?_)); intro v1 c1 hs1; refine ⟨(by with_unfolding_all first | exact Weak.refl _ | exact Weak.all _ | (repeat (first | exact Weak.refl _ | exact Weak.all _ | refine A.wpick (k := ?_) | apply Weak.drop))), ?_⟩; (conv => whnf)
    repeat' (first | (with_reducible first | refine V.seq ?_ | refine V.block ?_ | refine V.ret ?_ | refine V.skip ?_ | refine V.exit ?_ | refine thenK_normal ?_ | refine thenK_ret ?_ | refine thenK_exit ?_ | refine blockK_normal ?_ | refine blockK_ret ?_ | refine blockK_here ?_ | refine loopK_ret ?_ | refine loopK_exit ?_ | refine Ops.nil ?_ | refine A.blockK_on (h := ?_)) | ((with_reducible first | refine A.drw tabOk ⟨[], [19,26], wC w d (.slice (some ⟨lo, 0, none⟩) (r1 ++ r :: r2).length lc) :: []⟩ mixed (h := ?_) | refine A.reg tabOk (h := ?_) | refine And.intro (by omega) ?_ | refine A.load tabOk (h := ?_) | refine A.loadS tabOk (h := ?_) | refine A.gloadS tabOk (h := ?_) | refine A.loadLS tabOk (h := ?_) | refine A.loadES tabOk (h := ?_) | refine A.gloadLS tabOk (h := ?_) | refine A.gloadES tabOk (h := ?_) | refine A.or tabOk (h := ?_) | refine A.and tabOk (h := ?_) | refine A.gopen tabOk (h := ?_) | refine A.gshutP tabOk (h := ?_) | refine A.gshutM tabOk (h := ?_) | refine A.gshutN tabOk (h := ?_) | refine A.pickT tabOk (h := ?_) | refine A.pickF tabOk (h := ?_) | refine A.gstep tabOk (h := ?_) | refine A.gload tabOk (h := ?_) | refine A.store tabOk (h := ?_) | refine A.loadL tabOk (h := ?_) | refine A.loadE tabOk (h := ?_) | refine A.storeL tabOk (h := ?_) | refine A.gloadL tabOk (h := ?_) | refine A.gloadE tabOk (h := ?_) | refine A.convS tabOk (h := ?_)); (conv => whnf)) | (with_reducible first | refine A.condT (hx := ?_) | refine A.condF (hy := ?_)) | fail)
    rw [show ((r1.length : Int) + 1).toNat = r1.length + 1 by omega]
    (with_reducible refine A.appendS tabOk (hs := hs1) (hC := Weak.refl _) (hr := by with_unfolding_all exact hx2.mono (by first | exact Weak.refl _ | exact Weak.all _ | (repeat (first | exact Weak.refl _ | exact Weak.all _ | refine A.wpick (k := ?_) | apply Weak.drop)))) (h := ?_)); intro v2 c2 hs2; refine ⟨(by with_unfolding_all first | exact Weak.refl _ | exact Weak.all _ | (repeat (first | exact Weak.refl _ | exact Weak.all _ | refine A.wpick (k := ?_) | apply Weak.drop))), ?_⟩; (conv => whnf)
    repeat' (first | (with_reducible first | refine V.seq ?_ | refine V.block ?_ | refine V.ret ?_ | refine V.skip ?_ | refine V.exit ?_ | refine thenK_normal ?_ | refine thenK_ret ?_ | refine thenK_exit ?_ | refine blockK_normal ?_ | refine blockK_ret ?_ | refine blockK_here ?_ | refine loopK_ret ?_ | refine loopK_exit ?_ | refine Ops.nil ?_ | refine A.blockK_on (h := ?_)) | ((with_reducible first | refine A.drw tabOk ⟨[], [], []⟩ mixed (h := ?_) | refine A.reg tabOk (h := ?_) | refine And.intro (by omega) ?_ | refine A.load tabOk (h := ?_) | refine A.or tabOk (h := ?_) | refine A.and tabOk (h := ?_) | refine A.gopen tabOk (h := ?_) | refine A.gshutP tabOk (h := ?_) | refine A.gshutM tabOk (h := ?_) | refine A.gshutN tabOk (h := ?_) | refine A.pickT tabOk (h := ?_) | refine A.pickF tabOk (h := ?_) | refine A.gstep tabOk (h := ?_) | refine A.gload tabOk (h := ?_) | refine A.store tabOk (h := ?_) | refine A.loadL tabOk (h := ?_) | refine A.loadE tabOk (h := ?_) | refine A.storeL tabOk (h := ?_) | refine A.gloadL tabOk (h := ?_) | refine A.gloadE tabOk (h := ?_) | refine A.convS tabOk (h := ?_)); (conv => whnf)) | (with_reducible first | refine A.condT (hx := ?_) | refine A.condF (hy := ?_)) | fail)
    (conv => whnf)
    repeat' (first | (with_reducible first | refine V.seq ?_ | refine V.block ?_ | refine V.ret ?_ | refine V.skip ?_ | refine V.exit ?_ | refine thenK_normal ?_ | refine thenK_ret ?_ | refine thenK_exit ?_ | refine blockK_normal ?_ | refine blockK_ret ?_ | refine blockK_here ?_ | refine loopK_ret ?_ | refine loopK_exit ?_ | refine Ops.nil ?_ | refine A.blockK_on (h := ?_)) | ((with_reducible first | refine A.drw tabOk ⟨[], [], []⟩ mixed (h := ?_) | refine A.reg tabOk (h := ?_) | refine And.intro (by omega) ?_ | refine A.load tabOk (h := ?_) | refine A.or tabOk (h := ?_) | refine A.and tabOk (h := ?_) | refine A.gopen tabOk (h := ?_) | refine A.gshutP tabOk (h := ?_) | refine A.gshutM tabOk (h := ?_) | refine A.gshutN tabOk (h := ?_) | refine A.pickT tabOk (h := ?_) | refine A.pickF tabOk (h := ?_) | refine A.gstep tabOk (h := ?_) | refine A.gload tabOk (h := ?_) | refine A.store tabOk (h := ?_) | refine A.loadL tabOk (h := ?_) | refine A.loadE tabOk (h := ?_) | refine A.storeL tabOk (h := ?_) | refine A.gloadL tabOk (h := ?_) | refine A.gloadE tabOk (h := ?_) | refine A.convS tabOk (h := ?_)); (conv => whnf)) | (with_reducible first | refine A.condT (hx := ?_) | refine A.condF (hy := ?_)) | fail)
    rw [Nat.zero_add, List.nil_append] at hs2
    refine retK_ret rfl ?_ ⟨rfl, _, ⟨v2, c2, r1 ++ r2, E, fc, rfl, hf, ?_, hdel, fun x hx => hok x ?_⟩, rfl⟩
    · exact (by first | exact Weak.refl _ | exact Weak.all _ | (repeat (first | exact Weak.refl _ | exact Weak.all _ | refine A.wpick (k := ?_) | apply Weak.drop)) : Weak _ (wC w d v2 :: fc :: c2 :: E :: C)).trans (rs_shut _ _ _ _ _)
    · rw [List.map_append, List.flatten_append, List.length_append]
      rw [show (r1 ++ r :: r2).length - (r1.length + 1) = r2.length by omega] at hs2
      exact hs2
    · rcases List.mem_append.1 hx with hx | hx <;> simp [hx]
end Go.Proofs.Ytofcmcgopdhfeaa
