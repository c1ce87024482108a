/- A part of the proofs: what functions of the program do, each by its own contract; printed by a program of mine. No conditions but those that each theorem names. -/
import Derived.Test.YtofcmcgopdhfeaaS6
namespace Go.Proofs.Ytofcmcgopdhfeaa
open Eng
set_option maxRecDepth 100000
set_option maxHeartbeats 4000000

theorem rds_cut {W0 : World} {C : Heap} {b off n cap o k : Nat} {xs : List Value} (h : RdS W0 C 1 (.slice (some ⟨b, off, none⟩) n cap) n xs) (ho : o + k ≤ n) :
    RdS W0 C 1 (.slice (some ⟨b, slOff cap o off 1, none⟩) k (cap - o)) k ((xs.drop o).take k) := by
  obtain ⟨ao, cap', h1, h2, h3⟩ := h.form
  cases h1
  have hl := h.len
  refine ⟨⟨_, _, rfl, by omega, fun h0 => ⟨b, _, rfl, fun q u hq => ?_⟩⟩, by rw [List.length_take, List.length_drop]; omega⟩
  obtain ⟨b', off', hb, hr⟩ := h3 (by omega)
  cases hb
  have hlt := (List.getElem?_eq_some_iff.1 hq).1
  rw [List.length_take, List.length_drop] at hlt
  rw [List.getElem?_take, if_pos (by omega), List.getElem?_drop] at hq
  have : slOff cap o off 1 = off + o := by unfold slOff; rw [if_neg (by omega)]; omega
  rw [this, Nat.add_assoc]
  exact hr _ _ hq


/-- What a write's closure reads: the store by its box, its frames; the bytes by theirs. -/
structure Sees (W0 : World) (C : Heap) (bs s d : Nat) : Prop where
  box : Rd W0 C ⟨bs, 0, none⟩ (.pointer (some ⟨s, 0, none⟩))
  fr : Rd W0 C ⟨s, 0, none⟩ (.pointer (some ⟨d, 0, none⟩))
theorem Sees.mono {W0 : World} {C C' : Heap} {bs s d : Nat} (h : Sees W0 C bs s d) (k : Weak C' C) : Sees W0 C' bs s d := ⟨h.box.mono k, h.fr.mono k⟩

theorem wr1_s (W0 : World) (C : Heap) (d : Nat) (q : Qs) (B : List Int) (c : List Blk) (h : FM d q B c) (i : Int) (o k dn n : Nat) (bs s bw : Nat) (v : Value) (ys : List Int) (hs : Sees W0 C bs s d) (hw : Rd W0 C ⟨bw, 0, none⟩ v) (hv : RdS W0 C 1 v n (u8s ys)) (hn : n ≤ 1000000) (hdk : dn + k ≤ n) (hk : 0 < k) (hi : 0 ≤ i ∧ i < q.n) (ht : q.tk.getD i.toNat false = true) (hok : o + k ≤ 64) :
    Does W0 Try.prog 39 #[.int .i64 i, .int .i64 o, .int .i64 k, .int .i64 dn, .pointer (some ⟨bs, 0, none⟩), .pointer (some ⟨bw, 0, none⟩)] (c :: C)
      (fun v C' => v = .tuple #[] ∧ ∃ c', FM d q (putB B (i.toNat * 64 + o) ((ys.drop dn).take k)) c' ∧ C' = c' :: C) := by
  obtain ⟨ao, cap, rfl, hc, hr⟩ := hv.form
  obtain ⟨yb, yo, rfl, _⟩ := hr (by omega)
  have hcut := rds_cut hv (o := dn) (k := k) hdk
  rw [u8s_drop, u8s_take] at hcut
  have h1 := hs.box.mono (Weak.skip c C)
  have h2 := hs.fr.mono (Weak.skip c C)
  have h3 := hw.mono (Weak.skip c C)
  refine Does.go Try.func39 rfl Try.results39 Try.ntmps39 rfl rfl ?_; (conv => whnf)
  repeat' (first | (with_reducible first | refine V.seq ?_ | refine V.block ?_ | refine V.ret ?_ | refine V.skip ?_ | refine V.exit ?_ | refine thenK_normal ?_ | refine thenK_ret ?_ | refine thenK_exit ?_ | refine blockK_normal ?_ | refine blockK_ret ?_ | refine blockK_here ?_ | refine loopK_ret ?_ | refine loopK_exit ?_ | refine Ops.nil ?_ | refine A.blockK_on (h := ?_)) | ((with_reducible first | refine A.drw tabOk ⟨[], [], []⟩ mixed (h := ?_) | refine A.reg tabOk (h := ?_) | refine And.intro (by omega) ?_ | refine A.load tabOk (h := ?_) | refine A.or tabOk (h := ?_) | refine A.and tabOk (h := ?_) | refine A.gopen tabOk (h := ?_) | refine A.gshutP tabOk (h := ?_) | refine A.gshutM tabOk (h := ?_) | refine A.gshutN tabOk (h := ?_) | refine A.pickT tabOk (h := ?_) | refine A.pickF tabOk (h := ?_) | refine A.gstep tabOk (h := ?_) | refine A.gload tabOk (h := ?_) | refine A.store tabOk (h := ?_) | refine A.loadL tabOk (h := ?_) | refine A.loadE tabOk (h := ?_) | refine A.storeL tabOk (h := ?_) | refine A.gloadL tabOk (h := ?_) | refine A.gloadE tabOk (h := ?_) | refine A.convS tabOk (h := ?_)); (conv => whnf)) | (with_reducible first | refine A.condT (hx := ?_) | refine A.condF (hy := ?_)) | fail)
  rw [show ((dn : Int) + k).toNat - (dn : Int).toNat = k by omega, show ((dn : Int)).toNat = dn by omega]
  (with_reducible refine A.call tabOk (hs := fm_write W0 C d q B c h i o k _ _ hcut hi ht hok ) (h := ?_)); rintro _ _ ⟨rfl, c', hc', rfl⟩; refine ⟨(by with_unfolding_all first | exact Weak.refl _ | exact Weak.all _ | (repeat (first | exact Weak.refl _ | exact Weak.all _ | refine A.wpick (k := ?_) | apply Weak.drop))), ?_⟩; (conv => whnf)
  repeat' (first | (with_reducible first | refine V.seq ?_ | refine V.block ?_ | refine V.ret ?_ | refine V.skip ?_ | refine V.exit ?_ | refine thenK_normal ?_ | refine thenK_ret ?_ | refine thenK_exit ?_ | refine blockK_normal ?_ | refine blockK_ret ?_ | refine blockK_here ?_ | refine loopK_ret ?_ | refine loopK_exit ?_ | refine Ops.nil ?_ | refine A.blockK_on (h := ?_)) | ((with_reducible first | refine A.drw tabOk ⟨[], [], []⟩ mixed (h := ?_) | refine A.reg tabOk (h := ?_) | refine And.intro (by omega) ?_ | refine A.load tabOk (h := ?_) | refine A.or tabOk (h := ?_) | refine A.and tabOk (h := ?_) | refine A.gopen tabOk (h := ?_) | refine A.gshutP tabOk (h := ?_) | refine A.gshutM tabOk (h := ?_) | refine A.gshutN tabOk (h := ?_) | refine A.pickT tabOk (h := ?_) | refine A.pickF tabOk (h := ?_) | refine A.gstep tabOk (h := ?_) | refine A.gload tabOk (h := ?_) | refine A.store tabOk (h := ?_) | refine A.loadL tabOk (h := ?_) | refine A.loadE tabOk (h := ?_) | refine A.storeL tabOk (h := ?_) | refine A.gloadL tabOk (h := ?_) | refine A.gloadE tabOk (h := ?_) | refine A.convS tabOk (h := ?_)); (conv => whnf)) | (with_reducible first | refine A.condT (hx := ?_) | refine A.condF (hy := ?_)) | fail)
  exact retK_end rfl (by first | exact Weak.refl _ | exact Weak.all _ | (repeat (first | exact Weak.refl _ | exact Weak.all _ | refine A.wpick (k := ?_) | apply Weak.drop))) ⟨rfl, c', hc', rfl⟩

theorem rd1_s (W0 : World) (C : Heap) (d : Nat) (q : Qs) (B : List Int) (c : List Blk) (h : FM d q B c) (i : Int) (o k dn : Nat) (bs s bw : Nat) (v : Value) (ys : List Int) (cs : List Blk) (hs : Sees W0 C bs s d) (hv : Slc 5 1 v ys.length (u8s ys) cs) (hn : ys.length ≤ 1000000) (hi : 0 ≤ i ∧ i < q.n) (ht : q.tk.getD i.toNat false = true) (hok : o + k ≤ 64) :
    Does W0 Try.prog 41 #[.int .i64 i, .int .i64 o, .int .i64 k, .int .i64 dn, .pointer (some ⟨bs, 0, none⟩), .pointer (some ⟨bw, 0, none⟩)] ([(bw, Obj.cells [v].toArray 23 (0, 0))] :: cs :: c :: C)
      (fun v C' => v = .tuple #[] ∧ ∃ v' cs', Slc 5 1 v' (ys.length + k) (u8s (ys ++ subB B (i.toNat * 64 + o) k)) cs' ∧ C' = [(bw, Obj.cells [v'].toArray 23 (0, 0))] :: cs' :: c :: C) := by
  have h1 := hs.box.mono (C := [(bw, Obj.cells [v].toArray 23 (0, 0))] :: cs :: c :: C) (by first | exact Weak.refl _ | exact Weak.all _ | (repeat (first | exact Weak.refl _ | exact Weak.all _ | refine A.wpick (k := ?_) | apply Weak.drop)))
  have h2 := hs.fr.mono (C := [(bw, Obj.cells [v].toArray 23 (0, 0))] :: cs :: c :: C) (by first | exact Weak.refl _ | exact Weak.all _ | (repeat (first | exact Weak.refl _ | exact Weak.all _ | refine A.wpick (k := ?_) | apply Weak.drop)))
  obtain ⟨vo, vc, rfl, hvc⟩ := hv.len
  refine Does.go Try.func41 rfl Try.results41 Try.ntmps41 rfl rfl ?_; (conv => whnf)
  repeat' (first | (with_reducible first | refine V.seq ?_ | refine V.block ?_ | refine V.ret ?_ | refine V.skip ?_ | refine V.exit ?_ | refine thenK_normal ?_ | refine thenK_ret ?_ | refine thenK_exit ?_ | refine blockK_normal ?_ | refine blockK_ret ?_ | refine blockK_here ?_ | refine loopK_ret ?_ | refine loopK_exit ?_ | refine Ops.nil ?_ | refine A.blockK_on (h := ?_)) | ((with_reducible first | refine A.drw tabOk ⟨[], [], []⟩ mixed (h := ?_) | refine A.reg tabOk (h := ?_) | refine And.intro (by omega) ?_ | refine A.load tabOk (h := ?_) | refine A.or tabOk (h := ?_) | refine A.and tabOk (h := ?_) | refine A.gopen tabOk (h := ?_) | refine A.gshutP tabOk (h := ?_) | refine A.gshutM tabOk (h := ?_) | refine A.gshutN tabOk (h := ?_) | refine A.pickT tabOk (h := ?_) | refine A.pickF tabOk (h := ?_) | refine A.gstep tabOk (h := ?_) | refine A.gload tabOk (h := ?_) | refine A.store tabOk (h := ?_) | refine A.loadL tabOk (h := ?_) | refine A.loadE tabOk (h := ?_) | refine A.storeL tabOk (h := ?_) | refine A.gloadL tabOk (h := ?_) | refine A.gloadE tabOk (h := ?_) | refine A.convS tabOk (h := ?_)); (conv => whnf)) | (with_reducible first | refine A.condT (hx := ?_) | refine A.condF (hy := ?_)) | fail)
  (with_reducible refine A.call1 tabOk (hs := fm_read W0 _ d q B c h i o k hi ht hok ) (h := ?_)); rintro _ _ ⟨v1, c1, rfl, hs1, rfl⟩; refine ⟨(by with_unfolding_all first | exact Weak.refl _ | exact Weak.all _ | (repeat (first | exact Weak.refl _ | exact Weak.all _ | refine A.wpick (k := ?_) | apply Weak.drop))), ?_⟩; (conv => whnf)
  obtain ⟨vo1, vc1, rfl, hvc1⟩ := hs1.len
  have hone := u8s_one (subB B (i.toNat * 64 + o) k)
  repeat' (first | (with_reducible first | refine V.seq ?_ | refine V.block ?_ | refine V.ret ?_ | refine V.skip ?_ | refine V.exit ?_ | refine thenK_normal ?_ | refine thenK_ret ?_ | refine thenK_exit ?_ | refine blockK_normal ?_ | refine blockK_ret ?_ | refine blockK_here ?_ | refine loopK_ret ?_ | refine loopK_exit ?_ | refine Ops.nil ?_ | refine A.blockK_on (h := ?_)) | ((with_reducible first | refine A.drw tabOk ⟨[], [], []⟩ mixed (h := ?_) | refine A.reg tabOk (h := ?_) | refine And.intro (by omega) ?_ | refine A.load tabOk (h := ?_) | refine A.or tabOk (h := ?_) | refine A.and tabOk (h := ?_) | refine A.gopen tabOk (h := ?_) | refine A.gshutP tabOk (h := ?_) | refine A.gshutM tabOk (h := ?_) | refine A.gshutN tabOk (h := ?_) | refine A.pickT tabOk (h := ?_) | refine A.pickF tabOk (h := ?_) | refine A.gstep tabOk (h := ?_) | refine A.gload tabOk (h := ?_) | refine A.store tabOk (h := ?_) | refine A.loadL tabOk (h := ?_) | refine A.loadE tabOk (h := ?_) | refine A.storeL tabOk (h := ?_) | refine A.gloadL tabOk (h := ?_) | refine A.gloadE tabOk (h := ?_) | refine A.convS tabOk (h := ?_)); (conv => whnf)) | (with_reducible first | refine A.condT (hx := ?_) | refine A.condF (hy := ?_)) | fail)
  (with_reducible refine A.appendS tabOk (hs := hv) (hC := (by first | exact Weak.refl _ | exact Weak.all _ | (repeat (first | exact Weak.refl _ | exact Weak.all _ | refine A.wpick (k := ?_) | apply Weak.drop)) : Weak _ (cs :: c1 :: c :: [(bw, Obj.cells [Value.slice vo ys.length vc].toArray 23 (0, 0))] :: C))) (hr := by with_unfolding_all exact hs1.rds.mono (by first | exact Weak.refl _ | exact Weak.all _ | (repeat (first | exact Weak.refl _ | exact Weak.all _ | refine A.wpick (k := ?_) | apply Weak.drop)))) (h := ?_)); intro v2 c2 hs2; refine ⟨(by with_unfolding_all first | exact Weak.refl _ | exact Weak.all _ | (repeat (first | exact Weak.refl _ | exact Weak.all _ | refine A.wpick (k := ?_) | apply Weak.drop))), ?_⟩; (conv => whnf)
  rw [← u8s_append] at hs2
  repeat' (first | (with_reducible first | refine V.seq ?_ | refine V.block ?_ | refine V.ret ?_ | refine V.skip ?_ | refine V.exit ?_ | refine thenK_normal ?_ | refine thenK_ret ?_ | refine thenK_exit ?_ | refine blockK_normal ?_ | refine blockK_ret ?_ | refine blockK_here ?_ | refine loopK_ret ?_ | refine loopK_exit ?_ | refine Ops.nil ?_ | refine A.blockK_on (h := ?_)) | ((with_reducible first | refine A.drw tabOk ⟨[], [], []⟩ mixed (h := ?_) | refine A.reg tabOk (h := ?_) | refine And.intro (by omega) ?_ | refine A.load tabOk (h := ?_) | refine A.or tabOk (h := ?_) | refine A.and tabOk (h := ?_) | refine A.gopen tabOk (h := ?_) | refine A.gshutP tabOk (h := ?_) | refine A.gshutM tabOk (h := ?_) | refine A.gshutN tabOk (h := ?_) | refine A.pickT tabOk (h := ?_) | refine A.pickF tabOk (h := ?_) | refine A.gstep tabOk (h := ?_) | refine A.gload tabOk (h := ?_) | refine A.store tabOk (h := ?_) | refine A.loadL tabOk (h := ?_) | refine A.loadE tabOk (h := ?_) | refine A.storeL tabOk (h := ?_) | refine A.gloadL tabOk (h := ?_) | refine A.gloadE tabOk (h := ?_) | refine A.convS tabOk (h := ?_)); (conv => whnf)) | (with_reducible first | refine A.condT (hx := ?_) | refine A.condF (hy := ?_)) | fail)
  exact retK_end rfl (by first | exact Weak.refl _ | exact Weak.all _ | (repeat (first | exact Weak.refl _ | exact Weak.all _ | refine A.wpick (k := ?_) | apply Weak.drop))) ⟨rfl, v2, c2, hs2, rfl⟩
end Go.Proofs.Ytofcmcgopdhfeaa
