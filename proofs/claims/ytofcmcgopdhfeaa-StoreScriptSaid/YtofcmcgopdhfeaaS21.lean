/- A part of the proofs: what functions of the program do, each by its own contract; printed by a program of mine. No conditions but those that each theorem names. -/
import Derived.Test.YtofcmcgopdhfeaaS20
namespace Go.Proofs.Ytofcmcgopdhfeaa
open Eng
set_option maxRecDepth 100000
set_option maxHeartbeats 4000000

theorem rf_split (r1 : List RF) (r : RF) (r2 : List RF) : ((r1 ++ r :: r2).map rfL).flatten = (r1.map rfL).flatten ++ (rfL r ++ (r2.map rfL).flatten) := by simp
/-- A cell of one of the files is written. -/
theorem rf_set1 (r1 : List RF) (r : RF) (r2 : List RF) (rest : List Value) (v : Value) (bs ls : List Int) : (((r1 ++ r :: r2).map rfL).flatten ++ rest).set (r1.length * 3 + 1) v = ((r1 ++ ⟨r.id, bs, ls, v, r.fv⟩ :: r2).map rfL).flatten ++ rest := by
  have h := rf_len r1
  rw [rf_split, rf_split, List.append_assoc, List.append_assoc, List.set_append_right _ _ (by omega), h, show r1.length * 3 + 1 - r1.length * 3 = 1 by omega]
  simp
theorem rf_set2 (r1 : List RF) (r : RF) (r2 : List RF) (rest : List Value) (v : Value) (bs ls : List Int) : (((r1 ++ r :: r2).map rfL).flatten ++ rest).set (r1.length * 3 + 2) v = ((r1 ++ ⟨r.id, bs, ls, r.bv, v⟩ :: r2).map rfL).flatten ++ rest := by
  have h := rf_len r1
  rw [rf_split, rf_split, List.append_assoc, List.append_assoc, List.set_append_right _ _ (by omega), h, show r1.length * 3 + 2 - r1.length * 3 = 2 by omega]
  simp

/-- The files' slice is a block of its own. -/
theorem slc_block {r1 : List RF} {r : RF} {r2 : List RF} {Lv : Value} {cL : List Blk} (hs : Slc 86 3 Lv (r1 ++ r :: r2).length ((r1 ++ r :: r2).map rfL).flatten cL) : ∃ lb Lc rest, Lv = .slice (some ⟨lb, 0, none⟩) (r1 ++ r :: r2).length Lc ∧ cL = [(lb, .cells (((r1 ++ r :: r2).map rfL).flatten ++ rest).toArray 86 (0, 0))] ∧
    (r1 ++ r :: r2).length ≤ Lc ∧ Lc ≤ maxLen ∧ (((r1 ++ r :: r2).map rfL).flatten ++ rest).length = Lc * 3 := by
  rcases hs.2 with ⟨_, h, _⟩ | ⟨lb, Lc, rest, h1, h2, h3, h4, h5⟩
  · rw [List.length_append, List.length_cons] at h; omega
  · exact ⟨lb, Lc, rest, h1, h2, h3, h4, h5⟩
theorem slc_again {recs : List RF} {lb Lc : Nat} {rest : List Value} {n : Nat} (hn : recs.length = n) (h3 : n ≤ Lc) (h4 : Lc ≤ maxLen) (h5 : ((recs.map rfL).flatten ++ rest).length = Lc * 3) :
    Slc 86 3 (.slice (some ⟨lb, 0, none⟩) n Lc) recs.length (recs.map rfL).flatten [(lb, .cells ((recs.map rfL).flatten ++ rest).toArray 86 (0, 0))] := by
  subst hn
  exact ⟨rf_len recs, .inr ⟨lb, Lc, rest, rfl, rfl, h3, h4, h5⟩⟩

theorem rs_cut (W0 : World) (C : Heap) (w d : Nat) (Z : AS) (c : List Blk) (h : RS W0 w d Z c) (id : Int) (hL : Z.L.length ≤ 1000000) (hi : AInv Z) (hlk : ∀ f ∈ Z.L, LOk Z.q f.l) {e : Int} {Z' : AS} (he : aCut Z id = (e, Z')) :
    Does W0 Try.prog 31 #[.pointer (some ⟨w, 0, none⟩), .int .i64 id] (c :: C) (fun v C' => v = .int .i64 e ∧ ∃ c', RS W0 w d Z' c' ∧ C' = c' :: C) := by
  have hRS := h
  obtain ⟨Lv, cL, recs, E, fc, hc0, hf, hs, hLL, hok⟩ := h
  have hn : recs.length ≤ 1000000 := by rw [hLL, List.length_map] at hL; exact hL
  have hat := fun C => at_q W0 C w d Lv cL recs hs id hn
  unfold aCut at he
  rw [hLL] at he
  rcases rfound id recs with ⟨h1, h2, h3⟩ | ⟨r1, r, r2, rfl, hid, h1, h2, h3⟩
  · rw [h3] at he
    cases he
    rw [h2] at hat
    refine (Gives.mono (C' := wC w d Lv :: cL :: []) (Gives.of fun X => ?_) (by rw [hc0]; exact (rs_open _ _ _ _ _).trans ((by first | exact Weak.refl _ | exact Weak.all _ | (repeat (first | exact Weak.refl _ | exact Weak.all _ | refine A.wpick (k := ?_) | apply Weak.drop)) : Weak _ (wC w d Lv :: cL :: []))))).spec.mono (fun v C' hv => ⟨hv.1, c, hRS, hv.2⟩)
    refine Does.go Try.func31 rfl Try.results31 Try.ntmps31 rfl rfl ?_; (conv => whnf)
    repeat' (first | (with_reducible first | refine V.seq ?_ | refine V.block ?_ | refine V.ret ?_ | refine V.skip ?_ | refine V.exit ?_ | refine thenK_normal ?_ | refine thenK_ret ?_ | refine thenK_exit ?_ | refine blockK_normal ?_ | refine blockK_ret ?_ | refine blockK_here ?_ | refine loopK_ret ?_ | refine loopK_exit ?_ | refine Ops.nil ?_ | refine A.blockK_on (h := ?_)) | ((with_reducible first | refine A.drw tabOk ⟨[], [], []⟩ mixed (h := ?_) | refine A.reg tabOk (h := ?_) | refine And.intro (by omega) ?_ | refine A.load tabOk (h := ?_) | refine A.or tabOk (h := ?_) | refine A.and tabOk (h := ?_) | refine A.gopen tabOk (h := ?_) | refine A.gshutP tabOk (h := ?_) | refine A.gshutM tabOk (h := ?_) | refine A.gshutN tabOk (h := ?_) | refine A.pickT tabOk (h := ?_) | refine A.pickF tabOk (h := ?_) | refine A.gstep tabOk (h := ?_) | refine A.gload tabOk (h := ?_) | refine A.store tabOk (h := ?_) | refine A.loadL tabOk (h := ?_) | refine A.loadE tabOk (h := ?_) | refine A.storeL tabOk (h := ?_) | refine A.gloadL tabOk (h := ?_) | refine A.gloadE tabOk (h := ?_) | refine A.convS tabOk (h := ?_)); (conv => whnf)) | (with_reducible first | refine A.condT (hx := ?_) | refine A.condF (hy := ?_)) | fail)
    (with_reducible refine A.callQ2 tabOk (hs := hat _) (h := ?_)); (conv => whnf)
    repeat' (first | (with_reducible first | refine V.seq ?_ | refine V.block ?_ | refine V.ret ?_ | refine V.skip ?_ | refine V.exit ?_ | refine thenK_normal ?_ | refine thenK_ret ?_ | refine thenK_exit ?_ | refine blockK_normal ?_ | refine blockK_ret ?_ | refine blockK_here ?_ | refine loopK_ret ?_ | refine loopK_exit ?_ | refine Ops.nil ?_ | refine A.blockK_on (h := ?_)) | ((with_reducible first | refine A.drw tabOk ⟨[], [], []⟩ mixed (h := ?_) | refine A.reg tabOk (h := ?_) | refine And.intro (by omega) ?_ | refine A.load tabOk (h := ?_) | refine A.or tabOk (h := ?_) | refine A.and tabOk (h := ?_) | refine A.gopen tabOk (h := ?_) | refine A.gshutP tabOk (h := ?_) | refine A.gshutM tabOk (h := ?_) | refine A.gshutN tabOk (h := ?_) | refine A.pickT tabOk (h := ?_) | refine A.pickF tabOk (h := ?_) | refine A.gstep tabOk (h := ?_) | refine A.gload tabOk (h := ?_) | refine A.store tabOk (h := ?_) | refine A.loadL tabOk (h := ?_) | refine A.loadE tabOk (h := ?_) | refine A.storeL tabOk (h := ?_) | refine A.gloadL tabOk (h := ?_) | refine A.gloadE tabOk (h := ?_) | refine A.convS tabOk (h := ?_)); (conv => whnf)) | (with_reducible first | refine A.condT (hx := ?_) | refine A.condF (hy := ?_)) | fail)
    exact retK_ret rfl (by first | exact Weak.refl _ | exact Weak.all _ | (repeat (first | exact Weak.refl _ | exact Weak.all _ | refine A.wpick (k := ?_) | apply Weak.drop))) ⟨rfl, rfl⟩
  rw [h3] at he
  cases he
  rw [h2] at hat
  subst hc0
  have hr := hok r (by simp)
  have hin := hi.each r.fa (by rw [hLL]; simp)
  have hin1 : r.l.length = (r.bytes.length + 63) / 64 := hin.1
  have hin2 : r.bytes.length ≤ 512 := hin.2.1
  have hlkr : LOk Z.q r.l := hlk r.fa (by rw [hLL]; simp)
  obtain ⟨lb, Lc, rest, rfl, rfl, hb3, hb4, hb5⟩ := slc_block hs
  have hll : (r1 ++ r :: r2).length = r1.length + (r2.length + 1) := by simp
  obtain ⟨fo, fcp, hfv, hfc, hfr⟩ := hr.f.form
  have lr : RdL W0 ([(lb, .cells (((r1 ++ r :: r2).map rfL).flatten ++ rest).toArray 86 (0, 0))] :: []) lb 0 ((r1 ++ r :: r2).map rfL).flatten := RdL.of_at At.here fun q u hq => by
    have hlt := (List.getElem?_eq_some_iff.1 hq).1
    rw [Nat.zero_add, List.getElem?_append_left hlt]; exact hq
  have lre := RdL.rf lr
  refine Does.weak (rs_open _ _ _ _ _) ?_
  refine Does.go Try.func31 rfl Try.results31 Try.ntmps31 rfl rfl ?_; (conv => whnf)
  repeat' (first | (with_reducible first | refine V.seq ?_ | refine V.block ?_ | refine V.ret ?_ | refine V.skip ?_ | refine V.exit ?_ | refine thenK_normal ?_ | refine thenK_ret ?_ | refine thenK_exit ?_ | refine blockK_normal ?_ | refine blockK_ret ?_ | refine blockK_here ?_ | refine loopK_ret ?_ | refine loopK_exit ?_ | refine Ops.nil ?_ | refine A.blockK_on (h := ?_)) | ((with_reducible first | refine A.drw tabOk ⟨[], [], []⟩ mixed (h := ?_) | refine A.reg tabOk (h := ?_) | refine And.intro (by omega) ?_ | refine A.load tabOk (h := ?_) | refine A.or tabOk (h := ?_) | refine A.and tabOk (h := ?_) | refine A.gopen tabOk (h := ?_) | refine A.gshutP tabOk (h := ?_) | refine A.gshutM tabOk (h := ?_) | refine A.gshutN tabOk (h := ?_) | refine A.pickT tabOk (h := ?_) | refine A.pickF tabOk (h := ?_) | refine A.gstep tabOk (h := ?_) | refine A.gload tabOk (h := ?_) | refine A.store tabOk (h := ?_) | refine A.loadL tabOk (h := ?_) | refine A.loadE tabOk (h := ?_) | refine A.storeL tabOk (h := ?_) | refine A.gloadL tabOk (h := ?_) | refine A.gloadE tabOk (h := ?_) | refine A.convS tabOk (h := ?_)); (conv => whnf)) | (with_reducible first | refine A.condT (hx := ?_) | refine A.condF (hy := ?_)) | fail)
  (with_reducible refine A.callQ2 tabOk (hs := hat _) (h := ?_)); (conv => whnf)
  repeat' (first | (with_reducible first | refine V.seq ?_ | refine V.block ?_ | refine V.ret ?_ | refine V.skip ?_ | refine V.exit ?_ | refine thenK_normal ?_ | refine thenK_ret ?_ | refine thenK_exit ?_ | refine blockK_normal ?_ | refine blockK_ret ?_ | refine blockK_here ?_ | refine loopK_ret ?_ | refine loopK_exit ?_ | refine Ops.nil ?_ | refine A.blockK_on (h := ?_)) | ((with_reducible first | refine A.drw tabOk ⟨[], [], []⟩ mixed (h := ?_) | refine A.reg tabOk (h := ?_) | refine And.intro (by omega) ?_ | refine A.load tabOk (h := ?_) | refine A.or tabOk (h := ?_) | refine A.and tabOk (h := ?_) | refine A.gopen tabOk (h := ?_) | refine A.gshutP tabOk (h := ?_) | refine A.gshutM tabOk (h := ?_) | refine A.gshutN tabOk (h := ?_) | refine A.pickT tabOk (h := ?_) | refine A.pickF tabOk (h := ?_) | refine A.gstep tabOk (h := ?_) | refine A.gload tabOk (h := ?_) | refine A.store tabOk (h := ?_) | refine A.loadL tabOk (h := ?_) | refine A.loadE tabOk (h := ?_) | refine A.storeL tabOk (h := ?_) | refine A.gloadL tabOk (h := ?_) | refine A.gloadE tabOk (h := ?_) | refine A.convS tabOk (h := ?_)); (conv => whnf)) | (with_reducible first | refine A.condT (hx := ?_) | refine A.condF (hy := ?_)) | fail)
  refine V.loop (G := {g : Nat × List Blk // g.1 ≤ r.l.length ∧ FR W0 d (giveAll Z.q (r.l.take g.1)) g.2})
    (fun g => [(0, true, .pointer (some ⟨w, 0, none⟩)), (1, true, .int .i64 id), (5, true, .int .i64 r1.length), (6, true, .int .i64 g.1.1)])
    (fun g => g.1.2 :: wC w d (.slice (some ⟨lb, 0, none⟩) (r1 ++ r :: r2).length Lc) :: [(lb, .cells (((r1 ++ r :: r2).map rfL).flatten ++ rest).toArray 86 (0, 0))] :: E :: C) (fun g => r.l.length - g.1.1) ⟨(0, fc), by omega, by simpa [giveAll] using hf⟩ (by with_unfolding_all repeat (first | exact trivial | refine And.intro rfl ?_)) (by first | exact Weak.refl _ | exact Weak.all _ | (repeat (first | exact Weak.refl _ | exact Weak.all _ | refine A.wpick (k := ?_) | apply Weak.drop))) ?_
  rintro ⟨⟨k, fc1⟩, hk, hf1⟩
  dsimp only at hk hf1
  dsimp only
  have q2 := (lre.mono (C := fc1 :: wC w d (.slice (some ⟨lb, 0, none⟩) (r1 ++ r :: r2).length Lc) :: [(lb, .cells (((r1 ++ r :: r2).map rfL).flatten ++ rest).toArray 86 (0, 0))] :: E :: C) (by first | exact Weak.refl _ | exact Weak.all _ | (repeat (first | exact Weak.refl _ | exact Weak.all _ | refine A.wpick (k := ?_) | apply Weak.drop)))).cell (j := 2) rfl
  rw [hfv] at q2
  by_cases hlt : k < r.l.length
  · obtain ⟨fb, ff, rfl, fl⟩ := hfr (by omega)
    have g1 := (fl.mono (C := fc1 :: wC w d (.slice (some ⟨lb, 0, none⟩) (r1 ++ r :: r2).length Lc) :: [(lb, .cells (((r1 ++ r :: r2).map rfL).flatten ++ rest).toArray 86 (0, 0))] :: E :: C) (by first | exact Weak.refl _ | exact Weak.all _ | (repeat (first | exact Weak.refl _ | exact Weak.all _ | refine A.wpick (k := ?_) | apply Weak.drop)))).int (k := k) hlt
    have hm := List.getElem_mem hlt
    have hlj := hlkr.tk _ hm
    have htk : (giveAll Z.q (r.l.take k)).tk.getD (r.l[k]).toNat false = true := by
      rw [(give_all hi.ok _ (hlkr.take k)).2.2 _ hlj.1.1, if_neg ?_]
      · exact hlj.2
      · intro hm2
        obtain ⟨j, hj, he⟩ := List.mem_iff_getElem.1 hm2
        rw [List.length_take] at hj
        rw [List.getElem_take] at he
        have := (List.getElem_inj hlkr.nd).1 he
        omega
    repeat' (first | (with_reducible first | refine V.seq ?_ | refine V.block ?_ | refine V.ret ?_ | refine V.skip ?_ | refine V.exit ?_ | refine thenK_normal ?_ | refine thenK_ret ?_ | refine thenK_exit ?_ | refine blockK_normal ?_ | refine blockK_ret ?_ | refine blockK_here ?_ | refine loopK_ret ?_ | refine loopK_exit ?_ | refine Ops.nil ?_ | refine A.blockK_on (h := ?_)) | ((with_reducible first | refine A.drw tabOk ⟨[], [], []⟩ mixed (h := ?_) | refine A.reg tabOk (h := ?_) | refine And.intro (by omega) ?_ | refine A.load tabOk (h := ?_) | refine A.or tabOk (h := ?_) | refine A.and tabOk (h := ?_) | refine A.gopen tabOk (h := ?_) | refine A.gshutP tabOk (h := ?_) | refine A.gshutM tabOk (h := ?_) | refine A.gshutN tabOk (h := ?_) | refine A.pickT tabOk (h := ?_) | refine A.pickF tabOk (h := ?_) | refine A.gstep tabOk (h := ?_) | refine A.gload tabOk (h := ?_) | refine A.store tabOk (h := ?_) | refine A.loadL tabOk (h := ?_) | refine A.loadE tabOk (h := ?_) | refine A.storeL tabOk (h := ?_) | refine A.gloadL tabOk (h := ?_) | refine A.gloadE tabOk (h := ?_) | refine A.convS tabOk (h := ?_)); (conv => whnf)) | (with_reducible first | refine A.condT (hx := ?_) | refine A.condF (hy := ?_)) | fail)
    (with_reducible refine A.call tabOk (hs := fr_give W0 _ d _ fc1 hf1 (r.l[k]'hlt) (by rw [giveAll_n]; exact hlj.1) htk ) (h := ?_)); rintro _ _ ⟨rfl, fc2, hf2, rfl⟩; refine ⟨(by with_unfolding_all first | exact Weak.refl _ | exact Weak.all _ | (repeat (first | exact Weak.refl _ | exact Weak.all _ | refine A.wpick (k := ?_) | apply Weak.drop))), ?_⟩; (conv => whnf)
    repeat' (first | (with_reducible first | refine V.seq ?_ | refine V.block ?_ | refine V.ret ?_ | refine V.skip ?_ | refine V.exit ?_ | refine thenK_normal ?_ | refine thenK_ret ?_ | refine thenK_exit ?_ | refine blockK_normal ?_ | refine blockK_ret ?_ | refine blockK_here ?_ | refine loopK_ret ?_ | refine loopK_exit ?_ | refine Ops.nil ?_ | refine A.blockK_on (h := ?_)) | ((with_reducible first | refine A.drw tabOk ⟨[], [], []⟩ mixed (h := ?_) | refine A.reg tabOk (h := ?_) | refine And.intro (by omega) ?_ | refine A.load tabOk (h := ?_) | refine A.or tabOk (h := ?_) | refine A.and tabOk (h := ?_) | refine A.gopen tabOk (h := ?_) | refine A.gshutP tabOk (h := ?_) | refine A.gshutM tabOk (h := ?_) | refine A.gshutN tabOk (h := ?_) | refine A.pickT tabOk (h := ?_) | refine A.pickF tabOk (h := ?_) | refine A.gstep tabOk (h := ?_) | refine A.gload tabOk (h := ?_) | refine A.store tabOk (h := ?_) | refine A.loadL tabOk (h := ?_) | refine A.loadE tabOk (h := ?_) | refine A.storeL tabOk (h := ?_) | refine A.gloadL tabOk (h := ?_) | refine A.gloadE tabOk (h := ?_) | refine A.convS tabOk (h := ?_)); (conv => whnf)) | (with_reducible first | refine A.condT (hx := ?_) | refine A.condF (hy := ?_)) | fail)
    have hs2 : giveQ (giveAll Z.q (r.l.take k)) r.l[k] = giveAll Z.q (r.l.take (k + 1)) := by
      rw [List.take_succ_eq_append_getElem hlt, giveAll_append]; rfl
    rw [hs2] at hf2
    exact loopK_again ⟨(k + 1, fc2), by dsimp only; exact ⟨by omega, hf2⟩⟩ (by with_unfolding_all repeat (first | exact trivial | refine And.intro rfl ?_)) (Weak.refl _) (by dsimp only; omega)
  · obtain rfl : k = r.l.length := by omega
    rw [List.take_length] at hf1
    have hfl := rf_len (r1 ++ r :: r2)
    repeat' (first | (with_reducible first | refine V.seq ?_ | refine V.block ?_ | refine V.ret ?_ | refine V.skip ?_ | refine V.exit ?_ | refine thenK_normal ?_ | refine thenK_ret ?_ | refine thenK_exit ?_ | refine blockK_normal ?_ | refine blockK_ret ?_ | refine blockK_here ?_ | refine loopK_ret ?_ | refine loopK_exit ?_ | refine Ops.nil ?_ | refine A.blockK_on (h := ?_)) | ((with_reducible first | refine A.drw tabOk ⟨[], [44,49], wC w d (.slice (some ⟨lb, 0, none⟩) (r1 ++ r :: r2).length Lc) :: []⟩ mixed (h := ?_) | refine A.reg tabOk (h := ?_) | refine And.intro (by omega) ?_ | refine A.load tabOk (h := ?_) | refine A.loadS tabOk (h := ?_) | refine A.gloadS tabOk (h := ?_) | refine A.loadLS tabOk (h := ?_) | refine A.loadES tabOk (h := ?_) | refine A.gloadLS tabOk (h := ?_) | refine A.gloadES tabOk (h := ?_) | refine A.or tabOk (h := ?_) | refine A.and tabOk (h := ?_) | refine A.gopen tabOk (h := ?_) | refine A.gshutP tabOk (h := ?_) | refine A.gshutM tabOk (h := ?_) | refine A.gshutN tabOk (h := ?_) | refine A.pickT tabOk (h := ?_) | refine A.pickF tabOk (h := ?_) | refine A.gstep tabOk (h := ?_) | refine A.gload tabOk (h := ?_) | refine A.loadL tabOk (h := ?_) | refine A.loadE tabOk (h := ?_) | refine A.gloadL tabOk (h := ?_) | refine A.gloadE tabOk (h := ?_) | refine A.convS tabOk (h := ?_)); (conv => whnf)) | (with_reducible first | refine A.condT (hx := ?_) | refine A.condF (hy := ?_)) | fail)
    (with_reducible refine A.storeI tabOk (hoff := ?_) (h := ?_)); (· exact by rw [List.length_append, hfl]; omega); (conv => whnf)
    rw [show 0 + (r1.length : Int).toNat * 3 + 1 = r1.length * 3 + 1 by omega, rf_set1 r1 r r2 rest _ [] []]
    repeat' (first | (with_reducible first | refine V.seq ?_ | refine V.block ?_ | refine V.ret ?_ | refine V.skip ?_ | refine V.exit ?_ | refine thenK_normal ?_ | refine thenK_ret ?_ | refine thenK_exit ?_ | refine blockK_normal ?_ | refine blockK_ret ?_ | refine blockK_here ?_ | refine loopK_ret ?_ | refine loopK_exit ?_ | refine Ops.nil ?_ | refine A.blockK_on (h := ?_)) | ((with_reducible first | refine A.drw tabOk ⟨[], [44,49], wC w d (.slice (some ⟨lb, 0, none⟩) (r1 ++ r :: r2).length Lc) :: []⟩ mixed (h := ?_) | refine A.reg tabOk (h := ?_) | refine And.intro (by omega) ?_ | refine A.load tabOk (h := ?_) | refine A.loadS tabOk (h := ?_) | refine A.gloadS tabOk (h := ?_) | refine A.loadLS tabOk (h := ?_) | refine A.loadES tabOk (h := ?_) | refine A.gloadLS tabOk (h := ?_) | refine A.gloadES tabOk (h := ?_) | refine A.or tabOk (h := ?_) | refine A.and tabOk (h := ?_) | refine A.gopen tabOk (h := ?_) | refine A.gshutP tabOk (h := ?_) | refine A.gshutM tabOk (h := ?_) | refine A.gshutN tabOk (h := ?_) | refine A.pickT tabOk (h := ?_) | refine A.pickF tabOk (h := ?_) | refine A.gstep tabOk (h := ?_) | refine A.gload tabOk (h := ?_) | refine A.loadL tabOk (h := ?_) | refine A.loadE tabOk (h := ?_) | refine A.gloadL tabOk (h := ?_) | refine A.gloadE tabOk (h := ?_) | refine A.convS tabOk (h := ?_)); (conv => whnf)) | (with_reducible first | refine A.condT (hx := ?_) | refine A.condF (hy := ?_)) | fail)
    (with_reducible refine A.storeI tabOk (hoff := ?_) (h := ?_)); (· exact by rw [List.length_append, rf_len, List.length_append, List.length_cons]; omega); (conv => whnf)
    rw [show 0 + (r1.length : Int).toNat * 3 + 2 = r1.length * 3 + 2 by omega, rf_set2 r1 _ r2 rest _ [] []]
    repeat' (first | (with_reducible first | refine V.seq ?_ | refine V.block ?_ | refine V.ret ?_ | refine V.skip ?_ | refine V.exit ?_ | refine thenK_normal ?_ | refine thenK_ret ?_ | refine thenK_exit ?_ | refine blockK_normal ?_ | refine blockK_ret ?_ | refine blockK_here ?_ | refine loopK_ret ?_ | refine loopK_exit ?_ | refine Ops.nil ?_ | refine A.blockK_on (h := ?_)) | ((with_reducible first | refine A.drw tabOk ⟨[], [], []⟩ mixed (h := ?_) | refine A.reg tabOk (h := ?_) | refine And.intro (by omega) ?_ | refine A.load tabOk (h := ?_) | refine A.or tabOk (h := ?_) | refine A.and tabOk (h := ?_) | refine A.gopen tabOk (h := ?_) | refine A.gshutP tabOk (h := ?_) | refine A.gshutM tabOk (h := ?_) | refine A.gshutN tabOk (h := ?_) | refine A.pickT tabOk (h := ?_) | refine A.pickF tabOk (h := ?_) | refine A.gstep tabOk (h := ?_) | refine A.gload tabOk (h := ?_) | refine A.store tabOk (h := ?_) | refine A.loadL tabOk (h := ?_) | refine A.loadE tabOk (h := ?_) | refine A.storeL tabOk (h := ?_) | refine A.gloadL tabOk (h := ?_) | refine A.gloadE tabOk (h := ?_) | refine A.convS tabOk (h := ?_)); (conv => whnf)) | (with_reducible first | refine A.condT (hx := ?_) | refine A.condF (hy := ?_)) | fail)
    refine retK_ret rfl ?_ ⟨rfl, _, ⟨.slice (some ⟨lb, 0, none⟩) (r1 ++ r :: r2).length Lc, _, r1 ++ ⟨id, [], [], .slice none 0 0, .slice none 0 0⟩ :: r2, E, fc1, rfl, hf1, slc_again (n := (r1 ++ r :: r2).length) (rest := rest) (by simp) hb3 hb4 (by rw [← hb5, List.length_append, List.length_append, rf_len, rf_len]; simp), ?_, ?_⟩, rfl⟩
    · rw [← hid]
      exact (by first | exact Weak.refl _ | exact Weak.all _ | (repeat (first | exact Weak.refl _ | exact Weak.all _ | refine A.wpick (k := ?_) | apply Weak.drop)) : Weak _ (wC w d (.slice (some ⟨lb, 0, none⟩) (r1 ++ r :: r2).length Lc) :: fc1 :: [(lb, .cells (((r1 ++ ⟨r.id, [], [], .slice none 0 0, .slice none 0 0⟩ :: r2).map rfL).flatten ++ rest).toArray 86 (0, 0))] :: E :: C)).trans (rs_shut _ _ _ _ _)
    · show updF id ⟨id, [], []⟩ ((r1 ++ r :: r2).map RF.fa) = _
      rw [rupd_at id _ r1 r r2 hid h1]; simp [RF.fa]
    · intro x hx
      rcases List.mem_append.1 hx with hx | hx
      · exact hok x (by simp [hx])
      · rcases List.mem_cons.1 hx with rfl | hx
        · exact ⟨RdS.nil 1, RdS.nil 1⟩
        · exact hok x (by simp [hx])
end Go.Proofs.Ytofcmcgopdhfeaa
