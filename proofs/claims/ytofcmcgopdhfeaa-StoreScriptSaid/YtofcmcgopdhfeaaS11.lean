/- A part of the proofs: what functions of the program do, each by its own contract; printed by a program of mine. No conditions but those that each theorem names. -/
import Derived.Test.YtofcmcgopdhfeaaS10
namespace Go.Proofs.Ytofcmcgopdhfeaa
open Eng
set_option maxRecDepth 100000
set_option maxHeartbeats 4000000

def giveAll (q : Qs) (l : List Int) : Qs := l.foldl giveQ q
theorem giveAll_n (q : Qs) (l : List Int) : (giveAll q l).n = q.n := by
  induction l generalizing q with
  | nil => rfl
  | cons a r ih => exact ih (giveQ q a)
theorem giveAll_append (q : Qs) (l m : List Int) : giveAll q (l ++ m) = giveAll (giveAll q l) m := List.foldl_append

/-- Frames given back that were taken, none twice. -/
theorem give_all {q : Qs} (hq : QOk q) : ∀ (l : List Int), LOk q l → QOk (giveAll q l) ∧ freeN (giveAll q l) = freeN q + l.length ∧ ∀ j : Int, 0 ≤ j → (giveAll q l).tk.getD j.toNat false = if j ∈ l then false else q.tk.getD j.toNat false := by
  intro l
  induction l generalizing q with
  | nil => intro _; exact ⟨hq, rfl, fun j _ => by simp [giveAll]⟩
  | cons a r ih =>
    intro h
    have ha := h.tk a (by simp)
    have hnd := List.nodup_cons.1 h.nd
    have hlt : a.toNat < q.tk.length := by rw [hq.tk]; omega
    have h1 : LOk (giveQ q a) r := ⟨hnd.2, fun f hf => by
      have hf2 := h.tk f (by simp [hf])
      have hne : a ≠ f := fun e => hnd.1 (e ▸ hf)
      refine ⟨hf2.1, ?_⟩
      simp only [giveQ]
      rw [getD_set _ _ _ _ hlt, if_neg (by omega)]
      exact hf2.2⟩
    obtain ⟨h2, h3, h4⟩ := ih (hq.give a ha.1 ha.2) h1
    refine ⟨h2, ?_, fun j hj => ?_⟩
    · show freeN (giveAll (giveQ q a) r) = _
      rw [h3, freeN_give hq a, List.length_cons]; omega
    · show (giveAll (giveQ q a) r).tk.getD j.toNat false = _
      rw [h4 j hj]
      simp only [giveQ]
      rw [getD_set _ _ _ _ hlt]
      by_cases hjr : j ∈ r
      · simp [hjr]
      · by_cases hja : j = a
        · subst hja; simp [hjr]
        · rw [if_neg hjr, if_neg (by omega), if_neg (by simp [hja, hjr])]

theorem LOk.take {q : Qs} {l : List Int} (h : LOk q l) (k : Nat) : LOk q (l.take k) := ⟨h.nd.sublist (List.take_sublist k l), fun f hf => h.tk f (List.mem_of_mem_take hf)⟩

theorem STok.other {q : Qs} {B : List Int} {r1 r2 : List PF} {r : PF} (h : STok q B (r1 ++ r :: r2)) : ∀ x ∈ r1 ++ r2, (∀ f ∈ x.l, f ∉ r.l) ∧ x.id ≠ r.id := by
  intro x hx
  have ha := List.pairwise_append.1 h.apart
  have hi := List.pairwise_append.1 h.ids
  rcases List.mem_append.1 hx with hx | hx
  · exact ⟨ha.2.2 x hx r (by simp), hi.2.2 x hx r (by simp)⟩
  · refine ⟨fun f hf hr => (List.pairwise_cons.1 ha.2.1).1 x hx f hr hf, fun e => (List.pairwise_cons.1 hi.2.1).1 x hx e.symm⟩

theorem STok.upd {q q' : Qs} {B B' : List Int} {r1 r2 : List PF} {r : PF} (h : STok q B (r1 ++ r :: r2)) (r' : PF) (hid : r'.id = r.id) (hr' : PFok q' B' r') (ho : ∀ x ∈ r1 ++ r2, PFok q' B' x) (hd : ∀ x ∈ r1 ++ r2, ∀ f ∈ x.l, f ∉ r'.l)
    (hs : freeN q' + (lsum (r1 ++ r2) + r'.l.length) = q'.n) : STok q' B' (r1 ++ r' :: r2) := by
  have ha := List.pairwise_append.1 h.apart
  have hi := List.pairwise_append.1 h.ids
  refine ⟨?_, ?_, ?_, ?_, ?_⟩
  · intro x hx
    rcases List.mem_append.1 hx with hx | hx
    · exact ho x (List.mem_append_left _ hx)
    · rcases List.mem_cons.1 hx with rfl | hx
      · exact hr'
      · exact ho x (List.mem_append_right _ hx)
  · refine List.pairwise_append.2 ⟨ha.1, List.pairwise_cons.2 ⟨fun x hx f hf hx2 => hd x (List.mem_append_right _ hx) f hx2 hf, (List.pairwise_cons.1 ha.2.1).2⟩, ?_⟩
    intro a haa b hb
    rcases List.mem_cons.1 hb with rfl | hb
    · exact hd a (List.mem_append_left _ haa)
    · exact ha.2.2 a haa b (by simp [hb])
  · refine List.pairwise_append.2 ⟨hi.1, List.pairwise_cons.2 ⟨fun x hx => by rw [hid]; exact (List.pairwise_cons.1 hi.2.1).1 x hx, (List.pairwise_cons.1 hi.2.1).2⟩, ?_⟩
    intro a haa b hb
    rcases List.mem_cons.1 hb with rfl | hb
    · rw [hid]; exact hi.2.2 a haa r (by simp)
    · exact hi.2.2 a haa b (by simp [hb])
  · intro x hx
    rcases List.mem_append.1 hx with hx | hx
    · exact h.pos x (by simp [hx])
    · rcases List.mem_cons.1 hx with rfl | hx
      · rw [hid]; exact h.pos r (by simp)
      · exact h.pos x (by simp [hx])
  · rw [lsum_append] at hs ⊢
    simp only [lsum]
    omega

def aCut (Z : AS) (id : Int) : Int × AS := match atF id Z.L with
  | some f => (0, ⟨giveAll Z.q f.l, updF id ⟨id, [], []⟩ Z.L⟩)
  | none => (4, Z)

theorem st_cut (W0 : World) (C : Heap) (s d : Nat) (Z : AS) (c : List Blk) (h : ST s d Z c) (id : Int) :
    Does W0 Try.prog 30 #[.pointer (some ⟨s, 0, none⟩), .int .i64 id] (c :: C) (fun v C' => v = .int .i64 (aCut Z id).1 ∧ ∃ c', ST s d (aCut Z id).2 c' ∧ C' = c' :: C) := by
  have hST := h
  obtain ⟨B, m, clock, recs, fc, hc0, hf, hL, hok⟩ := h
  unfold aCut
  rw [hL]
  rcases found id recs with ⟨h1, h2, h3⟩ | ⟨r1, r, r2, rfl, hid, h1, h2, h3⟩
  · rw [h3]
    refine (Gives.mono (C' := stC s d m :: mapC m (recs.map PF.ent) clock :: []) (Gives.of fun X => ?_) (by rw [hc0]; exact ((st_open _ _ _ _ _).trans (((Weak.all _).cons _).cons _)))).spec.mono (fun v C' hv => ⟨hv.1, c, hST, hv.2⟩)
    refine Does.go Try.func30 rfl Try.results30 Try.ntmps30 rfl rfl ?_; (conv => whnf)
    repeat' (first | (with_reducible first | refine V.seq ?_ | refine V.block ?_ | refine V.ret ?_ | refine V.skip ?_ | refine V.exit ?_ | refine thenK_normal ?_ | refine thenK_ret ?_ | refine thenK_exit ?_ | refine blockK_normal ?_ | refine blockK_ret ?_ | refine blockK_here ?_ | refine loopK_ret ?_ | refine loopK_exit ?_ | refine Ops.nil ?_ | refine A.blockK_on (h := ?_)) | ((with_reducible first | refine A.drw tabOk ⟨[], [], []⟩ mixed (h := ?_) | refine A.reg tabOk (h := ?_) | refine And.intro (by omega) ?_ | refine A.load tabOk (h := ?_) | refine A.or tabOk (h := ?_) | refine A.and tabOk (h := ?_) | refine A.gopen tabOk (h := ?_) | refine A.gshutP tabOk (h := ?_) | refine A.gshutM tabOk (h := ?_) | refine A.gshutN tabOk (h := ?_) | refine A.pickT tabOk (h := ?_) | refine A.pickF tabOk (h := ?_) | refine A.gstep tabOk (h := ?_) | refine A.gload tabOk (h := ?_) | refine A.store tabOk (h := ?_) | refine A.loadL tabOk (h := ?_) | refine A.loadE tabOk (h := ?_) | refine A.storeL tabOk (h := ?_) | refine A.gloadL tabOk (h := ?_) | refine A.gloadE tabOk (h := ?_) | refine A.convS tabOk (h := ?_)); (conv => whnf)) | (with_reducible first | refine A.condT (hx := ?_) | refine A.condF (hy := ?_)) | fail)
    (with_reducible refine A.callQ2 tabOk (hs := get_no W0 _ s d m clock _ id h2) (h := ?_)); (conv => whnf)
    repeat' (first | (with_reducible first | refine V.seq ?_ | refine V.block ?_ | refine V.ret ?_ | refine V.skip ?_ | refine V.exit ?_ | refine thenK_normal ?_ | refine thenK_ret ?_ | refine thenK_exit ?_ | refine blockK_normal ?_ | refine blockK_ret ?_ | refine blockK_here ?_ | refine loopK_ret ?_ | refine loopK_exit ?_ | refine Ops.nil ?_ | refine A.blockK_on (h := ?_)) | ((with_reducible first | refine A.drw tabOk ⟨[], [], []⟩ mixed (h := ?_) | refine A.reg tabOk (h := ?_) | refine And.intro (by omega) ?_ | refine A.load tabOk (h := ?_) | refine A.or tabOk (h := ?_) | refine A.and tabOk (h := ?_) | refine A.gopen tabOk (h := ?_) | refine A.gshutP tabOk (h := ?_) | refine A.gshutM tabOk (h := ?_) | refine A.gshutN tabOk (h := ?_) | refine A.pickT tabOk (h := ?_) | refine A.pickF tabOk (h := ?_) | refine A.gstep tabOk (h := ?_) | refine A.gload tabOk (h := ?_) | refine A.store tabOk (h := ?_) | refine A.loadL tabOk (h := ?_) | refine A.loadE tabOk (h := ?_) | refine A.storeL tabOk (h := ?_) | refine A.gloadL tabOk (h := ?_) | refine A.gloadE tabOk (h := ?_) | refine A.convS tabOk (h := ?_)); (conv => whnf)) | (with_reducible first | refine A.condT (hx := ?_) | refine A.condF (hy := ?_)) | fail)
    exact retK_ret rfl (by first | exact Weak.refl _ | exact Weak.all _ | (repeat (first | exact Weak.refl _ | exact Weak.all _ | refine A.wpick (k := ?_) | apply Weak.drop))) ⟨rfl, rfl⟩
  · rw [h3]
    subst hc0
    have hr := hok.each r (by simp)
    have hqk := hf.ok
    obtain ⟨hg1, hg2, hg3⟩ := give_all hqk r.l hr.lk
    have hlen := hr.len
    have hsm := hr.small
    obtain ⟨ao, cap, hv, hcc⟩ := hr.sl.len
    have hsl := hr.sl
    refine Does.weak (st_open1 _ _ _ _ _ _ _) ?_
    rw [hv] at hsl
    rw [hv]
    refine Does.go Try.func30 rfl Try.results30 Try.ntmps30 rfl rfl ?_; (conv => whnf)
    repeat' (first | (with_reducible first | refine V.seq ?_ | refine V.block ?_ | refine V.ret ?_ | refine V.skip ?_ | refine V.exit ?_ | refine thenK_normal ?_ | refine thenK_ret ?_ | refine thenK_exit ?_ | refine blockK_normal ?_ | refine blockK_ret ?_ | refine blockK_here ?_ | refine loopK_ret ?_ | refine loopK_exit ?_ | refine Ops.nil ?_ | refine A.blockK_on (h := ?_)) | ((with_reducible first | refine A.drw tabOk ⟨[], [], []⟩ mixed (h := ?_) | refine A.reg tabOk (h := ?_) | refine And.intro (by omega) ?_ | refine A.load tabOk (h := ?_) | refine A.or tabOk (h := ?_) | refine A.and tabOk (h := ?_) | refine A.gopen tabOk (h := ?_) | refine A.gshutP tabOk (h := ?_) | refine A.gshutM tabOk (h := ?_) | refine A.gshutN tabOk (h := ?_) | refine A.pickT tabOk (h := ?_) | refine A.pickF tabOk (h := ?_) | refine A.gstep tabOk (h := ?_) | refine A.gload tabOk (h := ?_) | refine A.store tabOk (h := ?_) | refine A.loadL tabOk (h := ?_) | refine A.loadE tabOk (h := ?_) | refine A.storeL tabOk (h := ?_) | refine A.gloadL tabOk (h := ?_) | refine A.gloadE tabOk (h := ?_) | refine A.convS tabOk (h := ?_)); (conv => whnf)) | (with_reducible first | refine A.condT (hx := ?_) | refine A.condF (hy := ?_)) | fail)
    (with_reducible refine A.callQ2 tabOk (hs := get_ok W0 _ s d m clock _ id r.p h2) (h := ?_)); (conv => whnf)
    repeat' (first | (with_reducible first | refine V.seq ?_ | refine V.block ?_ | refine V.ret ?_ | refine V.skip ?_ | refine V.exit ?_ | refine thenK_normal ?_ | refine thenK_ret ?_ | refine thenK_exit ?_ | refine blockK_normal ?_ | refine blockK_ret ?_ | refine blockK_here ?_ | refine loopK_ret ?_ | refine loopK_exit ?_ | refine Ops.nil ?_ | refine A.blockK_on (h := ?_)) | ((with_reducible first | refine A.drw tabOk ⟨[], [], []⟩ mixed (h := ?_) | refine A.reg tabOk (h := ?_) | refine And.intro (by omega) ?_ | refine A.load tabOk (h := ?_) | refine A.or tabOk (h := ?_) | refine A.and tabOk (h := ?_) | refine A.gopen tabOk (h := ?_) | refine A.gshutP tabOk (h := ?_) | refine A.gshutM tabOk (h := ?_) | refine A.gshutN tabOk (h := ?_) | refine A.pickT tabOk (h := ?_) | refine A.pickF tabOk (h := ?_) | refine A.gstep tabOk (h := ?_) | refine A.gload tabOk (h := ?_) | refine A.store tabOk (h := ?_) | refine A.loadL tabOk (h := ?_) | refine A.loadE tabOk (h := ?_) | refine A.storeL tabOk (h := ?_) | refine A.gloadL tabOk (h := ?_) | refine A.gloadE tabOk (h := ?_) | refine A.convS tabOk (h := ?_)); (conv => whnf)) | (with_reducible first | refine A.condT (hx := ?_) | refine A.condF (hy := ?_)) | fail)
    refine V.loop (G := {g : Nat × List Blk // g.1 ≤ r.l.length ∧ FM d (giveAll Z.q (r.l.take g.1)) B g.2})
      (fun g => [(0, true, .pointer (some ⟨s, 0, none⟩)), (5, true, .pointer (some ⟨r.p, 0, none⟩)), (7, true, .func (.func 45) #[.pointer (some ⟨d, 0, none⟩)] #[]), (27, true, .slice ao r.l.length cap), (28, true, .int .i64 r.l.length), (29, true, .int .i64 g.1.1)])
      (fun g => g.1.2 :: stC s d m :: mapC m ((r1 ++ r :: r2).map PF.ent) clock :: fileC r.p r.bytes.length (.slice ao r.l.length cap) :: r.c :: filesC r1 :: filesC r2 :: C) (fun g => r.l.length - g.1.1) ⟨(0, fc), by omega, by simpa [giveAll] using hf⟩ (by with_unfolding_all repeat (first | exact trivial | refine And.intro rfl ?_)) (by first | exact Weak.refl _ | exact Weak.all _ | (repeat (first | exact Weak.refl _ | exact Weak.all _ | refine A.wpick (k := ?_) | apply Weak.drop))) ?_
    rintro ⟨⟨k, fc1⟩, hk, hf1⟩
    dsimp only at hk hf1
    dsimp only
    by_cases hlt : k < r.l.length
    · obtain ⟨_, _, hform, _, hrr⟩ := (hsl.rds (W0 := W0) (C := [])).form
      cases hform
      obtain ⟨lb, lf, rfl, lr⟩ := hrr (by omega)
      have g1 := (lr.mono (C := fc1 :: stC s d m :: mapC m ((r1 ++ r :: r2).map PF.ent) clock :: fileC r.p r.bytes.length (.slice (some ⟨lb, lf, none⟩) r.l.length cap) :: r.c :: filesC r1 :: filesC r2 :: C) (by first | exact Weak.refl _ | exact Weak.all _ | (repeat (first | exact Weak.refl _ | exact Weak.all _ | refine A.wpick (k := ?_) | apply Weak.drop)))).int (k := k) hlt
      have hm := List.getElem_mem hlt
      have hlj := hr.lk.tk _ hm
      have htk : (giveAll Z.q (r.l.take k)).tk.getD (r.l[k]).toNat false = true := by
        rw [(give_all hqk _ (hr.lk.take k)).2.2 _ hlj.1.1, if_neg ?_]
        · exact hlj.2
        · intro hm2
          obtain ⟨j, hj, he⟩ := List.mem_iff_getElem.1 hm2
          rw [List.length_take] at hj
          rw [List.getElem_take] at he
          have := (List.getElem_inj hr.lk.nd).1 he
          omega
      repeat' (first | (with_reducible first | refine V.seq ?_ | refine V.block ?_ | refine V.ret ?_ | refine V.skip ?_ | refine V.exit ?_ | refine thenK_normal ?_ | refine thenK_ret ?_ | refine thenK_exit ?_ | refine blockK_normal ?_ | refine blockK_ret ?_ | refine blockK_here ?_ | refine loopK_ret ?_ | refine loopK_exit ?_ | refine Ops.nil ?_ | refine A.blockK_on (h := ?_)) | ((with_reducible first | refine A.drw tabOk ⟨[], [], []⟩ mixed (h := ?_) | refine A.reg tabOk (h := ?_) | refine And.intro (by omega) ?_ | refine A.load tabOk (h := ?_) | refine A.or tabOk (h := ?_) | refine A.and tabOk (h := ?_) | refine A.gopen tabOk (h := ?_) | refine A.gshutP tabOk (h := ?_) | refine A.gshutM tabOk (h := ?_) | refine A.gshutN tabOk (h := ?_) | refine A.pickT tabOk (h := ?_) | refine A.pickF tabOk (h := ?_) | refine A.gstep tabOk (h := ?_) | refine A.gload tabOk (h := ?_) | refine A.store tabOk (h := ?_) | refine A.loadL tabOk (h := ?_) | refine A.loadE tabOk (h := ?_) | refine A.storeL tabOk (h := ?_) | refine A.gloadL tabOk (h := ?_) | refine A.gloadE tabOk (h := ?_) | refine A.convS tabOk (h := ?_)); (conv => whnf)) | (with_reducible first | refine A.condT (hx := ?_) | refine A.condF (hy := ?_)) | fail)
      (with_reducible refine A.callV tabOk (hs := fm_give W0 _ d _ B fc1 hf1 r.l[k] (by rw [giveAll_n]; exact hlj.1) htk ) (h := ?_)); rintro _ _ ⟨rfl, fc2, hf2, rfl⟩; refine ⟨(by with_unfolding_all first | exact Weak.refl _ | exact Weak.all _ | (repeat (first | exact Weak.refl _ | exact Weak.all _ | refine A.wpick (k := ?_) | apply Weak.drop))), ?_⟩; (conv => whnf)
      repeat' (first | (with_reducible first | refine V.seq ?_ | refine V.block ?_ | refine V.ret ?_ | refine V.skip ?_ | refine V.exit ?_ | refine thenK_normal ?_ | refine thenK_ret ?_ | refine thenK_exit ?_ | refine blockK_normal ?_ | refine blockK_ret ?_ | refine blockK_here ?_ | refine loopK_ret ?_ | refine loopK_exit ?_ | refine Ops.nil ?_ | refine A.blockK_on (h := ?_)) | ((with_reducible first | refine A.drw tabOk ⟨[], [], []⟩ mixed (h := ?_) | refine A.reg tabOk (h := ?_) | refine And.intro (by omega) ?_ | refine A.load tabOk (h := ?_) | refine A.or tabOk (h := ?_) | refine A.and tabOk (h := ?_) | refine A.gopen tabOk (h := ?_) | refine A.gshutP tabOk (h := ?_) | refine A.gshutM tabOk (h := ?_) | refine A.gshutN tabOk (h := ?_) | refine A.pickT tabOk (h := ?_) | refine A.pickF tabOk (h := ?_) | refine A.gstep tabOk (h := ?_) | refine A.gload tabOk (h := ?_) | refine A.store tabOk (h := ?_) | refine A.loadL tabOk (h := ?_) | refine A.loadE tabOk (h := ?_) | refine A.storeL tabOk (h := ?_) | refine A.gloadL tabOk (h := ?_) | refine A.gloadE tabOk (h := ?_) | refine A.convS tabOk (h := ?_)); (conv => whnf)) | (with_reducible first | refine A.condT (hx := ?_) | refine A.condF (hy := ?_)) | fail)
      have hs2 : giveQ (giveAll Z.q (r.l.take k)) r.l[k] = giveAll Z.q (r.l.take (k + 1)) := by
        rw [List.take_succ_eq_append_getElem hlt, giveAll_append]; rfl
      rw [hs2] at hf2
      exact loopK_again ⟨(k + 1, fc2), by dsimp only; exact ⟨by omega, hf2⟩⟩ (by with_unfolding_all repeat (first | exact trivial | refine And.intro rfl ?_)) (Weak.refl _) (by dsimp only; omega)
    · obtain rfl : k = r.l.length := by omega
      rw [List.take_length] at hf1
      repeat' (first | (with_reducible first | refine V.seq ?_ | refine V.block ?_ | refine V.ret ?_ | refine V.skip ?_ | refine V.exit ?_ | refine thenK_normal ?_ | refine thenK_ret ?_ | refine thenK_exit ?_ | refine blockK_normal ?_ | refine blockK_ret ?_ | refine blockK_here ?_ | refine loopK_ret ?_ | refine loopK_exit ?_ | refine Ops.nil ?_ | refine A.blockK_on (h := ?_)) | ((with_reducible first | refine A.drw tabOk ⟨[], [], []⟩ mixed (h := ?_) | refine A.reg tabOk (h := ?_) | refine And.intro (by omega) ?_ | refine A.load tabOk (h := ?_) | refine A.or tabOk (h := ?_) | refine A.and tabOk (h := ?_) | refine A.gopen tabOk (h := ?_) | refine A.gshutP tabOk (h := ?_) | refine A.gshutM tabOk (h := ?_) | refine A.gshutN tabOk (h := ?_) | refine A.pickT tabOk (h := ?_) | refine A.pickF tabOk (h := ?_) | refine A.gstep tabOk (h := ?_) | refine A.gload tabOk (h := ?_) | refine A.store tabOk (h := ?_) | refine A.loadL tabOk (h := ?_) | refine A.loadE tabOk (h := ?_) | refine A.storeL tabOk (h := ?_) | refine A.gloadL tabOk (h := ?_) | refine A.gloadE tabOk (h := ?_) | refine A.convS tabOk (h := ?_)); (conv => whnf)) | (with_reducible first | refine A.condT (hx := ?_) | refine A.condF (hy := ?_)) | fail)
      have hoth := hok.other
      refine retK_ret rfl ?_ ⟨rfl, _, ⟨B, m, clock, r1 ++ ⟨id, [], [], r.p, r.born, .slice none 0 0, []⟩ :: r2, fc1, rfl, hf1, ?_, ?_⟩, rfl⟩
      · refine Weak.trans ?_ (st_shut1 _ _ _ _ _ _ _)
        rw [show (r1 ++ ⟨id, [], [], r.p, r.born, .slice none 0 0, []⟩ :: r2).map PF.ent = (r1 ++ r :: r2).map PF.ent by simp [PF.ent, hid]]
        refine (by first | exact Weak.refl _ | exact Weak.all _ | (repeat (first | exact Weak.refl _ | exact Weak.all _ | refine A.wpick (k := ?_) | apply Weak.drop)) : Weak _ (stC s d m :: mapC m ((r1 ++ r :: r2).map PF.ent) clock :: fc1 :: fileC r.p 0 (.slice none 0 0) :: filesC r1 :: filesC r2 :: C)).trans ?_
        exact ((((Weak.nil _).cons _).cons _).cons _).cons _
      · rw [upd_at id _ r1 r r2 hid h1]; simp [PF.fa]
      · refine hok.upd _ hid.symm ⟨Slc.nil 3 1, by simp, by simp, ⟨by simp, by simp⟩, by simp [Go.Proofs.Ytofcmcgopdhfeaa.cat]⟩ ?_ (by simp) ?_
        · intro x hx
          have hx2 : PFok Z.q B x := hok.each x (by rcases List.mem_append.1 hx with h | h <;> simp [h])
          refine ⟨hx2.sl, hx2.len, hx2.small, ⟨hx2.lk.nd, fun f hf => ?_⟩, hx2.cat⟩
          have hf3 := hx2.lk.tk f hf
          show (0 ≤ f ∧ f < ((giveAll Z.q r.l).n : Int)) ∧ (giveAll Z.q r.l).tk.getD f.toNat false = true
          rw [giveAll_n, hg3 f hf3.1.1, if_neg ((hoth x hx).1 f hf)]
          exact hf3
        · have := hok.sum
          show freeN (giveAll Z.q r.l) + (lsum (r1 ++ r2) + 0) = (giveAll Z.q r.l).n
          rw [lsum_append] at this ⊢
          simp only [lsum] at this
          rw [hg2, giveAll_n]
          omega

theorem del_upd (id : Int) (y : FA) (hy : y.id = id) : ∀ L : List FA, delF id (updF id y L) = delF id L
  | [] => rfl
  | x :: r => by
    by_cases h : x.id = id
    · simp [updF, delF, h, hy]
    · simp [updF, delF, h, del_upd id y hy r]
theorem at_upd (id : Int) (y : FA) (hy : y.id = id) : ∀ L : List FA, atF id L ≠ none → atF id (updF id y L) = some y
  | [], h => absurd rfl h
  | x :: r, h => by
    by_cases hx : x.id = id
    · simp [updF, atF, hx, hy]
    · simp only [updF, if_neg hx, atF]
      unfold atF at h
      rw [if_neg hx] at h
      exact at_upd id y hy r h

def aDrop (Z : AS) (id : Int) : Int × AS := match atF id Z.L with
  | some f => (0, ⟨giveAll Z.q f.l, delF id Z.L⟩)
  | none => (4, Z)

theorem STok.del {q : Qs} {B : List Int} {r1 r2 : List PF} {r : PF} (h : STok q B (r1 ++ r :: r2)) (hl : r.l = []) : STok q B (r1 ++ r2) := by
  have hs : (r1 ++ r2).Sublist (r1 ++ r :: r2) := (List.Sublist.refl r1).append (List.sublist_cons_self r r2)
  refine ⟨fun x hx => h.each x (hs.subset hx), h.apart.sublist hs, h.ids.sublist hs, fun x hx => h.pos x (hs.subset hx), ?_⟩
  have := h.sum
  rw [lsum_append] at this ⊢
  simp only [lsum, hl, List.length_nil] at this
  omega

theorem st_drop (W0 : World) (C : Heap) (s d : Nat) (Z : AS) (c : List Blk) (h : ST s d Z c) (id : Int) :
    Does W0 Try.prog 23 #[.pointer (some ⟨s, 0, none⟩), .int .i64 id] (c :: C) (fun v C' => v = .int .i64 (aDrop Z id).1 ∧ ∃ c', ST s d (aDrop Z id).2 c' ∧ C' = c' :: C) := by
  have hcut := st_cut W0 C s d Z c h id
  unfold aCut at hcut
  unfold aDrop
  cases ha : atF id Z.L with
  | none =>
    rw [ha] at hcut
    refine Does.go Try.func23 rfl Try.results23 Try.ntmps23 rfl rfl ?_; (conv => whnf)
    repeat' (first | (with_reducible first | refine V.seq ?_ | refine V.block ?_ | refine V.ret ?_ | refine V.skip ?_ | refine V.exit ?_ | refine thenK_normal ?_ | refine thenK_ret ?_ | refine thenK_exit ?_ | refine blockK_normal ?_ | refine blockK_ret ?_ | refine blockK_here ?_ | refine loopK_ret ?_ | refine loopK_exit ?_ | refine Ops.nil ?_ | refine A.blockK_on (h := ?_)) | ((with_reducible first | refine A.drw tabOk ⟨[], [], []⟩ mixed (h := ?_) | refine A.reg tabOk (h := ?_) | refine And.intro (by omega) ?_ | refine A.load tabOk (h := ?_) | refine A.or tabOk (h := ?_) | refine A.and tabOk (h := ?_) | refine A.gopen tabOk (h := ?_) | refine A.gshutP tabOk (h := ?_) | refine A.gshutM tabOk (h := ?_) | refine A.gshutN tabOk (h := ?_) | refine A.pickT tabOk (h := ?_) | refine A.pickF tabOk (h := ?_) | refine A.gstep tabOk (h := ?_) | refine A.gload tabOk (h := ?_) | refine A.store tabOk (h := ?_) | refine A.loadL tabOk (h := ?_) | refine A.loadE tabOk (h := ?_) | refine A.storeL tabOk (h := ?_) | refine A.gloadL tabOk (h := ?_) | refine A.gloadE tabOk (h := ?_) | refine A.convS tabOk (h := ?_)); (conv => whnf)) | (with_reducible first | refine A.condT (hx := ?_) | refine A.condF (hy := ?_)) | fail)
    (with_reducible refine A.call tabOk (hs := hcut ) (h := ?_)); rintro _ _ ⟨rfl, c', hc', rfl⟩; refine ⟨(by with_unfolding_all first | exact Weak.refl _ | exact Weak.all _ | (repeat (first | exact Weak.refl _ | exact Weak.all _ | refine A.wpick (k := ?_) | apply Weak.drop))), ?_⟩; (conv => whnf)
    repeat' (first | (with_reducible first | refine V.seq ?_ | refine V.block ?_ | refine V.ret ?_ | refine V.skip ?_ | refine V.exit ?_ | refine thenK_normal ?_ | refine thenK_ret ?_ | refine thenK_exit ?_ | refine blockK_normal ?_ | refine blockK_ret ?_ | refine blockK_here ?_ | refine loopK_ret ?_ | refine loopK_exit ?_ | refine Ops.nil ?_ | refine A.blockK_on (h := ?_)) | ((with_reducible first | refine A.drw tabOk ⟨[], [], []⟩ mixed (h := ?_) | refine A.reg tabOk (h := ?_) | refine And.intro (by omega) ?_ | refine A.load tabOk (h := ?_) | refine A.or tabOk (h := ?_) | refine A.and tabOk (h := ?_) | refine A.gopen tabOk (h := ?_) | refine A.gshutP tabOk (h := ?_) | refine A.gshutM tabOk (h := ?_) | refine A.gshutN tabOk (h := ?_) | refine A.pickT tabOk (h := ?_) | refine A.pickF tabOk (h := ?_) | refine A.gstep tabOk (h := ?_) | refine A.gload tabOk (h := ?_) | refine A.store tabOk (h := ?_) | refine A.loadL tabOk (h := ?_) | refine A.loadE tabOk (h := ?_) | refine A.storeL tabOk (h := ?_) | refine A.gloadL tabOk (h := ?_) | refine A.gloadE tabOk (h := ?_) | refine A.convS tabOk (h := ?_)); (conv => whnf)) | (with_reducible first | refine A.condT (hx := ?_) | refine A.condF (hy := ?_)) | fail)
    exact retK_ret rfl (by first | exact Weak.refl _ | exact Weak.all _ | (repeat (first | exact Weak.refl _ | exact Weak.all _ | refine A.wpick (k := ?_) | apply Weak.drop))) ⟨rfl, c', hc', rfl⟩
  | some f =>
    rw [ha] at hcut
    have hat := at_upd id ⟨id, [], []⟩ rfl Z.L (by rw [ha]; simp)
    have hopen : Does W0 Try.prog 30 #[.pointer (some ⟨s, 0, none⟩), .int .i64 id] (c :: C) (fun v C' => v = .int .i64 0 ∧ ∃ B m clock r1 r r2 fc, FM d (giveAll Z.q f.l) B fc ∧ delF id Z.L = (r1 ++ r2).map PF.fa ∧ STok (giveAll Z.q f.l) B (r1 ++ r2) ∧ mdel id ((r1 ++ r :: r2).map PF.ent) = (r1 ++ r2).map PF.ent ∧
        C' = stC s d m :: mapC m ((r1 ++ r :: r2).map PF.ent) clock :: fc :: fileC r.p r.bytes.length r.v :: r.c :: filesC r1 :: filesC r2 :: C) := by
      refine hcut.post ?_
      rintro v C' ⟨rfl, c', ⟨B, m, clock, recs, fc, rfl, hf, hL, hok⟩, rfl⟩
      have hL : updF id ⟨id, [], []⟩ Z.L = recs.map PF.fa := hL
      rw [hL] at hat
      rcases found id recs with ⟨h1, h2, h3⟩ | ⟨r1, r, r2, rfl, hid, h1, h2, h3⟩
      · rw [h3] at hat
        cases hat
      · rw [h3] at hat
        have hrl : r.l = [] := congrArg FA.l (Option.some.inj hat)
        have hdel := del_upd id ⟨id, [], []⟩ rfl Z.L
        rw [hL, del_at id r1 r r2 hid h1] at hdel
        exact ⟨_, st_open1 _ _ _ _ _ _ _, rfl, B, m, clock, r1, r, r2, fc, hf, hdel.symm, hok.del hrl, mdel_at id r1 r r2 hid h1, rfl⟩
    refine Does.go Try.func23 rfl Try.results23 Try.ntmps23 rfl rfl ?_; (conv => whnf)
    repeat' (first | (with_reducible first | refine V.seq ?_ | refine V.block ?_ | refine V.ret ?_ | refine V.skip ?_ | refine V.exit ?_ | refine thenK_normal ?_ | refine thenK_ret ?_ | refine thenK_exit ?_ | refine blockK_normal ?_ | refine blockK_ret ?_ | refine blockK_here ?_ | refine loopK_ret ?_ | refine loopK_exit ?_ | refine Ops.nil ?_ | refine A.blockK_on (h := ?_)) | ((with_reducible first | refine A.drw tabOk ⟨[], [], []⟩ mixed (h := ?_) | refine A.reg tabOk (h := ?_) | refine And.intro (by omega) ?_ | refine A.load tabOk (h := ?_) | refine A.or tabOk (h := ?_) | refine A.and tabOk (h := ?_) | refine A.gopen tabOk (h := ?_) | refine A.gshutP tabOk (h := ?_) | refine A.gshutM tabOk (h := ?_) | refine A.gshutN tabOk (h := ?_) | refine A.pickT tabOk (h := ?_) | refine A.pickF tabOk (h := ?_) | refine A.gstep tabOk (h := ?_) | refine A.gload tabOk (h := ?_) | refine A.store tabOk (h := ?_) | refine A.loadL tabOk (h := ?_) | refine A.loadE tabOk (h := ?_) | refine A.storeL tabOk (h := ?_) | refine A.gloadL tabOk (h := ?_) | refine A.gloadE tabOk (h := ?_) | refine A.convS tabOk (h := ?_)); (conv => whnf)) | (with_reducible first | refine A.condT (hx := ?_) | refine A.condF (hy := ?_)) | fail)
    (with_reducible refine A.call tabOk (hs := hopen ) (h := ?_)); rintro _ _ ⟨rfl, B, m, clock, r1, r, r2, fc, hf, hL, hok, hmd, rfl⟩; refine ⟨(by with_unfolding_all first | exact Weak.refl _ | exact Weak.all _ | (repeat (first | exact Weak.refl _ | exact Weak.all _ | refine A.wpick (k := ?_) | apply Weak.drop))), ?_⟩; (conv => whnf)
    repeat' (first | (with_reducible first | refine V.seq ?_ | refine V.block ?_ | refine V.ret ?_ | refine V.skip ?_ | refine V.exit ?_ | refine thenK_normal ?_ | refine thenK_ret ?_ | refine thenK_exit ?_ | refine blockK_normal ?_ | refine blockK_ret ?_ | refine blockK_here ?_ | refine loopK_ret ?_ | refine loopK_exit ?_ | refine Ops.nil ?_ | refine A.blockK_on (h := ?_)) | ((with_reducible first | refine A.drw tabOk ⟨[], [], []⟩ mixed (h := ?_) | refine A.reg tabOk (h := ?_) | refine And.intro (by omega) ?_ | refine A.load tabOk (h := ?_) | refine A.or tabOk (h := ?_) | refine A.and tabOk (h := ?_) | refine A.gopen tabOk (h := ?_) | refine A.gshutP tabOk (h := ?_) | refine A.gshutM tabOk (h := ?_) | refine A.gshutN tabOk (h := ?_) | refine A.pickT tabOk (h := ?_) | refine A.pickF tabOk (h := ?_) | refine A.gstep tabOk (h := ?_) | refine A.gload tabOk (h := ?_) | refine A.store tabOk (h := ?_) | refine A.loadL tabOk (h := ?_) | refine A.loadE tabOk (h := ?_) | refine A.storeL tabOk (h := ?_) | refine A.gloadL tabOk (h := ?_) | refine A.gloadE tabOk (h := ?_) | refine A.convS tabOk (h := ?_)); (conv => whnf)) | (with_reducible first | refine A.condT (hx := ?_) | refine A.condF (hy := ?_)) | fail)
    (with_reducible refine A.mapDel tabOk (hC := (by first | exact Weak.refl _ | exact Weak.all _ | (repeat (first | exact Weak.refl _ | exact Weak.all _ | refine A.wpick (k := ?_) | apply Weak.drop)) : Weak _ (mapC m ((r1 ++ r :: r2).map PF.ent) clock :: stC s d m :: fc :: filesC r1 :: filesC r2 :: C))) (h := ?_)); (conv => whnf)
    rw [hmd]
    repeat' (first | (with_reducible first | refine V.seq ?_ | refine V.block ?_ | refine V.ret ?_ | refine V.skip ?_ | refine V.exit ?_ | refine thenK_normal ?_ | refine thenK_ret ?_ | refine thenK_exit ?_ | refine blockK_normal ?_ | refine blockK_ret ?_ | refine blockK_here ?_ | refine loopK_ret ?_ | refine loopK_exit ?_ | refine Ops.nil ?_ | refine A.blockK_on (h := ?_)) | ((with_reducible first | refine A.drw tabOk ⟨[], [], []⟩ mixed (h := ?_) | refine A.reg tabOk (h := ?_) | refine And.intro (by omega) ?_ | refine A.load tabOk (h := ?_) | refine A.or tabOk (h := ?_) | refine A.and tabOk (h := ?_) | refine A.gopen tabOk (h := ?_) | refine A.gshutP tabOk (h := ?_) | refine A.gshutM tabOk (h := ?_) | refine A.gshutN tabOk (h := ?_) | refine A.pickT tabOk (h := ?_) | refine A.pickF tabOk (h := ?_) | refine A.gstep tabOk (h := ?_) | refine A.gload tabOk (h := ?_) | refine A.store tabOk (h := ?_) | refine A.loadL tabOk (h := ?_) | refine A.loadE tabOk (h := ?_) | refine A.storeL tabOk (h := ?_) | refine A.gloadL tabOk (h := ?_) | refine A.gloadE tabOk (h := ?_) | refine A.convS tabOk (h := ?_)); (conv => whnf)) | (with_reducible first | refine A.condT (hx := ?_) | refine A.condF (hy := ?_)) | fail)
    refine retK_ret rfl ?_ ⟨rfl, _, ⟨B, m, clock, r1 ++ r2, fc, rfl, hf, hL, hok⟩, rfl⟩
    rw [show filesC (r1 ++ r2) = filesC r1 ++ filesC r2 by simp [filesC]]
    refine (by first | exact Weak.refl _ | exact Weak.all _ | (repeat (first | exact Weak.refl _ | exact Weak.all _ | refine A.wpick (k := ?_) | apply Weak.drop)) : Weak _ (stC s d m :: mapC m ((r1 ++ r2).map PF.ent) clock :: fc :: filesC r1 :: filesC r2 :: C)).trans ?_
    exact ((((Weak.join _ _ _).cons _).cons _).cons _).trans (st_shut _ _ _ _ _)
end Go.Proofs.Ytofcmcgopdhfeaa
