/- A part of the proofs: what functions of the program do, each by its own contract; printed by a program of mine. No conditions but those that each theorem names. -/
import Derived.Test.YtofcmcgopdhfeaaS7
namespace Go.Proofs.Ytofcmcgopdhfeaa
open Eng
set_option maxRecDepth 100000
set_option maxHeartbeats 4000000

theorem FM.ok {d : Nat} {q : Qs} {B : List Int} {c : List Blk} (h : FM d q B c) : QOk q := by obtain ⟨_, _, _, _, _, _, h, _⟩ := h; exact h
theorem FM.blen {d : Nat} {q : Qs} {B : List Int} {c : List Blk} (h : FM d q B c) : B.length = q.n * 64 := by obtain ⟨_, _, _, _, _, _, _, h⟩ := h; exact h

/-- Frames of a file: all of them there, none twice. -/
structure LOk (q : Qs) (l : List Int) : Prop where
  nd : l.Nodup
  tk : ∀ f ∈ l, (0 ≤ f ∧ f < q.n) ∧ q.tk.getD f.toNat false = true

theorem pieces_w (W0 : World) (C : Heap) (d p : Nat) (q : Qs) (B : List Int) (c : List Blk) (h : FM d q B c) (l : List Int) (lv : Value) (hlk : LOk q l) (hx : Rd W0 C ⟨p, 1, none⟩ lv) (hl : RdS W0 C 1 lv l.length (ints l))
    (bs s bw : Nat) (v : Value) (ys : List Int) (hs : Sees W0 C bs s d) (hw : Rd W0 C ⟨bw, 0, none⟩ v) (hv : RdS W0 C 1 v ys.length (u8s ys)) (off : Nat) (hn : off + ys.length ≤ l.length * 64) (hll : l.length ≤ 1000) :
    Does W0 Try.prog 38 #[.pointer (some ⟨p, 0, none⟩), .int .i64 off, .int .i64 ys.length, .func (.func 39) #[] #[.pointer (some ⟨bs, 0, none⟩), .pointer (some ⟨bw, 0, none⟩)]] (c :: C)
      (fun v C' => v = .tuple #[] ∧ ∃ B' c', FM d q B' c' ∧ cat B' l = putB (cat B l) off ys ∧ (∀ l2 : List Int, (∀ f ∈ l2, 0 ≤ f ∧ f ∉ l) → cat B' l2 = cat B l2) ∧ C' = c' :: C) := by
  have hqn := h.ok.n2
  have hfit : ∀ (B1 : List Int) (c1 : List Blk), FM d q B1 c1 → ∀ f ∈ l, 0 ≤ f ∧ f.toNat * 64 + 64 ≤ B1.length := fun B1 c1 hf1 f hf => by
    have := (hlk.tk f hf).1
    have := hf1.blen
    omega
  have hcl := cat_len B l (fun f hf => (hfit B c h f hf).2)
  refine Does.go Try.func38 rfl Try.results38 Try.ntmps38 rfl rfl ?_; (conv => whnf)
  repeat' (first | (with_reducible first | refine V.seq ?_ | refine V.block ?_ | refine V.ret ?_ | refine V.skip ?_ | refine V.exit ?_ | refine thenK_normal ?_ | refine thenK_ret ?_ | refine thenK_exit ?_ | refine blockK_normal ?_ | refine blockK_ret ?_ | refine blockK_here ?_ | refine loopK_ret ?_ | refine loopK_exit ?_ | refine Ops.nil ?_ | refine A.blockK_on (h := ?_)) | ((with_reducible first | refine A.drw tabOk ⟨[], [], []⟩ mixed (h := ?_) | refine A.reg tabOk (h := ?_) | refine And.intro (by omega) ?_ | refine A.load tabOk (h := ?_) | refine A.or tabOk (h := ?_) | refine A.and tabOk (h := ?_) | refine A.gopen tabOk (h := ?_) | refine A.gshutP tabOk (h := ?_) | refine A.gshutM tabOk (h := ?_) | refine A.gshutN tabOk (h := ?_) | refine A.pickT tabOk (h := ?_) | refine A.pickF tabOk (h := ?_) | refine A.gstep tabOk (h := ?_) | refine A.gload tabOk (h := ?_) | refine A.store tabOk (h := ?_) | refine A.loadL tabOk (h := ?_) | refine A.loadE tabOk (h := ?_) | refine A.storeL tabOk (h := ?_) | refine A.gloadL tabOk (h := ?_) | refine A.gloadE tabOk (h := ?_) | refine A.convS tabOk (h := ?_)); (conv => whnf)) | (with_reducible first | refine A.condT (hx := ?_) | refine A.condF (hy := ?_)) | fail)
  refine V.loop (G := {g : Nat × List Int × List Blk // g.1 ≤ ys.length ∧ FM d q g.2.1 g.2.2 ∧ cat g.2.1 l = putB (cat B l) off (ys.take g.1) ∧ ∀ l2 : List Int, (∀ f ∈ l2, 0 ≤ f ∧ f ∉ l) → cat g.2.1 l2 = cat B l2})
    (fun g => [(0, true, .pointer (some ⟨p, 0, none⟩)), (1, true, .int .i64 off), (2, true, .int .i64 ys.length), (3, true, .func (.func 39) #[] #[.pointer (some ⟨bs, 0, none⟩), .pointer (some ⟨bw, 0, none⟩)]), (8, true, .int .i64 g.1.1)])
    (fun g => g.1.2.2 :: C) (fun g => ys.length - g.1.1) ⟨(0, B, c), by omega, h, by simp [putB], fun _ _ => rfl⟩ (by with_unfolding_all repeat (first | exact trivial | refine And.intro rfl ?_)) (Weak.refl _) ?_
  rintro ⟨⟨dn, B1, c1⟩, hdn, h1, hcat, hoth⟩
  dsimp only at hdn h1 hcat hoth
  dsimp only
  by_cases hlt : dn < ys.length
  · have hj : (off + dn) / 64 < l.length := by omega
    obtain ⟨lo, lc, rfl, hlc, hlr⟩ := hl.form
    obtain ⟨lb, lf, rfl, lr⟩ := hlr (by omega)
    have g1 := hx.mono (Weak.skip c1 C)
    have g2 := (lr.mono (Weak.skip c1 C)).int (k := (off + dn) / 64) hj
    rw [show (((off + dn) / 64 : Nat) : Int) = ((off : Int) + dn) / 64 by omega] at g2
    have e1 : ((off : Int) + dn) % 64 = ((off + dn) % 64 : Nat) := by omega
    have e2 : min ((ys.length : Int) - dn) (64 - ((off : Int) + dn) % 64) = (min (ys.length - dn) (64 - (off + dn) % 64) : Nat) := by omega
    have hm := List.getElem_mem hj
    have hlj := hlk.tk _ hm
    have hfj := hfit B1 c1 h1 _ hm
    repeat' (first | (with_reducible first | refine V.seq ?_ | refine V.block ?_ | refine V.ret ?_ | refine V.skip ?_ | refine V.exit ?_ | refine thenK_normal ?_ | refine thenK_ret ?_ | refine thenK_exit ?_ | refine blockK_normal ?_ | refine blockK_ret ?_ | refine blockK_here ?_ | refine loopK_ret ?_ | refine loopK_exit ?_ | refine Ops.nil ?_ | refine A.blockK_on (h := ?_)) | ((with_reducible first | refine A.drw tabOk ⟨[], [], []⟩ mixed (h := ?_) | refine A.reg tabOk (h := ?_) | refine And.intro (by omega) ?_ | refine A.load tabOk (h := ?_) | refine A.or tabOk (h := ?_) | refine A.and tabOk (h := ?_) | refine A.gopen tabOk (h := ?_) | refine A.gshutP tabOk (h := ?_) | refine A.gshutM tabOk (h := ?_) | refine A.gshutN tabOk (h := ?_) | refine A.pickT tabOk (h := ?_) | refine A.pickF tabOk (h := ?_) | refine A.gstep tabOk (h := ?_) | refine A.gload tabOk (h := ?_) | refine A.store tabOk (h := ?_) | refine A.loadL tabOk (h := ?_) | refine A.loadE tabOk (h := ?_) | refine A.storeL tabOk (h := ?_) | refine A.gloadL tabOk (h := ?_) | refine A.gloadE tabOk (h := ?_) | refine A.convS tabOk (h := ?_)); (conv => whnf)) | (with_reducible first | refine A.condT (hx := ?_) | refine A.condF (hy := ?_)) | fail)
    rw [e2, e1]
    generalize ho : (off + dn) % 64 = o at *
    generalize hk : min (ys.length - dn) (64 - o) = k at *
    generalize hjj : (off + dn) / 64 = j at *
    (with_reducible refine A.callV tabOk (hs := wr1_s W0 C d q B1 c1 h1 l[j] o k dn ys.length bs s bw v ys hs hw hv (by omega) (by omega) (by omega) hlj.1 hlj.2 (by omega) ) (h := ?_)); rintro _ _ ⟨rfl, c2, h2, rfl⟩; refine ⟨(by with_unfolding_all first | exact Weak.refl _ | exact Weak.all _ | (repeat (first | exact Weak.refl _ | exact Weak.all _ | refine A.wpick (k := ?_) | apply Weak.drop))), ?_⟩; (conv => whnf)
    repeat' (first | (with_reducible first | refine V.seq ?_ | refine V.block ?_ | refine V.ret ?_ | refine V.skip ?_ | refine V.exit ?_ | refine thenK_normal ?_ | refine thenK_ret ?_ | refine thenK_exit ?_ | refine blockK_normal ?_ | refine blockK_ret ?_ | refine blockK_here ?_ | refine loopK_ret ?_ | refine loopK_exit ?_ | refine Ops.nil ?_ | refine A.blockK_on (h := ?_)) | ((with_reducible first | refine A.drw tabOk ⟨[], [], []⟩ mixed (h := ?_) | refine A.reg tabOk (h := ?_) | refine And.intro (by omega) ?_ | refine A.load tabOk (h := ?_) | refine A.or tabOk (h := ?_) | refine A.and tabOk (h := ?_) | refine A.gopen tabOk (h := ?_) | refine A.gshutP tabOk (h := ?_) | refine A.gshutM tabOk (h := ?_) | refine A.gshutN tabOk (h := ?_) | refine A.pickT tabOk (h := ?_) | refine A.pickF tabOk (h := ?_) | refine A.gstep tabOk (h := ?_) | refine A.gload tabOk (h := ?_) | refine A.store tabOk (h := ?_) | refine A.loadL tabOk (h := ?_) | refine A.loadE tabOk (h := ?_) | refine A.storeL tabOk (h := ?_) | refine A.gloadL tabOk (h := ?_) | refine A.gloadE tabOk (h := ?_) | refine A.convS tabOk (h := ?_)); (conv => whnf)) | (with_reducible first | refine A.condT (hx := ?_) | refine A.condF (hy := ?_)) | fail)
    have hyk : ((ys.drop dn).take k).length = k := by rw [List.length_take, List.length_drop]; omega
    have hcp := cat_put B1 ((ys.drop dn).take k) o (by omega) l j hj hlk.nd (fun f hf => hfit B1 c1 h1 f hf)
    rw [hcat, show j * 64 + o = off + dn by omega, put_more (cat B l) off ys dn k (by omega) (by omega)] at hcp
    have hoth2 : ∀ l2 : List Int, (∀ f ∈ l2, 0 ≤ f ∧ f ∉ l) → cat (putB B1 (l[j].toNat * 64 + o) ((ys.drop dn).take k)) l2 = cat B l2 := fun l2 hl2 => by
      rw [cat_put_other B1 ((ys.drop dn).take k) o (by omega) l[j] hfj l2 (fun hm2 => (hl2 _ hm2).2 hm) (fun g hg => (hl2 g hg).1)]
      exact hoth l2 hl2
    exact loopK_again ⟨(dn + k, _, c2), by dsimp only; exact ⟨by omega, h2, hcp, hoth2⟩⟩ (by with_unfolding_all repeat (first | exact trivial | refine And.intro rfl ?_)) (Weak.refl _) (by dsimp only; omega)
  · obtain rfl : dn = ys.length := by omega
    rw [List.take_length] at hcat
    repeat' (first | (with_reducible first | refine V.seq ?_ | refine V.block ?_ | refine V.ret ?_ | refine V.skip ?_ | refine V.exit ?_ | refine thenK_normal ?_ | refine thenK_ret ?_ | refine thenK_exit ?_ | refine blockK_normal ?_ | refine blockK_ret ?_ | refine blockK_here ?_ | refine loopK_ret ?_ | refine loopK_exit ?_ | refine Ops.nil ?_ | refine A.blockK_on (h := ?_)) | ((with_reducible first | refine A.drw tabOk ⟨[], [], []⟩ mixed (h := ?_) | refine A.reg tabOk (h := ?_) | refine And.intro (by omega) ?_ | refine A.load tabOk (h := ?_) | refine A.or tabOk (h := ?_) | refine A.and tabOk (h := ?_) | refine A.gopen tabOk (h := ?_) | refine A.gshutP tabOk (h := ?_) | refine A.gshutM tabOk (h := ?_) | refine A.gshutN tabOk (h := ?_) | refine A.pickT tabOk (h := ?_) | refine A.pickF tabOk (h := ?_) | refine A.gstep tabOk (h := ?_) | refine A.gload tabOk (h := ?_) | refine A.store tabOk (h := ?_) | refine A.loadL tabOk (h := ?_) | refine A.loadE tabOk (h := ?_) | refine A.storeL tabOk (h := ?_) | refine A.gloadL tabOk (h := ?_) | refine A.gloadE tabOk (h := ?_) | refine A.convS tabOk (h := ?_)); (conv => whnf)) | (with_reducible first | refine A.condT (hx := ?_) | refine A.condF (hy := ?_)) | fail)
    exact retK_end rfl (Weak.refl _) ⟨rfl, B1, c1, h1, hcat, hoth, rfl⟩

theorem pieces_r (W0 : World) (C : Heap) (d p : Nat) (q : Qs) (B : List Int) (c : List Blk) (h : FM d q B c) (l : List Int) (lv : Value) (hlk : LOk q l) (hx : Rd W0 C ⟨p, 1, none⟩ lv) (hl : RdS W0 C 1 lv l.length (ints l))
    (bs s bw : Nat) (hs : Sees W0 C bs s d) (off n : Nat) (hn : off + n ≤ l.length * 64) (hll : l.length ≤ 1000) :
    Does W0 Try.prog 38 #[.pointer (some ⟨p, 0, none⟩), .int .i64 off, .int .i64 n, .func (.func 41) #[] #[.pointer (some ⟨bs, 0, none⟩), .pointer (some ⟨bw, 0, none⟩)]] ([(bw, Obj.cells [Value.slice none 0 0].toArray 23 (0, 0))] :: c :: C)
      (fun v C' => v = .tuple #[] ∧ ∃ v' cs', Slc 5 1 v' n (u8s (subB (cat B l) off n)) cs' ∧ C' = [(bw, Obj.cells [v'].toArray 23 (0, 0))] :: cs' :: c :: C) := by
  have hqn := h.ok.n2
  have hfit : ∀ f ∈ l, 0 ≤ f ∧ f.toNat * 64 + 64 ≤ B.length := fun f hf => by
    have := (hlk.tk f hf).1
    have := h.blen
    omega
  have hcl := cat_len B l (fun f hf => (hfit f hf).2)
  refine Does.go Try.func38 rfl Try.results38 Try.ntmps38 rfl rfl ?_; (conv => whnf)
  repeat' (first | (with_reducible first | refine V.seq ?_ | refine V.block ?_ | refine V.ret ?_ | refine V.skip ?_ | refine V.exit ?_ | refine thenK_normal ?_ | refine thenK_ret ?_ | refine thenK_exit ?_ | refine blockK_normal ?_ | refine blockK_ret ?_ | refine blockK_here ?_ | refine loopK_ret ?_ | refine loopK_exit ?_ | refine Ops.nil ?_ | refine A.blockK_on (h := ?_)) | ((with_reducible first | refine A.drw tabOk ⟨[], [], []⟩ mixed (h := ?_) | refine A.reg tabOk (h := ?_) | refine And.intro (by omega) ?_ | refine A.load tabOk (h := ?_) | refine A.or tabOk (h := ?_) | refine A.and tabOk (h := ?_) | refine A.gopen tabOk (h := ?_) | refine A.gshutP tabOk (h := ?_) | refine A.gshutM tabOk (h := ?_) | refine A.gshutN tabOk (h := ?_) | refine A.pickT tabOk (h := ?_) | refine A.pickF tabOk (h := ?_) | refine A.gstep tabOk (h := ?_) | refine A.gload tabOk (h := ?_) | refine A.store tabOk (h := ?_) | refine A.loadL tabOk (h := ?_) | refine A.loadE tabOk (h := ?_) | refine A.storeL tabOk (h := ?_) | refine A.gloadL tabOk (h := ?_) | refine A.gloadE tabOk (h := ?_) | refine A.convS tabOk (h := ?_)); (conv => whnf)) | (with_reducible first | refine A.condT (hx := ?_) | refine A.condF (hy := ?_)) | fail)
  refine V.loop (G := {g : Nat × Value × List Blk // g.1 ≤ n ∧ Slc 5 1 g.2.1 g.1 (u8s (subB (cat B l) off g.1)) g.2.2})
    (fun g => [(0, true, .pointer (some ⟨p, 0, none⟩)), (1, true, .int .i64 off), (2, true, .int .i64 n), (3, true, .func (.func 41) #[] #[.pointer (some ⟨bs, 0, none⟩), .pointer (some ⟨bw, 0, none⟩)]), (8, true, .int .i64 g.1.1)])
    (fun g => [(bw, Obj.cells [g.1.2.1].toArray 23 (0, 0))] :: g.1.2.2 :: c :: C) (fun g => n - g.1.1) ⟨(0, .slice none 0 0, []), by omega, by simpa [subB, u8s] using Slc.nil 5 1⟩ (by with_unfolding_all repeat (first | exact trivial | refine And.intro rfl ?_)) ((Weak.nil _).cons _) ?_
  rintro ⟨⟨dn, v1, c1⟩, hdn, h1⟩
  dsimp only at hdn h1
  dsimp only
  by_cases hlt : dn < n
  · have hj : (off + dn) / 64 < l.length := by omega
    obtain ⟨lo, lc, rfl, hlc, hlr⟩ := hl.form
    obtain ⟨lb, lf, rfl, lr⟩ := hlr (by omega)
    have g1 := hx.mono (C := [(bw, Obj.cells [v1].toArray 23 (0, 0))] :: c1 :: c :: C) (by first | exact Weak.refl _ | exact Weak.all _ | (repeat (first | exact Weak.refl _ | exact Weak.all _ | refine A.wpick (k := ?_) | apply Weak.drop)))
    have g2 := (lr.mono (C := [(bw, Obj.cells [v1].toArray 23 (0, 0))] :: c1 :: c :: C) (by first | exact Weak.refl _ | exact Weak.all _ | (repeat (first | exact Weak.refl _ | exact Weak.all _ | refine A.wpick (k := ?_) | apply Weak.drop)))).int (k := (off + dn) / 64) hj
    rw [show (((off + dn) / 64 : Nat) : Int) = ((off : Int) + dn) / 64 by omega] at g2
    have e1 : ((off : Int) + dn) % 64 = ((off + dn) % 64 : Nat) := by omega
    have e2 : min ((n : Int) - dn) (64 - ((off : Int) + dn) % 64) = (min (n - dn) (64 - (off + dn) % 64) : Nat) := by omega
    have hm := List.getElem_mem hj
    have hlj := hlk.tk _ hm
    repeat' (first | (with_reducible first | refine V.seq ?_ | refine V.block ?_ | refine V.ret ?_ | refine V.skip ?_ | refine V.exit ?_ | refine thenK_normal ?_ | refine thenK_ret ?_ | refine thenK_exit ?_ | refine blockK_normal ?_ | refine blockK_ret ?_ | refine blockK_here ?_ | refine loopK_ret ?_ | refine loopK_exit ?_ | refine Ops.nil ?_ | refine A.blockK_on (h := ?_)) | ((with_reducible first | refine A.drw tabOk ⟨[], [], []⟩ mixed (h := ?_) | refine A.reg tabOk (h := ?_) | refine And.intro (by omega) ?_ | refine A.load tabOk (h := ?_) | refine A.or tabOk (h := ?_) | refine A.and tabOk (h := ?_) | refine A.gopen tabOk (h := ?_) | refine A.gshutP tabOk (h := ?_) | refine A.gshutM tabOk (h := ?_) | refine A.gshutN tabOk (h := ?_) | refine A.pickT tabOk (h := ?_) | refine A.pickF tabOk (h := ?_) | refine A.gstep tabOk (h := ?_) | refine A.gload tabOk (h := ?_) | refine A.store tabOk (h := ?_) | refine A.loadL tabOk (h := ?_) | refine A.loadE tabOk (h := ?_) | refine A.storeL tabOk (h := ?_) | refine A.gloadL tabOk (h := ?_) | refine A.gloadE tabOk (h := ?_) | refine A.convS tabOk (h := ?_)); (conv => whnf)) | (with_reducible first | refine A.condT (hx := ?_) | refine A.condF (hy := ?_)) | fail)
    rw [e2, e1]
    generalize ho : (off + dn) % 64 = o at *
    generalize hk : min (n - dn) (64 - o) = k at *
    generalize hjj : (off + dn) / 64 = j at *
    have hsl := subB_len (cat B l) off dn (by omega)
    have hcs := cat_sub B o k (by omega) l j hj (fun f hf => (hfit f hf).2)
    have h1' := h1
    rw [← hsl] at h1'
    rw [hsl] at h1'
    (with_reducible refine A.callV tabOk (hs := rd1_s W0 C d q B c h l[j] o k dn bs s bw v1 (subB (cat B l) off dn) c1 hs (by rw [hsl]; exact h1) (by omega) hlj.1 hlj.2 (by omega) ) (h := ?_)); rintro _ _ ⟨rfl, v2, c2, h2, rfl⟩; refine ⟨(by with_unfolding_all first | exact Weak.refl _ | exact Weak.all _ | (repeat (first | exact Weak.refl _ | exact Weak.all _ | refine A.wpick (k := ?_) | apply Weak.drop))), ?_⟩; (conv => whnf)
    repeat' (first | (with_reducible first | refine V.seq ?_ | refine V.block ?_ | refine V.ret ?_ | refine V.skip ?_ | refine V.exit ?_ | refine thenK_normal ?_ | refine thenK_ret ?_ | refine thenK_exit ?_ | refine blockK_normal ?_ | refine blockK_ret ?_ | refine blockK_here ?_ | refine loopK_ret ?_ | refine loopK_exit ?_ | refine Ops.nil ?_ | refine A.blockK_on (h := ?_)) | ((with_reducible first | refine A.drw tabOk ⟨[], [], []⟩ mixed (h := ?_) | refine A.reg tabOk (h := ?_) | refine And.intro (by omega) ?_ | refine A.load tabOk (h := ?_) | refine A.or tabOk (h := ?_) | refine A.and tabOk (h := ?_) | refine A.gopen tabOk (h := ?_) | refine A.gshutP tabOk (h := ?_) | refine A.gshutM tabOk (h := ?_) | refine A.gshutN tabOk (h := ?_) | refine A.pickT tabOk (h := ?_) | refine A.pickF tabOk (h := ?_) | refine A.gstep tabOk (h := ?_) | refine A.gload tabOk (h := ?_) | refine A.store tabOk (h := ?_) | refine A.loadL tabOk (h := ?_) | refine A.loadE tabOk (h := ?_) | refine A.storeL tabOk (h := ?_) | refine A.gloadL tabOk (h := ?_) | refine A.gloadE tabOk (h := ?_) | refine A.convS tabOk (h := ?_)); (conv => whnf)) | (with_reducible first | refine A.condT (hx := ?_) | refine A.condF (hy := ?_)) | fail)
    rw [hsl, hcs, show j * 64 + o = off + dn by omega, (sub_step (cat B l) off dn k).resolve_right (by omega)] at h2
    exact loopK_again ⟨(dn + k, v2, c2), by dsimp only; exact ⟨by omega, h2⟩⟩ (by with_unfolding_all repeat (first | exact trivial | refine And.intro rfl ?_)) (Weak.refl _) (by dsimp only; omega)
  · obtain rfl : dn = n := by omega
    repeat' (first | (with_reducible first | refine V.seq ?_ | refine V.block ?_ | refine V.ret ?_ | refine V.skip ?_ | refine V.exit ?_ | refine thenK_normal ?_ | refine thenK_ret ?_ | refine thenK_exit ?_ | refine blockK_normal ?_ | refine blockK_ret ?_ | refine blockK_here ?_ | refine loopK_ret ?_ | refine loopK_exit ?_ | refine Ops.nil ?_ | refine A.blockK_on (h := ?_)) | ((with_reducible first | refine A.drw tabOk ⟨[], [], []⟩ mixed (h := ?_) | refine A.reg tabOk (h := ?_) | refine And.intro (by omega) ?_ | refine A.load tabOk (h := ?_) | refine A.or tabOk (h := ?_) | refine A.and tabOk (h := ?_) | refine A.gopen tabOk (h := ?_) | refine A.gshutP tabOk (h := ?_) | refine A.gshutM tabOk (h := ?_) | refine A.gshutN tabOk (h := ?_) | refine A.pickT tabOk (h := ?_) | refine A.pickF tabOk (h := ?_) | refine A.gstep tabOk (h := ?_) | refine A.gload tabOk (h := ?_) | refine A.store tabOk (h := ?_) | refine A.loadL tabOk (h := ?_) | refine A.loadE tabOk (h := ?_) | refine A.storeL tabOk (h := ?_) | refine A.gloadL tabOk (h := ?_) | refine A.gloadE tabOk (h := ?_) | refine A.convS tabOk (h := ?_)); (conv => whnf)) | (with_reducible first | refine A.condT (hx := ?_) | refine A.condF (hy := ?_)) | fail)
    exact retK_end rfl (Weak.refl _) ⟨rfl, v1, c1, h1, rfl⟩
end Go.Proofs.Ytofcmcgopdhfeaa
