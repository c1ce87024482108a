/- A part of the proofs: what functions of the program do, each by its own contract; printed by a program of mine. No conditions but those that each theorem names. -/
import Derived.Test.YtofcmcgopdhfeaaS15
namespace Go.Proofs.Ytofcmcgopdhfeaa
open Eng Go.RowKit
set_option maxRecDepth 100000
set_option maxHeartbeats 4000000

structure ActS where
  op : Int
  id : Int
  off : Int
  n : Int
  b : Value
def actL (x : ActS) : List Value := [.int .i64 x.op, .int .i64 x.id, .int .i64 x.off, .int .i64 x.n, x.b]
def actL_ok (W : World) (x : ActS) : Prop := (-9223372036854775808 ≤ x.op ∧ x.op ≤ 9223372036854775807) ∧ (-9223372036854775808 ≤ x.id ∧ x.id ≤ 9223372036854775807) ∧ (-9223372036854775808 ≤ x.off ∧ x.off ≤ 9223372036854775807) ∧ (-9223372036854775808 ≤ x.n ∧ x.n ≤ 9223372036854775807) ∧ (∃ n l, RdS W [] 1 x.b n (List.map (fun x : Int => [Value.int .u8 x]) l).flatten ∧ n ≤ maxLen ∧ List.length l = n ∧ ∀ y ∈ l, (Lit.int .u8 y).wf = true)
theorem actL_in {H : Type} {enc : TypeId × Value → H} {W : World} {c : List Value} (h : Reads enc Try.prog W 35 c) : ∃ x : ActS, c = actL x ∧ actL_ok W x := by
  have hlen := h.slen Try.underlying35
  rw [show Try.prog.cellsOf 35 = 5 by kernel_rfl] at hlen
  match c, hlen with
  | [a0, a1, a2, a3, a4], _ =>
    have e0 : Reads enc Try.prog W 3 [a0] := h.fieldAt Try.underlying35 (i := 0) (off := 0) (n := 1) rfl rfl rfl (by kernel_rfl)
    have e1 : Reads enc Try.prog W 3 [a1] := h.fieldAt Try.underlying35 (i := 1) (off := 1) (n := 1) rfl rfl rfl (by kernel_rfl)
    have e2 : Reads enc Try.prog W 3 [a2] := h.fieldAt Try.underlying35 (i := 2) (off := 2) (n := 1) rfl rfl rfl (by kernel_rfl)
    have e3 : Reads enc Try.prog W 3 [a3] := h.fieldAt Try.underlying35 (i := 3) (off := 3) (n := 1) rfl rfl rfl (by kernel_rfl)
    have e4 : Reads enc Try.prog W 23 [a4] := h.fieldAt Try.underlying35 (i := 4) (off := 4) (n := 1) rfl rfl rfl (by kernel_rfl)
    obtain ⟨x0, hx0, w0⟩ := e0.int Try.underlying3
    obtain rfl : a0 = _ := by simpa using hx0
    obtain ⟨x1, hx1, w1⟩ := e1.int Try.underlying3
    obtain rfl : a1 = _ := by simpa using hx1
    obtain ⟨x2, hx2, w2⟩ := e2.int Try.underlying3
    obtain rfl : a2 = _ := by simpa using hx2
    obtain ⟨x3, hx3, w3⟩ := e3.int Try.underlying3
    obtain rfl : a3 = _ := by simpa using hx3
    obtain ⟨x4, n4, es4, hx4, r4, m4, hl4, he4⟩ := e4.slice Try.underlying23 (sz := 1) (by kernel_rfl) (by omega)
    obtain rfl : a4 = _ := by simpa using hx4
    obtain ⟨l4, rfl, q4⟩ := list_pick (f := fun x : Int => [Value.int .u8 x]) (fun c hc => (he4 c hc).2.int Try.underlying5)
    exact ⟨⟨x0, x1, x2, x3, a4⟩, rfl, ⟨bounds_i64 w0, bounds_i64 w1, bounds_i64 w2, bounds_i64 w3, ⟨n4, l4, r4, m4, by simpa using hl4, q4⟩⟩⟩


/-- What an act holds: its bytes too. -/
structure ActOk (W : World) (x : ActS) (n : Nat) (l : List Int) : Prop where
  id : -9223372036854775808 ≤ x.id ∧ x.id ≤ 9223372036854775807
  off : -9223372036854775808 ≤ x.off ∧ x.off ≤ 9223372036854775807
  hn : -9223372036854775808 ≤ x.n ∧ x.n ≤ 9223372036854775807
  rd : RdS W [] 1 x.b n (u8s l)
theorem actL_act {W : World} {x : ActS} (h : actL_ok W x) : ∃ n l, ActOk W x n l := by
  unfold actL_ok at h
  obtain ⟨_, h1, h2, h3, n, l, hr, _⟩ := h
  rw [u8s_flat] at hr
  exact ⟨n, l, h1, h2, h3, hr⟩
theorem acts_in {H : Type} {enc : TypeId × Value → H} {W : World} {v : Value} {d : DataW H} {p : List MemPlace} (hv : ∃ a len cap, v = .slice a len cap) (h : DataW.Trod enc Try.prog W 0 (fun _ => true) true 22 v d p) :
    ∃ n acts, RdS W [] 5 v n (acts.map actL).flatten ∧ List.length acts = n ∧ ∀ y ∈ acts, actL_ok W y := by
  obtain ⟨n, es, h1, h2, h3⟩ := rds_in Try.underlying22 (sz := 5) (by kernel_rfl) (by omega) hv h
  obtain ⟨l, rfl, h4⟩ := list_pick (f := actL) (Q := actL_ok W) (es := es) (fun c hc => actL_in (h3 c hc).2)
  exact ⟨n, l, h1, by simpa using h2, h4⟩

def vlen : Value → Nat
  | .slice _ n _ => n
  | _ => 0
def bigA (x : ActS) : Bool := decide (700 < vlen x.b)
def greatA (most n : Nat) (l : List ActS) : Bool := decide (most < n) || l.any bigA

theorem great_q (W0 : World) (C : Heap) (v : Value) (n : Nat) (l : List ActS) (most : Nat) (hm : most ≤ 1000) (hs : RdS W0 C 5 v n (l.map actL).flatten) (hl : l.length = n) (hok : ∀ x ∈ l, ∃ ao k cap, x.b = .slice ao k cap) : Gives W0 Try.prog 9 #[v, .int .i64 most] C (.bool (greatA most n l)) := Gives.of fun X => by
  obtain ⟨ao, cap, rfl, hc, hr⟩ := hs.form
  by_cases hn : n > most
  · refine Does.go Try.func9 rfl Try.results9 Try.ntmps9 rfl rfl ?_; (conv => whnf)
    repeat' (first | (with_reducible first | refine V.seq ?_ | refine V.block ?_ | refine V.ret ?_ | refine V.skip ?_ | refine V.exit ?_ | refine thenK_normal ?_ | refine thenK_ret ?_ | refine thenK_exit ?_ | refine blockK_normal ?_ | refine blockK_ret ?_ | refine blockK_here ?_ | refine loopK_ret ?_ | refine loopK_exit ?_ | refine Ops.nil ?_ | refine A.blockK_on (h := ?_)) | ((with_reducible first | refine A.drw tabOk ⟨[], [], []⟩ mixed (h := ?_) | refine A.reg tabOk (h := ?_) | refine And.intro (by omega) ?_ | refine A.load tabOk (h := ?_) | refine A.or tabOk (h := ?_) | refine A.and tabOk (h := ?_) | refine A.gopen tabOk (h := ?_) | refine A.gshutP tabOk (h := ?_) | refine A.gshutM tabOk (h := ?_) | refine A.gshutN tabOk (h := ?_) | refine A.pickT tabOk (h := ?_) | refine A.pickF tabOk (h := ?_) | refine A.gstep tabOk (h := ?_) | refine A.gload tabOk (h := ?_) | refine A.store tabOk (h := ?_) | refine A.loadL tabOk (h := ?_) | refine A.loadE tabOk (h := ?_) | refine A.storeL tabOk (h := ?_) | refine A.gloadL tabOk (h := ?_) | refine A.gloadE tabOk (h := ?_) | refine A.convS tabOk (h := ?_)); (conv => whnf)) | (with_reducible first | refine A.condT (hx := ?_) | refine A.condF (hy := ?_)) | fail)
    refine V.loop (G := Unit) (fun g => [(0, true, .slice ao n cap), (1, true, .int .i64 most), (5, true, .int .i64 0)]) (fun _ => X :: C) (fun g => 0) () (by with_unfolding_all repeat (first | exact trivial | refine And.intro rfl ?_)) (Weak.refl _) ?_
    rintro _
    repeat' (first | (with_reducible first | refine V.seq ?_ | refine V.block ?_ | refine V.ret ?_ | refine V.skip ?_ | refine V.exit ?_ | refine thenK_normal ?_ | refine thenK_ret ?_ | refine thenK_exit ?_ | refine blockK_normal ?_ | refine blockK_ret ?_ | refine blockK_here ?_ | refine loopK_ret ?_ | refine loopK_exit ?_ | refine Ops.nil ?_ | refine A.blockK_on (h := ?_)) | ((with_reducible first | refine A.drw tabOk ⟨[], [], []⟩ mixed (h := ?_) | refine A.reg tabOk (h := ?_) | refine And.intro (by omega) ?_ | refine A.load tabOk (h := ?_) | refine A.or tabOk (h := ?_) | refine A.and tabOk (h := ?_) | refine A.gopen tabOk (h := ?_) | refine A.gshutP tabOk (h := ?_) | refine A.gshutM tabOk (h := ?_) | refine A.gshutN tabOk (h := ?_) | refine A.pickT tabOk (h := ?_) | refine A.pickF tabOk (h := ?_) | refine A.gstep tabOk (h := ?_) | refine A.gload tabOk (h := ?_) | refine A.store tabOk (h := ?_) | refine A.loadL tabOk (h := ?_) | refine A.loadE tabOk (h := ?_) | refine A.storeL tabOk (h := ?_) | refine A.gloadL tabOk (h := ?_) | refine A.gloadE tabOk (h := ?_) | refine A.convS tabOk (h := ?_)); (conv => whnf)) | (with_reducible first | refine A.condT (hx := ?_) | refine A.condF (hy := ?_)) | fail)
    exact retK_ret rfl (by first | exact Weak.refl _ | exact Weak.all _ | (repeat (first | exact Weak.refl _ | exact Weak.all _ | refine A.wpick (k := ?_) | apply Weak.drop))) ⟨by simp only [tup, greatA]; congr 1; simp; omega, rfl⟩
  have hg : greatA most n l = l.any bigA := by unfold greatA; simp; omega
  rw [hg]
  refine Does.go Try.func9 rfl Try.results9 Try.ntmps9 rfl rfl ?_; (conv => whnf)
  repeat' (first | (with_reducible first | refine V.seq ?_ | refine V.block ?_ | refine V.ret ?_ | refine V.skip ?_ | refine V.exit ?_ | refine thenK_normal ?_ | refine thenK_ret ?_ | refine thenK_exit ?_ | refine blockK_normal ?_ | refine blockK_ret ?_ | refine blockK_here ?_ | refine loopK_ret ?_ | refine loopK_exit ?_ | refine Ops.nil ?_ | refine A.blockK_on (h := ?_)) | ((with_reducible first | refine A.drw tabOk ⟨[], [], []⟩ mixed (h := ?_) | refine A.reg tabOk (h := ?_) | refine And.intro (by omega) ?_ | refine A.load tabOk (h := ?_) | refine A.or tabOk (h := ?_) | refine A.and tabOk (h := ?_) | refine A.gopen tabOk (h := ?_) | refine A.gshutP tabOk (h := ?_) | refine A.gshutM tabOk (h := ?_) | refine A.gshutN tabOk (h := ?_) | refine A.pickT tabOk (h := ?_) | refine A.pickF tabOk (h := ?_) | refine A.gstep tabOk (h := ?_) | refine A.gload tabOk (h := ?_) | refine A.store tabOk (h := ?_) | refine A.loadL tabOk (h := ?_) | refine A.loadE tabOk (h := ?_) | refine A.storeL tabOk (h := ?_) | refine A.gloadL tabOk (h := ?_) | refine A.gloadE tabOk (h := ?_) | refine A.convS tabOk (h := ?_)); (conv => whnf)) | (with_reducible first | refine A.condT (hx := ?_) | refine A.condF (hy := ?_)) | fail)
  refine V.loop (G := {k : Nat // k ≤ n ∧ (l.take k).any bigA = false}) (fun g => [(0, true, .slice ao n cap), (1, true, .int .i64 most), (5, true, .int .i64 g.1)]) (fun _ => X :: C) (fun g => n - g.1) ⟨0, by simp⟩ (by with_unfolding_all repeat (first | exact trivial | refine And.intro rfl ?_)) (Weak.refl _) ?_
  rintro ⟨k, hk, hany⟩
  dsimp only
  by_cases hkn : k < n
  · obtain ⟨b1, o1, rfl, r1⟩ := hr (by omega)
    have q := (r1.mono (Weak.skip X C)).elem (f := actL) (sz := 5) (fun _ => rfl) (i := k) (by omega)
    have q4 := q.cell (j := 4) rfl
    obtain ⟨ab, kb, cb, hb⟩ := hok l[k] (List.getElem_mem _)
    rw [hb] at q4
    have hsn : (l.take (k + 1)).any bigA = bigA l[k] := by rw [List.take_succ_eq_append_getElem (by omega), List.any_append, hany]; simp
    have hbg : bigA l[k] = decide (700 < kb) := by unfold bigA; rw [hb]; rfl
    by_cases h1 : 700 < kb
    · have hb : l.any bigA = true := List.any_eq_true.2 ⟨l[k], by simp, by rw [hbg]; simp [h1]⟩
      repeat' (first | (with_reducible first | refine V.seq ?_ | refine V.block ?_ | refine V.ret ?_ | refine V.skip ?_ | refine V.exit ?_ | refine thenK_normal ?_ | refine thenK_ret ?_ | refine thenK_exit ?_ | refine blockK_normal ?_ | refine blockK_ret ?_ | refine blockK_here ?_ | refine loopK_ret ?_ | refine loopK_exit ?_ | refine Ops.nil ?_ | refine A.blockK_on (h := ?_)) | ((with_reducible first | refine A.drw tabOk ⟨[], [], []⟩ mixed (h := ?_) | refine A.reg tabOk (h := ?_) | refine And.intro (by omega) ?_ | refine A.load tabOk (h := ?_) | refine A.or tabOk (h := ?_) | refine A.and tabOk (h := ?_) | refine A.gopen tabOk (h := ?_) | refine A.gshutP tabOk (h := ?_) | refine A.gshutM tabOk (h := ?_) | refine A.gshutN tabOk (h := ?_) | refine A.pickT tabOk (h := ?_) | refine A.pickF tabOk (h := ?_) | refine A.gstep tabOk (h := ?_) | refine A.gload tabOk (h := ?_) | refine A.store tabOk (h := ?_) | refine A.loadL tabOk (h := ?_) | refine A.loadE tabOk (h := ?_) | refine A.storeL tabOk (h := ?_) | refine A.gloadL tabOk (h := ?_) | refine A.gloadE tabOk (h := ?_) | refine A.convS tabOk (h := ?_)); (conv => whnf)) | (with_reducible first | refine A.condT (hx := ?_) | refine A.condF (hy := ?_)) | fail)
      exact retK_ret rfl (by first | exact Weak.refl _ | exact Weak.all _ | (repeat (first | exact Weak.refl _ | exact Weak.all _ | refine A.wpick (k := ?_) | apply Weak.drop))) ⟨by simp only [tup, hb], rfl⟩
    · repeat' (first | (with_reducible first | refine V.seq ?_ | refine V.block ?_ | refine V.ret ?_ | refine V.skip ?_ | refine V.exit ?_ | refine thenK_normal ?_ | refine thenK_ret ?_ | refine thenK_exit ?_ | refine blockK_normal ?_ | refine blockK_ret ?_ | refine blockK_here ?_ | refine loopK_ret ?_ | refine loopK_exit ?_ | refine Ops.nil ?_ | refine A.blockK_on (h := ?_)) | ((with_reducible first | refine A.drw tabOk ⟨[], [], []⟩ mixed (h := ?_) | refine A.reg tabOk (h := ?_) | refine And.intro (by omega) ?_ | refine A.load tabOk (h := ?_) | refine A.or tabOk (h := ?_) | refine A.and tabOk (h := ?_) | refine A.gopen tabOk (h := ?_) | refine A.gshutP tabOk (h := ?_) | refine A.gshutM tabOk (h := ?_) | refine A.gshutN tabOk (h := ?_) | refine A.pickT tabOk (h := ?_) | refine A.pickF tabOk (h := ?_) | refine A.gstep tabOk (h := ?_) | refine A.gload tabOk (h := ?_) | refine A.store tabOk (h := ?_) | refine A.loadL tabOk (h := ?_) | refine A.loadE tabOk (h := ?_) | refine A.storeL tabOk (h := ?_) | refine A.gloadL tabOk (h := ?_) | refine A.gloadE tabOk (h := ?_) | refine A.convS tabOk (h := ?_)); (conv => whnf)) | (with_reducible first | refine A.condT (hx := ?_) | refine A.condF (hy := ?_)) | fail)
      refine loopK_again ⟨k + 1, by omega, by rw [hsn, hbg]; simp [h1]⟩ (by with_unfolding_all repeat (first | exact trivial | refine And.intro rfl ?_)) (Weak.refl _) (by dsimp only; omega)
  · repeat' (first | (with_reducible first | refine V.seq ?_ | refine V.block ?_ | refine V.ret ?_ | refine V.skip ?_ | refine V.exit ?_ | refine thenK_normal ?_ | refine thenK_ret ?_ | refine thenK_exit ?_ | refine blockK_normal ?_ | refine blockK_ret ?_ | refine blockK_here ?_ | refine loopK_ret ?_ | refine loopK_exit ?_ | refine Ops.nil ?_ | refine A.blockK_on (h := ?_)) | ((with_reducible first | refine A.drw tabOk ⟨[], [], []⟩ mixed (h := ?_) | refine A.reg tabOk (h := ?_) | refine And.intro (by omega) ?_ | refine A.load tabOk (h := ?_) | refine A.or tabOk (h := ?_) | refine A.and tabOk (h := ?_) | refine A.gopen tabOk (h := ?_) | refine A.gshutP tabOk (h := ?_) | refine A.gshutM tabOk (h := ?_) | refine A.gshutN tabOk (h := ?_) | refine A.pickT tabOk (h := ?_) | refine A.pickF tabOk (h := ?_) | refine A.gstep tabOk (h := ?_) | refine A.gload tabOk (h := ?_) | refine A.store tabOk (h := ?_) | refine A.loadL tabOk (h := ?_) | refine A.loadE tabOk (h := ?_) | refine A.storeL tabOk (h := ?_) | refine A.gloadL tabOk (h := ?_) | refine A.gloadE tabOk (h := ?_) | refine A.convS tabOk (h := ?_)); (conv => whnf)) | (with_reducible first | refine A.condT (hx := ?_) | refine A.condF (hy := ?_)) | fail)
    have : k = n := by omega
    subst this
    rw [List.take_of_length_le (by omega)] at hany
    exact retK_ret rfl (by first | exact Weak.refl _ | exact Weak.all _ | (repeat (first | exact Weak.refl _ | exact Weak.all _ | refine A.wpick (k := ?_) | apply Weak.drop))) ⟨by simp only [tup, hany]; simp <;> omega, rfl⟩

theorem bit0 (a : Int) : andV .i64 a 1 = 0 ∨ andV .i64 a 1 = 1 := by
  unfold andV
  have h : (BitVec.ofInt IntKind.i64.bits a &&& BitVec.ofInt IntKind.i64.bits 1).toNat ≤ 1 := by
    rw [BitVec.toNat_and]
    have : (BitVec.ofInt IntKind.i64.bits 1).toNat = 1 := by decide
    rw [this]
    exact Nat.and_le_right
  generalize (BitVec.ofInt IntKind.i64.bits a &&& BitVec.ofInt IntKind.i64.bits 1).toNat = m at h
  match m, h with
  | 0, _ => left; decide
  | 1, _ => right; decide
theorem great_small {most n : Nat} {l : List ActS} (h : greatA most n l = false) : n ≤ most ∧ ∀ x ∈ l, bigA x = false := by
  unfold greatA at h
  simp only [bs] at h
  refine ⟨by omega, fun x hx => ?_⟩
  have := List.any_eq_false.1 h.2 x hx
  simpa using this

end Go.Proofs.Ytofcmcgopdhfeaa
