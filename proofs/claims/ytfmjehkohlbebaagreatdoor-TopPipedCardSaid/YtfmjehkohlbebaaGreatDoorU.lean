/-
  The law of pipes: its own loops, told by hand. No conditions but those that each theorem names.
-/
import Derived.Test.YtfmjehkohlbebaaGreatDoorTB
import Derived.Test.YtfmjehkohlbebaaGreatDoorEA
import Derived.Test.YtfmjehkohlbebaaGreatDoorD5
import Derived.Test.YtfmjehkohlbebaaGreatDoorD7
import Derived.Test.YtfmjehkohlbebaaGreatDoorD6
namespace Go.Proofs.YtfmjehkohlbebaaGreatDoor
open Eng
set_option maxRecDepth 100000
set_option maxHeartbeats 4000000
set_option linter.unusedVariables false
noncomputable def lc : Code → Code
  | .seq a _ => a
  | c => c
noncomputable def rc : Code → Code
  | .seq _ b => b
  | c => c
noncomputable def bc : Code → Code
  | .block _ b => b
  | .loop b => b
  | c => c
theorem Ops.pureY {W0 : World} {P : Program} {T : Tab} (hT : TabOk P T) {cf : Cfg} {arr : Array Oper} {k : Env → Heap → Prop} {o : Oper} {rest : List Oper} {e : Env} {C : Heap} {v : Value} (hg : o.guard = none) (hkf : isFresh (klass cf o) = false) (hv : PureV P e o v) (h : Eng.pex T rest (ext o.dst true v e) (fun l e => Ops W0 P cf arr k l e C)) : Ops W0 P cf arr k (o :: rest) e C :=
  Ops.pure hg hkf hv (Ops.pex hT h)
noncomputable def cutCode : Code := lc (rc (bc (lc (rc (bc (bc (rc (lc (rc (rc (rc (Tryz.f6.body.getD .skip))))))))))))
theorem cut_s (W0 : World) (K : Kont) (e : Env) (C : Heap) (b : ByteArray) (h8 : Eng.get e 8 = some (true, .string b)) (hb : b.size ≤ 9223372036854775807)
    (hK : ∀ e', (∀ n ∈ [0, 1, 4, 5, 6, 7, 9, 10, 11, 12, 13, 31, 64, 80, 89], Eng.get e' n = Eng.get e n) → Eng.get e' 8 = some (true, .string (b.extract 0 64)) → K .normal e' C) : V W0 Tryz.prog Tryz.f6.ntmps K cutCode e C := by
  refine V.less (e' := (8, true, .string b) :: e) ?_ (fun t x h => ?_) (Weak.refl C)
  rotate_left
  · by_cases ht : t = 8
    · subst ht; rw [h8]; exact h
    · rw [show Eng.get ((8, true, Value.string b) :: e) t = Eng.get e t by simp only [Eng.get]; cases hb8 : Nat.beq 8 t with
      | true => exact absurd (Nat.eq_of_beq_eq_true hb8).symm ht
      | false => rfl] at h; exact h
  unfold cutCode
  (conv => arg 5; whnf)
  repeat' (first | (with_reducible first | refine V.seq ?_ | refine V.block ?_ | refine V.ret ?_ | refine V.skip ?_ | refine V.exit ?_ | refine thenK_normal ?_ | refine thenK_ret ?_ | refine thenK_exit ?_ | refine blockK_normal ?_ | refine blockK_ret ?_ | refine blockK_here ?_ | refine loopK_ret ?_ | refine loopK_exit ?_ | refine Ops.nil ?_ | refine A.blockK_on (h := ?_)) | ((with_reducible first | refine A.drw tabOk ⟨[], [], []⟩ mixed (h := ?_) | refine A.reg tabOk (h := ?_) | refine And.intro (by omega) ?_ | refine A.load tabOk (h := ?_) | refine A.or tabOk (h := ?_) | refine A.and tabOk (h := ?_) | refine A.gopen tabOk (h := ?_) | refine A.gshutP tabOk (h := ?_) | refine A.gshutM tabOk (h := ?_) | refine A.gshutN tabOk (h := ?_) | refine A.pickT tabOk (h := ?_) | refine A.pickF tabOk (h := ?_) | refine A.gstep tabOk (h := ?_) | refine A.gload tabOk (h := ?_) | refine A.store tabOk (h := ?_) | refine A.loadL tabOk (h := ?_) | refine A.loadE tabOk (h := ?_) | refine A.storeL tabOk (h := ?_) | refine A.gloadL tabOk (h := ?_) | refine A.gloadE tabOk (h := ?_) | refine A.convS tabOk (h := ?_)); (conv => whnf)) | (with_reducible first | refine A.condT (hx := ?_) | refine A.condF (hy := ?_)) | fail)
  refine V.cond rfl (fun h => ?_) (fun h => ?_)
  · repeat' (first | (with_reducible first | refine V.seq ?_ | refine V.block ?_ | refine V.ret ?_ | refine V.skip ?_ | refine V.exit ?_ | refine thenK_normal ?_ | refine thenK_ret ?_ | refine thenK_exit ?_ | refine blockK_normal ?_ | refine blockK_ret ?_ | refine blockK_here ?_ | refine loopK_ret ?_ | refine loopK_exit ?_ | refine Ops.nil ?_ | refine A.blockK_on (h := ?_)) | ((with_reducible first | refine A.drw tabOk ⟨[], [], []⟩ mixed (h := ?_) | refine A.reg tabOk (h := ?_) | refine And.intro (by omega) ?_ | refine A.load tabOk (h := ?_) | refine A.or tabOk (h := ?_) | refine A.and tabOk (h := ?_) | refine A.gopen tabOk (h := ?_) | refine A.gshutP tabOk (h := ?_) | refine A.gshutM tabOk (h := ?_) | refine A.gshutN tabOk (h := ?_) | refine A.pickT tabOk (h := ?_) | refine A.pickF tabOk (h := ?_) | refine A.gstep tabOk (h := ?_) | refine A.gload tabOk (h := ?_) | refine A.store tabOk (h := ?_) | refine A.loadL tabOk (h := ?_) | refine A.loadE tabOk (h := ?_) | refine A.storeL tabOk (h := ?_) | refine A.gloadL tabOk (h := ?_) | refine A.gloadE tabOk (h := ?_) | refine A.convS tabOk (h := ?_)); (conv => whnf)) | (with_reducible first | refine A.condT (hx := ?_) | refine A.condF (hy := ?_)) | fail)
    have hs : (64 : Nat) ≤ b.size := by have := of_decide_eq_true h; omega
    refine Ops.pureY tabOk rfl rfl (Den.pure_strSl tabOk (l := 0) (h := 64) rfl rfl ⟨fun _ => rfl, fun z h => (by cases h)⟩ ⟨fun h => (by cases h), fun z h => (by cases h; exact ⟨.i64, rfl⟩)⟩ ⟨by omega, hs⟩) ?_; (conv => whnf)
    repeat' (first | (with_reducible first | refine V.seq ?_ | refine V.block ?_ | refine V.ret ?_ | refine V.skip ?_ | refine V.exit ?_ | refine thenK_normal ?_ | refine thenK_ret ?_ | refine thenK_exit ?_ | refine blockK_normal ?_ | refine blockK_ret ?_ | refine blockK_here ?_ | refine loopK_ret ?_ | refine loopK_exit ?_ | refine Ops.nil ?_ | refine A.blockK_on (h := ?_)) | ((with_reducible first | refine A.drw tabOk ⟨[], [], []⟩ mixed (h := ?_) | refine A.reg tabOk (h := ?_) | refine And.intro (by omega) ?_ | refine A.load tabOk (h := ?_) | refine A.or tabOk (h := ?_) | refine A.and tabOk (h := ?_) | refine A.gopen tabOk (h := ?_) | refine A.gshutP tabOk (h := ?_) | refine A.gshutM tabOk (h := ?_) | refine A.gshutN tabOk (h := ?_) | refine A.pickT tabOk (h := ?_) | refine A.pickF tabOk (h := ?_) | refine A.gstep tabOk (h := ?_) | refine A.gload tabOk (h := ?_) | refine A.store tabOk (h := ?_) | refine A.loadL tabOk (h := ?_) | refine A.loadE tabOk (h := ?_) | refine A.storeL tabOk (h := ?_) | refine A.gloadL tabOk (h := ?_) | refine A.gloadE tabOk (h := ?_) | refine A.convS tabOk (h := ?_)); (conv => whnf)) | (with_reducible first | refine A.condT (hx := ?_) | refine A.condF (hy := ?_)) | fail)
    exact hK _ (by intro n hn; simp only [List.mem_cons, List.not_mem_nil, or_false] at hn; rcases hn with rfl | rfl | rfl | rfl | rfl | rfl | rfl | rfl | rfl | rfl | rfl | rfl | rfl | rfl | rfl <;> rfl) rfl
  · repeat' (first | (with_reducible first | refine V.seq ?_ | refine V.block ?_ | refine V.ret ?_ | refine V.skip ?_ | refine V.exit ?_ | refine thenK_normal ?_ | refine thenK_ret ?_ | refine thenK_exit ?_ | refine blockK_normal ?_ | refine blockK_ret ?_ | refine blockK_here ?_ | refine loopK_ret ?_ | refine loopK_exit ?_ | refine Ops.nil ?_ | refine A.blockK_on (h := ?_)) | ((with_reducible first | refine A.drw tabOk ⟨[], [], []⟩ mixed (h := ?_) | refine A.reg tabOk (h := ?_) | refine And.intro (by omega) ?_ | refine A.load tabOk (h := ?_) | refine A.or tabOk (h := ?_) | refine A.and tabOk (h := ?_) | refine A.gopen tabOk (h := ?_) | refine A.gshutP tabOk (h := ?_) | refine A.gshutM tabOk (h := ?_) | refine A.gshutN tabOk (h := ?_) | refine A.pickT tabOk (h := ?_) | refine A.pickF tabOk (h := ?_) | refine A.gstep tabOk (h := ?_) | refine A.gload tabOk (h := ?_) | refine A.store tabOk (h := ?_) | refine A.loadL tabOk (h := ?_) | refine A.loadE tabOk (h := ?_) | refine A.storeL tabOk (h := ?_) | refine A.gloadL tabOk (h := ?_) | refine A.gloadE tabOk (h := ?_) | refine A.convS tabOk (h := ?_)); (conv => whnf)) | (with_reducible first | refine A.condT (hx := ?_) | refine A.condF (hy := ?_)) | fail)
    have hs : b.size ≤ (64 : Nat) := by have := of_decide_eq_false h; omega
    have hx : b.extract 0 64 = b := by
      apply ByteArray.ext
      rw [ByteArray.data_extract]
      exact Array.extract_eq_self_of_le (by simpa using hs)
    exact hK _ (by intro n hn; simp only [List.mem_cons, List.not_mem_nil, or_false] at hn; rcases hn with rfl | rfl | rfl | rfl | rfl | rfl | rfl | rfl | rfl | rfl | rfl | rfl | rfl | rfl | rfl <;> rfl) (by rw [hx]; rfl)
theorem notes_len {us : List Value} {b : ByteArray} (h : Den.Notes us b) : ∃ n, us.length = 11 * n := by
  induction h with
  | nil => exact ⟨0, rfl⟩
  | snoc _ ih => obtain ⟨n, hn⟩ := ih; exact ⟨n + 1, by simp [hn]; omega⟩
theorem notes_fun {us : List Value} {b : ByteArray} (h : Den.Notes us b) : ∀ {b'}, Den.Notes us b' → b = b' := by
  induction h with
  | nil =>
    intro b' h
    generalize hu : ([] : List Value) = us at h
    cases h with
    | nil => rfl
    | snoc => simp at hu
  | @snoc us0 b0 tk kd a c s t vl d th sys h ih =>
    intro b' h'
    generalize hu : us0 ++ [tk, .int .i64 th, kd, .int .i64 sys, a, c, s, t, .int .i64 0, vl, .string d] = us' at h'
    cases h' with
    | nil => simp at hu
    | snoc h' =>
      obtain ⟨e1, e2⟩ := List.append_inj' hu rfl
      subst e1
      simp only [List.cons.injEq, Value.int.injEq, Value.string.injEq, true_and, and_true] at e2
      obtain ⟨_, rfl, _, rfl, _, _, _, _, _, rfl⟩ := e2
      rw [ih h']
theorem notes_row {us : List Value} {b : ByteArray} (h : Den.Notes us b) : ∀ k, 11 * k < us.length → ∃ (tk kd a c s t vl : Value) (th sys : Int) (d bk : ByteArray), (∀ (j : Nat) v, [tk, .int .i64 th, kd, .int .i64 sys, a, c, s, t, .int .i64 0, vl, .string d][j]? = some v → us[11 * k + j]? = some v) ∧
    Den.Notes (us.take (11 * k)) bk ∧ Den.Notes (us.take (11 * (k + 1))) (bk ++ if th = 0 ∧ sys = 3 then d else ByteArray.empty) ∧ (bk ++ if th = 0 ∧ sys = 3 then d else ByteArray.empty).size ≤ b.size := by
  induction h with
  | nil => intro k hk; simp at hk
  | @snoc us0 b0 tk kd a c s t vl d th sys h ih =>
    intro k hk
    obtain ⟨n, hn⟩ := notes_len h
    by_cases hlt : 11 * k < us0.length
    · obtain ⟨tk', kd', a', c', s', t', vl', th', sys', d', bk, h1, h2, h3, h4⟩ := ih k hlt
      refine ⟨tk', kd', a', c', s', t', vl', th', sys', d', bk, fun j v hj => ?_, ?_, ?_, ?_⟩
      · have := h1 j v hj
        rw [List.getElem?_append_left (List.getElem?_eq_some_iff.1 this).1]
        exact this
      · rw [List.take_append_of_le_length (by omega)]; exact h2
      · rw [List.take_append_of_le_length (by omega)]; exact h3
      · rw [ByteArray.size_append (a := b0)]; omega
    · have hk' : k = n := by simp at hk; omega
      subst hk'
      refine ⟨tk, kd, a, c, s, t, vl, th, sys, d, b0, fun j v hj => ?_, ?_, ?_, Nat.le_refl _⟩
      · rw [← hn, List.getElem?_append_right (by omega), Nat.add_sub_cancel_left]
        exact hj
      · rw [List.take_append_of_le_length (by omega), List.take_of_length_le (by omega)]; exact h
      · rw [List.take_of_length_le (by simp; omega)]; exact .snoc h
noncomputable def gotCode : Code := lc (rc (rc (rc (rc (rc (rc (rc (Tryz.f6.body.getD .skip))))))))
theorem got_s (W0 : World) (K : Kont) (e : Env) (C : Heap) (ba o n : Nat) (s want : Value) (us : List Value) (bt : ByteArray) (h10 : Eng.get e 10 = some (true, .pointer (some ⟨ba, o, none⟩))) (h6 : Eng.get e 6 = some (true, want)) (h11 : Eng.get e 11 = some (true, .string ByteArray.empty))
    (hr : Rd W0 C ⟨ba, o + 2, none⟩ s) (hs : RdS W0 C 11 s n us) (hone : us.all (·.oneCell') = true) (hN : Den.Notes us bt) (hn : n ≤ 1000000) (hb : bt.size ≤ 1000000)
    (hK : ∀ e', SubL e' [(10, true, .pointer (some ⟨ba, o, none⟩)), (6, true, want), (11, true, .string bt)] → K .normal e' C) : V W0 Tryz.prog Tryz.f6.ntmps K gotCode e C := by
  obtain ⟨ao, ac, rfl, hac, har⟩ := hs.form
  have hul := hs.len
  unfold gotCode
  (conv => arg 5; whnf)
  repeat' (first | (with_reducible first | refine V.seq ?_ | refine V.block ?_ | refine V.ret ?_ | refine V.skip ?_ | refine V.exit ?_ | refine thenK_normal ?_ | refine thenK_ret ?_ | refine thenK_exit ?_ | refine blockK_normal ?_ | refine blockK_ret ?_ | refine blockK_here ?_ | refine loopK_ret ?_ | refine loopK_exit ?_ | refine Ops.nil ?_ | refine A.blockK_on (h := ?_)) | ((with_reducible first | refine A.drw tabOk ⟨[], [], []⟩ mixed (h := ?_) | refine A.reg tabOk (h := ?_) | refine And.intro (by omega) ?_ | refine A.load tabOk (h := ?_) | refine A.or tabOk (h := ?_) | refine A.and tabOk (h := ?_) | refine A.gopen tabOk (h := ?_) | refine A.gshutP tabOk (h := ?_) | refine A.gshutM tabOk (h := ?_) | refine A.gshutN tabOk (h := ?_) | refine A.pickT tabOk (h := ?_) | refine A.pickF tabOk (h := ?_) | refine A.gstep tabOk (h := ?_) | refine A.gload tabOk (h := ?_) | refine A.store tabOk (h := ?_) | refine A.loadL tabOk (h := ?_) | refine A.loadE tabOk (h := ?_) | refine A.storeL tabOk (h := ?_) | refine A.gloadL tabOk (h := ?_) | refine A.gloadE tabOk (h := ?_) | refine A.convS tabOk (h := ?_)); (conv => whnf)) | (with_reducible first | refine A.condT (hx := ?_) | refine A.condF (hy := ?_)) | fail)
  refine V.loop (G := {g : Nat × ByteArray // g.1 ≤ n ∧ Den.Notes (us.take (11 * g.1)) g.2 ∧ g.2.size ≤ bt.size}) (fun g => [(10, true, .pointer (some ⟨ba, o, none⟩)), (6, true, want), (12, true, .int .i64 g.1.1), (11, true, .string g.1.2)]) (fun g => C) (fun g => n - g.1.1) ⟨(0, ByteArray.empty), by show 0 ≤ n; omega, .nil, by simp⟩ ⟨h10, h6, rfl, h11, trivial⟩ (by first | exact Weak.refl _ | exact Weak.all _ | (repeat (first | exact Weak.refl _ | exact Weak.all _ | refine A.wpick (k := ?_) | apply Weak.drop))) ?_
  rintro ⟨⟨k, bk⟩, hkn, hnk, hbk⟩
  dsimp only at hkn hnk hbk ⊢
  by_cases hlt : k < n
  · obtain ⟨b1, o1, rfl, r1⟩ := har (by omega)
    obtain ⟨tk, kd, a, c, s, t, vl, th, sys, d, bk', n1, n2, n3, n4⟩ := notes_row hN k (by omega)
    have ebk := notes_fun hnk n2
    subst ebk
    have q0 : RdL W0 C b1 (o1 + k * 11) [tk, .int .i64 th, kd, .int .i64 sys, a, c, s, t, .int .i64 0, vl, .string d] := fun j u hj => by
      rw [show o1 + k * 11 + j = o1 + (11 * k + j) by omega]
      exact r1 (11 * k + j) u (n1 j u hj)
    have one : ∀ (j : Nat) v, [tk, .int .i64 th, kd, .int .i64 sys, a, c, s, t, .int .i64 0, vl, .string d][j]? = some v → v.oneCell' = true := fun j v hj => List.all_eq_true.1 hone v (List.mem_of_getElem? (n1 j v hj))
    have w0 := one 0 _ rfl
    have w2 := one 2 _ rfl
    have w4 := one 4 _ rfl
    have w5 := one 5 _ rfl
    have w6 := one 6 _ rfl
    have w7 := one 7 _ rfl
    have w9 := one 9 _ rfl
    repeat' (first | (with_reducible first | refine V.seq ?_ | refine V.block ?_ | refine V.ret ?_ | refine V.skip ?_ | refine V.exit ?_ | refine thenK_normal ?_ | refine thenK_ret ?_ | refine thenK_exit ?_ | refine blockK_normal ?_ | refine blockK_ret ?_ | refine blockK_here ?_ | refine loopK_ret ?_ | refine loopK_exit ?_ | refine Ops.nil ?_ | refine A.blockK_on (h := ?_)) | ((with_reducible first | refine A.drw tabOk ⟨[], [], []⟩ mixed (h := ?_) | refine A.reg tabOk (h := ?_) | refine And.intro (by omega) ?_ | refine A.load tabOk (h := ?_) | refine A.or tabOk (h := ?_) | refine A.and tabOk (h := ?_) | refine A.gopen tabOk (h := ?_) | refine A.gshutP tabOk (h := ?_) | refine A.gshutM tabOk (h := ?_) | refine A.gshutN tabOk (h := ?_) | refine A.pickT tabOk (h := ?_) | refine A.pickF tabOk (h := ?_) | refine A.gstep tabOk (h := ?_) | refine A.gload tabOk (h := ?_) | refine A.store tabOk (h := ?_) | refine A.loadL tabOk (h := ?_) | refine A.loadE tabOk (h := ?_) | refine A.storeL tabOk (h := ?_) | refine A.gloadL tabOk (h := ?_) | refine A.gloadE tabOk (h := ?_) | refine A.convS tabOk (h := ?_)); (conv => whnf)) | (with_reducible first | refine A.condT (hx := ?_) | refine A.condF (hy := ?_)) | fail)
    (with_reducible refine A.alloc tabOk (h := ?_)); intro x; (conv => whnf)
    repeat' (first | (with_reducible first | refine V.seq ?_ | refine V.block ?_ | refine V.ret ?_ | refine V.skip ?_ | refine V.exit ?_ | refine thenK_normal ?_ | refine thenK_ret ?_ | refine thenK_exit ?_ | refine blockK_normal ?_ | refine blockK_ret ?_ | refine blockK_here ?_ | refine loopK_ret ?_ | refine loopK_exit ?_ | refine Ops.nil ?_ | refine A.blockK_on (h := ?_)) | ((with_reducible first | refine A.drw tabOk ⟨[], [], []⟩ mixed (h := ?_) | refine A.reg tabOk (h := ?_) | refine And.intro (by omega) ?_ | refine A.load tabOk (h := ?_) | refine A.or tabOk (h := ?_) | refine A.and tabOk (h := ?_) | refine A.gopen tabOk (h := ?_) | refine A.gshutP tabOk (h := ?_) | refine A.gshutM tabOk (h := ?_) | refine A.gshutN tabOk (h := ?_) | refine A.pickT tabOk (h := ?_) | refine A.pickF tabOk (h := ?_) | refine A.gstep tabOk (h := ?_) | refine A.gload tabOk (h := ?_) | refine A.store tabOk (h := ?_) | refine A.loadL tabOk (h := ?_) | refine A.loadE tabOk (h := ?_) | refine A.storeL tabOk (h := ?_) | refine A.gloadL tabOk (h := ?_) | refine A.gloadE tabOk (h := ?_) | refine A.convS tabOk (h := ?_)); (conv => whnf)) | (with_reducible first | refine A.condT (hx := ?_) | refine A.condF (hy := ?_)) | fail)
    refine V.cond rfl (fun h => ?_) (fun h => ?_)
    · have hc : th = 0 ∧ sys = 3 := by simpa using h
      rw [if_pos hc] at n3 n4
      repeat' (first | (with_reducible first | refine V.seq ?_ | refine V.block ?_ | refine V.ret ?_ | refine V.skip ?_ | refine V.exit ?_ | refine thenK_normal ?_ | refine thenK_ret ?_ | refine thenK_exit ?_ | refine blockK_normal ?_ | refine blockK_ret ?_ | refine blockK_here ?_ | refine loopK_ret ?_ | refine loopK_exit ?_ | refine Ops.nil ?_ | refine A.blockK_on (h := ?_)) | ((with_reducible first | refine A.drw tabOk ⟨[], [], []⟩ mixed (h := ?_) | refine A.reg tabOk (h := ?_) | refine And.intro (by omega) ?_ | refine A.load tabOk (h := ?_) | refine A.or tabOk (h := ?_) | refine A.and tabOk (h := ?_) | refine A.gopen tabOk (h := ?_) | refine A.gshutP tabOk (h := ?_) | refine A.gshutM tabOk (h := ?_) | refine A.gshutN tabOk (h := ?_) | refine A.pickT tabOk (h := ?_) | refine A.pickF tabOk (h := ?_) | refine A.gstep tabOk (h := ?_) | refine A.gload tabOk (h := ?_) | refine A.store tabOk (h := ?_) | refine A.loadL tabOk (h := ?_) | refine A.loadE tabOk (h := ?_) | refine A.storeL tabOk (h := ?_) | refine A.gloadL tabOk (h := ?_) | refine A.gloadE tabOk (h := ?_) | refine A.convS tabOk (h := ?_)); (conv => whnf)) | (with_reducible first | refine A.condT (hx := ?_) | refine A.condF (hy := ?_)) | fail)
      refine Ops.pureY tabOk rfl rfl (Den.pure_cat rfl rfl (by rw [ByteArray.size_append] at n4; omega)) ?_; (conv => whnf)
      repeat' (first | (with_reducible first | refine V.seq ?_ | refine V.block ?_ | refine V.ret ?_ | refine V.skip ?_ | refine V.exit ?_ | refine thenK_normal ?_ | refine thenK_ret ?_ | refine thenK_exit ?_ | refine blockK_normal ?_ | refine blockK_ret ?_ | refine blockK_here ?_ | refine loopK_ret ?_ | refine loopK_exit ?_ | refine Ops.nil ?_ | refine A.blockK_on (h := ?_)) | ((with_reducible first | refine A.drw tabOk ⟨[], [], []⟩ mixed (h := ?_) | refine A.reg tabOk (h := ?_) | refine And.intro (by omega) ?_ | refine A.load tabOk (h := ?_) | refine A.or tabOk (h := ?_) | refine A.and tabOk (h := ?_) | refine A.gopen tabOk (h := ?_) | refine A.gshutP tabOk (h := ?_) | refine A.gshutM tabOk (h := ?_) | refine A.gshutN tabOk (h := ?_) | refine A.pickT tabOk (h := ?_) | refine A.pickF tabOk (h := ?_) | refine A.gstep tabOk (h := ?_) | refine A.gload tabOk (h := ?_) | refine A.store tabOk (h := ?_) | refine A.loadL tabOk (h := ?_) | refine A.loadE tabOk (h := ?_) | refine A.storeL tabOk (h := ?_) | refine A.gloadL tabOk (h := ?_) | refine A.gloadE tabOk (h := ?_) | refine A.convS tabOk (h := ?_)); (conv => whnf)) | (with_reducible first | refine A.condT (hx := ?_) | refine A.condF (hy := ?_)) | fail)
      refine loopK_again ⟨(k + 1, bk ++ d), by show k + 1 ≤ n; omega, n3, n4⟩ (by with_unfolding_all repeat (first | exact trivial | refine And.intro rfl ?_)) (by first | exact Weak.refl _ | exact Weak.all _ | (repeat (first | exact Weak.refl _ | exact Weak.all _ | refine A.wpick (k := ?_) | apply Weak.drop))) (by dsimp only; omega)
    · have hc : ¬ (th = 0 ∧ sys = 3) := by simpa using h
      rw [if_neg hc, ByteArray.append_empty] at n3 n4
      repeat' (first | (with_reducible first | refine V.seq ?_ | refine V.block ?_ | refine V.ret ?_ | refine V.skip ?_ | refine V.exit ?_ | refine thenK_normal ?_ | refine thenK_ret ?_ | refine thenK_exit ?_ | refine blockK_normal ?_ | refine blockK_ret ?_ | refine blockK_here ?_ | refine loopK_ret ?_ | refine loopK_exit ?_ | refine Ops.nil ?_ | refine A.blockK_on (h := ?_)) | ((with_reducible first | refine A.drw tabOk ⟨[], [], []⟩ mixed (h := ?_) | refine A.reg tabOk (h := ?_) | refine And.intro (by omega) ?_ | refine A.load tabOk (h := ?_) | refine A.or tabOk (h := ?_) | refine A.and tabOk (h := ?_) | refine A.gopen tabOk (h := ?_) | refine A.gshutP tabOk (h := ?_) | refine A.gshutM tabOk (h := ?_) | refine A.gshutN tabOk (h := ?_) | refine A.pickT tabOk (h := ?_) | refine A.pickF tabOk (h := ?_) | refine A.gstep tabOk (h := ?_) | refine A.gload tabOk (h := ?_) | refine A.store tabOk (h := ?_) | refine A.loadL tabOk (h := ?_) | refine A.loadE tabOk (h := ?_) | refine A.storeL tabOk (h := ?_) | refine A.gloadL tabOk (h := ?_) | refine A.gloadE tabOk (h := ?_) | refine A.convS tabOk (h := ?_)); (conv => whnf)) | (with_reducible first | refine A.condT (hx := ?_) | refine A.condF (hy := ?_)) | fail)
      refine loopK_again ⟨(k + 1, bk), by show k + 1 ≤ n; omega, n3, n4⟩ (by with_unfolding_all repeat (first | exact trivial | refine And.intro rfl ?_)) (by first | exact Weak.refl _ | exact Weak.all _ | (repeat (first | exact Weak.refl _ | exact Weak.all _ | refine A.wpick (k := ?_) | apply Weak.drop))) (by dsimp only; omega)
  · repeat' (first | (with_reducible first | refine V.seq ?_ | refine V.block ?_ | refine V.ret ?_ | refine V.skip ?_ | refine V.exit ?_ | refine thenK_normal ?_ | refine thenK_ret ?_ | refine thenK_exit ?_ | refine blockK_normal ?_ | refine blockK_ret ?_ | refine blockK_here ?_ | refine loopK_ret ?_ | refine loopK_exit ?_ | refine Ops.nil ?_ | refine A.blockK_on (h := ?_)) | ((with_reducible first | refine A.drw tabOk ⟨[], [], []⟩ mixed (h := ?_) | refine A.reg tabOk (h := ?_) | refine And.intro (by omega) ?_ | refine A.load tabOk (h := ?_) | refine A.or tabOk (h := ?_) | refine A.and tabOk (h := ?_) | refine A.gopen tabOk (h := ?_) | refine A.gshutP tabOk (h := ?_) | refine A.gshutM tabOk (h := ?_) | refine A.gshutN tabOk (h := ?_) | refine A.pickT tabOk (h := ?_) | refine A.pickF tabOk (h := ?_) | refine A.gstep tabOk (h := ?_) | refine A.gload tabOk (h := ?_) | refine A.store tabOk (h := ?_) | refine A.loadL tabOk (h := ?_) | refine A.loadE tabOk (h := ?_) | refine A.storeL tabOk (h := ?_) | refine A.gloadL tabOk (h := ?_) | refine A.gloadE tabOk (h := ?_) | refine A.convS tabOk (h := ?_)); (conv => whnf)) | (with_reducible first | refine A.condT (hx := ?_) | refine A.condF (hy := ?_)) | fail)
    have hkn' : k = n := by omega
    subst hkn'
    have e1 : us.take (11 * k) = us := List.take_of_length_le (by omega)
    rw [e1] at hnk
    have := notes_fun hnk hN
    subst this
    exact hK _ (by with_unfolding_all repeat (first | exact trivial | refine And.intro rfl ?_))
end Go.Proofs.YtfmjehkohlbebaaGreatDoor
set_option linter.unusedVariables false
namespace Den
open Go Eng Go.Proofs.YtfmjehkohlbebaaGreatDoor
noncomputable def VV.onTxr (v : VV) (k : P → P → Bool) : Bool := match v with
  | .txr q ql => k q ql
  | _ => false
theorem VV.onTxr_true {v : VV} {k : P → P → Bool} (h : v.onTxr k = true) : ∃ q ql, v = .txr q ql ∧ k q ql = true := by
  cases v <;> first | exact ⟨_, _, rfl, h⟩ | cases h
noncomputable def cutS (js jc : I) : Step := fun _ e M nx k => e.getK js fun v => v.onTxr fun q ql => e.setK jc .no fun e => e.setK js (.tx [(q, ql, 0, 64)]) fun e => k .n e M nx
noncomputable def gotV (w : Atoms) : VV := List.rec (.str []) (fun _ _ _ => .tx w) w
noncomputable def gotS (ja jw jg : I) : Step := fun _ e M nx k => e.getK ja fun va => va.onP fun b o => e.getK jw fun vw => vw.onAny (e.getK jg fun vg => vg.onStr fun l0 => Tr.getK .dead M b fun ob => ob.onC fun _ _ l _ => nthK l (Nat.add o 2) fun v => v.onLs false fun b2 q => Tr.getK .dead M b2 fun ob2 => ob2.onRw fun _ sz q2 _ hs hc W =>
  Option.rec false (fun w => Bool.rec false (En.setK .nl ja (.ptr b o) fun e => En.setK e jw vw fun e => En.setK e jg (gotV w) fun e => k .n e M nx) (((q.eqb q2 && Nat.beq sz 11) && (Nat.ble (Nat.add hs hc) 1000000 && Nat.ble (sumHi w) 1000000)) && nilB l0)) W)
theorem ENR.slot {S : List (P × I)} {ρ : Rho} {ve : En} {e : Env} {i : I} {p : P} {v : VV} (h : ENR S ρ ve e) (hp : placeIn S p = some i) (hv : ve.get i = v) (hok : v.ok = true) : ∃ u, Eng.get e p.num = some (true, u) ∧ Rl ρ v u := by
  have := (h p i hp).1 (by rw [hv]; exact hok)
  rwa [hv] at this
theorem cutS_ok {W0 : World} {S : List (P × I)} {call : Call} {A : Rho → Prop} (hS : Inj S) {js jc : I} {p8 p40 : P} (h8 : placeIn S p8 = some js) (h40 : placeIn S p40 = some jc) (n8 : p8.num = 8) (hne : js ≠ jc) (hL : ∀ x ∈ S, x.2 = js ∨ x.2 = jc ∨ x.1.num ∈ [0, 1, 4, 5, 6, 7, 9, 10, 11, 12, 13, 31, 64, 80, 89]) :
    StepP W0 Go.Proofs.Tryz.prog Go.Proofs.Tryz.f6.ntmps S call A cutCode (cutS js jc) := fun ve M nx k hk K ρ e C hρ he hM hK => by
  unfold cutS at hk
  rw [En.getK_eq] at hk
  obtain ⟨q, ql, hv, hk⟩ := VV.onTxr_true hk
  rw [En.setK_eq, En.setK_eq] at hk
  obtain ⟨u, g8, r, s, s', b, k1, k2, rfl, k3, k4⟩ := he.slot h8 hv rfl
  rw [n8] at g8
  refine cut_s W0 K e C b g8 k3 fun e' hs he8 => hK .n _ M nx ρ e' C hk hρ (fun p i hp => ?_) hM
  by_cases hi : i = js
  · subst hi
    rw [hS _ _ _ hp h8, n8, he8, En.get_set]
    refine ⟨fun _ => ⟨_, rfl, _, rfl, r, s, s', ByteArray.empty, k1, k2, Nat.zero_le _, ?_, ?_, rfl⟩, fun h => by cases h⟩
    · rw [k4, ByteArray.size_extract]; omega
    · rw [k4, ByteArray.append_empty]
  rw [En.get_set_ne _ _ _ _ hi]
  by_cases hc : i = jc
  · subst hc
    rw [En.get_set]
    exact ⟨fun h => (by cases h), fun h => by cases h⟩
  rw [En.get_set_ne _ _ _ _ hc]
  rcases hL _ (placeIn_mem hp) with h | h | h
  · exact absurd h hi
  · exact absurd h hc
  · rw [hs _ h]; exact he p i hp
theorem gotV_rl {ρ : Rho} {w : Atoms} {b : ByteArray} (h : TxR ρ w b) : (gotV w).ok = true ∧ gotV w ≠ .off ∧ Rl ρ (gotV w) (.string b) := by
  cases w with
  | nil =>
    have h : b = ByteArray.empty := h
    subst h
    exact ⟨rfl, fun h => (by cases h), rfl, fun x hx => by cases hx⟩
  | cons x l => exact ⟨rfl, fun h => (by cases h), b, rfl, h⟩
theorem gotS_ok {W0 : World} {S : List (P × I)} {call : Call} {A : Rho → Prop} (hS : Inj S) {ja jw jg : I} {pa pw pg : P} (ha : placeIn S pa = some ja) (hw : placeIn S pw = some jw) (hg : placeIn S pg = some jg) (na : pa.num = 10) (nw : pw.num = 6) (ng : pg.num = 11) :
    StepP W0 Go.Proofs.Tryz.prog Go.Proofs.Tryz.f6.ntmps S call A gotCode (gotS ja jw jg) := fun ve M nx k hk K ρ e C hρ he hM hK => by
  unfold gotS at hk
  rw [En.getK_eq] at hk
  obtain ⟨b, o, hva, hk⟩ := VV.onP_true hk
  rw [En.getK_eq] at hk
  obtain ⟨hok, hk⟩ := VV.onAny_true hk
  rw [En.getK_eq] at hk
  obtain ⟨l0, hvg, hk⟩ := VV.onStr_true hk
  rw [getM_eq] at hk
  obtain ⟨t, s, l, v, hb, hk⟩ := OB.onCM hk
  obtain ⟨x, hx, hk⟩ := nthK_true hk
  rcases VV.onLs_true hk with h | ⟨b2, q, hxx, hk2⟩
  · cases h
  subst hxx
  replace hk := hk2
  rw [getM_eq] at hk
  obtain ⟨t2, sz, q2, s2, hs, hc, W, hb2, hk⟩ := OB.onRwM hk
  cases W with
  | none => cases hk
  | some w =>
    obtain ⟨hcond, hfin⟩ := brec_true hk
    rw [En.setK_eq, En.setK_eq, En.setK_eq] at hfin
    have e1 := P.eqb_eq.1 (bl (bl (bl hcond)))
    have e2 := Nat.eq_of_beq_eq_true (br (bl (bl hcond)))
    have e3 : hs + hc ≤ 1000000 := Nat.le_of_ble_eq_true (bl (br (bl hcond)))
    have e4 : sumHi w ≤ 1000000 := Nat.le_of_ble_eq_true (br (br (bl hcond)))
    have e5 := nilB_true (br hcond)
    subst e1 e2 e5
    obtain ⟨ua, ga, ra, ca, hra, rfl⟩ := he.slot ha hva rfl
    obtain ⟨uw, gw, hrw⟩ := he.slot hw rfl hok
    obtain ⟨ug, gg, rfl, _⟩ := he.slot hg hvg rfl
    rw [na] at ga; rw [nw] at gw; rw [ng] at gg
    obtain ⟨ra2, ca2, ro, h1, h2, h3⟩ := hM.live b (by rw [show Mm.at M b = _ from hb]; trivial)
    rw [hra] at h1
    cases h1
    rw [show Mm.at M b = _ from hb] at h3
    obtain ⟨us, rest, rfl, hus, _, _⟩ := h3
    obtain ⟨u, hu1, hu2⟩ := hus.get hx
    obtain ⟨rb, cap, n, s3, hrb, hrq, hnc, rfl⟩ := hu2
    obtain ⟨rb2, cb2, ro2, g1, g2, g3⟩ := hM.live b2 (by rw [show Mm.at M b2 = _ from hb2]; trivial)
    rw [hrb] at g1
    cases g1
    rw [show Mm.at M b2 = _ from hb2] at g3
    obtain ⟨n2, s4, us2, rest2, τ, s5, k1, k2, k3, k4, k5, rfl, k6, k7, k8, k9, k10⟩ := g3
    rw [hrq] at k1
    cases k1
    obtain ⟨bt, hT, hN⟩ := k10 w rfl
    have hsz := sumHi_le hT
    have hrd : RdS W0 C 11 (.slice (some ⟨rb, 0, none⟩) n cap) n us2 := ⟨⟨_, _, rfl, hnc, fun _ => ⟨rb, 0, rfl, fun j u hj => Rd.of_at (mem_at g2) (by
      have hlt := (List.getElem?_eq_some_iff.1 hj).1
      rw [Nat.zero_add, List.getElem?_toArray, List.getElem?_append_left hlt]
      exact hj)⟩⟩, k6⟩
    refine got_s W0 K e C ra o n _ uw us2 bt ga gw gg (Rd.of_at (mem_at h2) (by
      have hlt := (List.getElem?_eq_some_iff.1 hu1).1
      rw [List.getElem?_toArray, List.getElem?_append_left hlt]
      exact hu1)) hrd k7 hN (by omega) (by omega) fun e' hs' => hK .n _ M nx ρ e' C hfin hρ (fun p i hp => ?_) hM
    obtain ⟨s10, s6, s11, _⟩ := hs'
    obtain ⟨v1, v2, v3⟩ := gotV_rl hT
    by_cases hi : i = jg
    · subst hi
      rw [hS _ _ _ hp hg, ng, s11, En.get_set]
      exact ⟨fun _ => ⟨_, rfl, v3⟩, fun h => absurd h v2⟩
    rw [En.get_set_ne _ _ _ _ hi]
    by_cases hi : i = jw
    · subst hi
      rw [hS _ _ _ hp hw, nw, s6, En.get_set]
      exact ⟨fun _ => ⟨_, rfl, hrw⟩, fun h => by rw [h] at hok; cases hok⟩
    rw [En.get_set_ne _ _ _ _ hi]
    by_cases hi : i = ja
    · subst hi
      rw [hS _ _ _ hp ha, na, s10, En.get_set]
      exact ⟨fun _ => ⟨_, rfl, ra, ca, hra, rfl⟩, fun h => by cases h⟩
    rw [En.get_set_ne _ _ _ _ hi, En.get_nl]
    exact ⟨fun h => (by cases h), fun h => by cases h⟩
end Den
