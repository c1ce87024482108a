/-
  TopPiped is true at every input: out of the runs. No conditions.
-/
import Derived.Test.YtfmjehkohlbebaaGreatDoorPipedR0
import Derived.Test.YtfmjehkohlbebaaGreatDoorPipedR1
import Derived.Test.YtfmjehkohlbebaaGreatDoorPipedR2
import Derived.Test.YtfmjehkohlbebaaGreatDoorPipedR3
import Derived.Test.YtfmjehkohlbebaaGreatDoorPipedR4
import Derived.Test.YtfmjehkohlbebaaGreatDoorPipedR5
import Derived.Test.YtfmjehkohlbebaaGreatDoorPipedR6
import Derived.Test.YtfmjehkohlbebaaGreatDoorPipedR7
import Derived.Test.YtfmjehkohlbebaaGreatDoorPipedR8
import Derived.Test.YtfmjehkohlbebaaGreatDoorPipedR9
import Derived.Test.YtfmjehkohlbebaaGreatDoorPipedR10
import Derived.Test.YtfmjehkohlbebaaGreatDoorPipedR11
import Derived.Test.YtfmjehkohlbebaaGreatDoorPipedR12
import Derived.Test.YtfmjehkohlbebaaGreatDoorPipedR13
import Derived.Test.YtfmjehkohlbebaaGreatDoorPipedR14
import Derived.Test.YtfmjehkohlbebaaGreatDoorPipedR15
import Derived.Test.YtfmjehkohlbebaaGreatDoorPipedC
set_option linter.unusedVariables false
set_option maxRecDepth 100000
namespace Go.Proofs.YtfmjehkohlbebaaGreatDoor.topPiped
open Go Eng Den Ast
theorem runs1 : ∀ l, l < 16 → run 1 l = true := fun l hl =>
  match l, hl with
  | 0, _ => r1_0
  | 1, _ => r1_1
  | 2, _ => r1_2
  | 3, _ => r1_3
  | 4, _ => r1_4
  | 5, _ => r1_5
  | 6, _ => r1_6
  | 7, _ => r1_7
  | 8, _ => r1_8
  | 9, _ => r1_9
  | 10, _ => r1_10
  | 11, _ => r1_11
  | 12, _ => r1_12
  | 13, _ => r1_13
  | 14, _ => r1_14
  | 15, _ => r1_15
  | _ + 16, hl => absurd hl (by omega)
theorem runs2 : ∀ l, l < 16 → run 2 l = true := fun l hl =>
  match l, hl with
  | 0, _ => r2_0
  | 1, _ => r2_1
  | 2, _ => r2_2
  | 3, _ => r2_3
  | 4, _ => r2_4
  | 5, _ => r2_5
  | 6, _ => r2_6
  | 7, _ => r2_7
  | 8, _ => r2_8
  | 9, _ => r2_9
  | 10, _ => r2_10
  | 11, _ => r2_11
  | 12, _ => r2_12
  | 13, _ => r2_13
  | 14, _ => r2_14
  | 15, _ => r2_15
  | _ + 16, hl => absurd hl (by omega)
theorem runs3 : ∀ l, l < 16 → run 3 l = true := fun l hl =>
  match l, hl with
  | 0, _ => r3_0
  | 1, _ => r3_1
  | 2, _ => r3_2
  | 3, _ => r3_3
  | 4, _ => r3_4
  | 5, _ => r3_5
  | 6, _ => r3_6
  | 7, _ => r3_7
  | 8, _ => r3_8
  | 9, _ => r3_9
  | 10, _ => r3_10
  | 11, _ => r3_11
  | 12, _ => r3_12
  | 13, _ => r3_13
  | 14, _ => r3_14
  | 15, _ => r3_15
  | _ + 16, hl => absurd hl (by omega)
theorem runs4 : ∀ l, l < 16 → run 4 l = true := fun l hl =>
  match l, hl with
  | 0, _ => r4_0
  | 1, _ => r4_1
  | 2, _ => r4_2
  | 3, _ => r4_3
  | 4, _ => r4_4
  | 5, _ => r4_5
  | 6, _ => r4_6
  | 7, _ => r4_7
  | 8, _ => r4_8
  | 9, _ => r4_9
  | 10, _ => r4_10
  | 11, _ => r4_11
  | 12, _ => r4_12
  | 13, _ => r4_13
  | 14, _ => r4_14
  | 15, _ => r4_15
  | _ + 16, hl => absurd hl (by omega)
theorem runs5 : ∀ l, l < 16 → run 5 l = true := fun l hl =>
  match l, hl with
  | 0, _ => r5_0
  | 1, _ => r5_1
  | 2, _ => r5_2
  | 3, _ => r5_3
  | 4, _ => r5_4
  | 5, _ => r5_5
  | 6, _ => r5_6
  | 7, _ => r5_7
  | 8, _ => r5_8
  | 9, _ => r5_9
  | 10, _ => r5_10
  | 11, _ => r5_11
  | 12, _ => r5_12
  | 13, _ => r5_13
  | 14, _ => r5_14
  | 15, _ => r5_15
  | _ + 16, hl => absurd hl (by omega)
theorem runs6 : ∀ l, l < 16 → run 6 l = true := fun l hl =>
  match l, hl with
  | 0, _ => r6_0
  | 1, _ => r6_1
  | 2, _ => r6_2
  | 3, _ => r6_3
  | 4, _ => r6_4
  | 5, _ => r6_5
  | 6, _ => r6_6
  | 7, _ => r6_7
  | 8, _ => r6_8
  | 9, _ => r6_9
  | 10, _ => r6_10
  | 11, _ => r6_11
  | 12, _ => r6_12
  | 13, _ => r6_13
  | 14, _ => r6_14
  | 15, _ => r6_15
  | _ + 16, hl => absurd hl (by omega)
theorem runs : ∀ n l, 1 ≤ n → n ≤ 6 → l < 16 → run n l = true := fun n l h1 h6 hl =>
  match n, h1, h6 with
  | 1, _, _ => runs1 l hl
  | 2, _, _ => runs2 l hl
  | 3, _, _ => runs3 l hl
  | 4, _, _ => runs4 l hl
  | 5, _, _ => runs5 l hl
  | 6, _, _ => runs6 l hl
  | 0, h, _ => absurd h (by omega)
  | _ + 7, _, h => absurd h (by omega)
theorem runsZn : ∀ l, l < 16 → runZ .nils l = true := fun l hl =>
  match l, hl with
  | 0, _ => zn0
  | 1, _ => zn1
  | 2, _ => zn2
  | 3, _ => zn3
  | 4, _ => zn4
  | 5, _ => zn5
  | 6, _ => zn6
  | 7, _ => zn7
  | 8, _ => zn8
  | 9, _ => zn9
  | 10, _ => zn10
  | 11, _ => zn11
  | 12, _ => zn12
  | 13, _ => zn13
  | 14, _ => zn14
  | 15, _ => zn15
  | _ + 16, hl => absurd hl (by omega)
theorem runsZe : ∀ l, l < 16 → runZ .emp l = true := fun l hl =>
  match l, hl with
  | 0, _ => ze0
  | 1, _ => ze1
  | 2, _ => ze2
  | 3, _ => ze3
  | 4, _ => ze4
  | 5, _ => ze5
  | 6, _ => ze6
  | 7, _ => ze7
  | 8, _ => ze8
  | 9, _ => ze9
  | 10, _ => ze10
  | 11, _ => ze11
  | 12, _ => ze12
  | 13, _ => ze13
  | 14, _ => ze14
  | 15, _ => ze15
  | _ + 16, hl => absurd hl (by omega)

/-! ## What came in -/

/-- What is taken of a text. -/
def cut (b : ByteArray) : ByteArray := b.extract 0 64
def enc (b : ByteArray) : Nat := encL (cut b).data.toList
def rho (t : Nat → ByteArray) (L r o : Nat) : Rho
  | .z => some (enc (t 0), 0) | .a .z => some (enc (t 1), 0) | .b .z => some (enc (t 2), 0) | .c .z => some (enc (t 3), 0) | .d .z => some (enc (t 4), 0)
  | .a (.a .z) => some ((cut (t 0)).size, 0) | .b (.a .z) => some ((cut (t 1)).size, 0) | .c (.a .z) => some ((cut (t 2)).size, 0) | .d (.a .z) => some ((cut (t 3)).size, 0) | .a (.b .z) => some ((cut (t 4)).size, 0)
  | .b (.b .z) => some (L, 0) | .c (.b .z) => some (r, o)
  | _ => none
theorem rho_old {t : Nat → ByteArray} {L r o : Nat} : ∀ b x, rho t L r o b = some x → b.num < P.num s12 := fun b x h => by
  unfold rho at h
  split at h <;> first | (cases h; done) | decide
theorem rho_qt (t : Nat → ByteArray) (L r o : Nat) : ∀ i, i < 5 → rho t L r o (qt i) = some (enc (t i), 0) ∧ rho t L r o (ql i) = some ((cut (t i)).size, 0)
  | 0, _ | 1, _ | 2, _ | 3, _ | 4, _ => ⟨rfl, rfl⟩
  | _ + 5, h => absurd h (by omega)
theorem txt_cut (b : ByteArray) : txt (enc b) = cut b := txt_enc _
theorem cut_le (b : ByteArray) : (cut b).size ≤ 64 := by unfold cut; rw [ByteArray.size_extract]; omega
theorem rho_in (t : Nat → ByteArray) (L r o : Nat) : InT (rho t L r o) := fun i hi => by
  obtain ⟨h1, h2⟩ := rho_qt t L r o i hi
  exact ⟨_, 0, 0, h1, by rw [txt_cut]; exact h2, Nat.zero_le _, by rw [txt_cut]; exact cut_le _⟩
theorem rls_txs (t : Nat → ByteArray) (L r o : Nat) : ∀ (l : List Nat), (∀ i ∈ l, i < 5 ∧ (t i).size ≤ 9223372036854775807) → Rls (rho t L r o) (l.map fun i => .txr (qt i) (ql i)) (l.map fun i => .string (t i))
  | [], _ => rfl
  | i :: l, h => by
    obtain ⟨h1, h2⟩ := h i (by simp)
    obtain ⟨h3, h4⟩ := rho_qt t L r o i h1
    exact ⟨_, _, rfl, ⟨_, 0, 0, t i, h3, by rw [txt_cut]; exact h4, rfl, h2, txt_cut _⟩, rls_txs t L r o l fun j hj => h j (by simp [hj])⟩

theorem lf_at (b : Den.P) : Mm.at .lf b = .dead := Tr.get_lf _ _
theorem startZ (W0 : World) (ρ : Rho) (h : ∀ b x, ρ b = some x → b.num < P.num s12) : MR W0 ρ .lf s12 [] where
  old := h
  live := fun b h => by rw [lf_at] at h; exact h.elim
  inj := fun b b' r c c' h => by rw [lf_at] at h; exact h.elim
  dgs := fun b ty ti t e q h => by rw [lf_at] at h; cases h
  one := fun b b' h => by rw [lf_at] at h; exact h.elim
  bas := fun b t l F h => by rw [lf_at] at h; cases h
theorem start (W0 : World) (ρ : Rho) (n : Nat) (h : ∀ b x, ρ b = some x → b.num < P.num s12) (hb : BsR W0 ρ s11 9 (txs n) []) : MR W0 ρ (m0 n) s12 [] := by
  have key : ∀ b, b ≠ s11 → Mm.at (m0 n) b = .dead := fun b hb => by unfold m0; rw [at_set_ne _ _ hb, lf_at]
  have key' : Mm.at (m0 n) s11 = .bs 9 (txs n) [] := by unfold m0; rw [at_set]
  have dead : ∀ b, ¬ (Mm.at (m0 n) b).live := fun b hl => by
    by_cases hb : b = s11
    · subst hb; rw [key'] at hl; exact hl
    · rw [key b hb] at hl; exact hl
  have nod : ∀ b, ¬ (Mm.at (m0 n) b).isD := fun b hl => by
    by_cases hb : b = s11
    · subst hb; rw [key'] at hl; exact hl
    · rw [key b hb] at hl; exact hl
  exact ⟨h, fun b hl => absurd hl (dead b), fun b b' r c c' hl => absurd hl (dead b), fun b ty ti t e q hd => absurd (by rw [hd]; trivial) (nod b), fun b b' hl => absurd hl (nod b), fun b t l F hd => by
    by_cases hbb : b = s11
    · subst hbb; rw [key'] at hd; cases hd; exact hb
    · rw [key b hbb] at hd; cases hd⟩
theorem law {W0 : World} {n : Nat} (hn : n ≤ 6) {v w : VV} {M : Mem} {ρ : Rho} {u u1 : Value} (h : f_mk (body n) [.t q16] [q0, q1] (callF FT 60) [v, w] M s12 fin = true) (hF : InT ρ) (hM : MR W0 ρ M s12 []) (hu : Rl ρ v u) (hw : Rl ρ w u1) : Does W0 Tryz.prog 6 #[u, u1] [] fun v _ => v = .bool true := by
  refine (law_ok (A := InT) tabOk Tryz.func6 rfl Tryz.results6 (ent_ok (by kernel_rfl)) (by kernel_rfl) (by kernel_rfl) (trR_ok (by kernel_rfl)) (body_ok W0 hn) h (ρ := ρ) (C := []) (us := [u, u1]) hF ⟨_, _, rfl, hu, _, _, rfl, hw, rfl⟩ hM).mono fun u C' hC' => ?_
  obtain ⟨v, M', nx', ρ', hE, hu⟩ := hC'
  exact end_true (M := M') (nx := nx') hE hu

theorem cell_heap {W : World} {a : Addr} {v : Value} (h : W.cell? a = some v) : a.spot = none ∧ ∃ cs ty fz, W.heap[a.block]? = some (.cells cs ty fz) ∧ cs[a.off]? = some v := by
  refine ⟨World.cell?_spot h, ?_⟩
  unfold World.cell? at h
  split at h
  · rename_i cs ty fz hb
    refine ⟨cs, ty, fz, hb, ?_⟩
    have := World.cell?_spot (w := W) (a := a) (v := v) (by unfold World.cell?; rw [hb]; exact h)
    simpa [this] using h
  all_goals cases h

theorem w (W0 : World) (u : Value) (h : u = .slice none 0 0 ∨ ∃ a len cap, u = .slice (some a) len cap ∧ len ≤ 9223372036854775807 ∧ ∀ i, i < len → ∃ z : ByteArray, z.size ≤ 9223372036854775807 ∧ W0.cell? (a.add i) = some (.string z)) (lv : Int) : Does W0 Tryz.prog 6 #[u, .int .i64 lv] [] fun v _ => v = .bool true := by
  have hl0 := lowZ_bd lv 16 (by omega)
  obtain ⟨l, hl⟩ : ∃ l : Nat, lowZ lv 16 = l := ⟨(lowZ lv 16).toNat, by omega⟩
  have hl16 : l < 16 := by omega
  have hlv : ∀ ρ, Rl ρ (.lc 16 l) (.int .i64 lv) := fun ρ => ⟨lv, rfl, hl⟩
  have none12 : ∀ (t : Nat → ByteArray) (b : Den.P) x, rho t 0 0 0 b = some x → b.num < P.num s12 := fun t => rho_old
  rcases h with rfl | ⟨a, len, cap, rfl, hlen, hz⟩
  · exact law (n := 0) (by omega) (runsZn l hl16) (rho_in (fun _ => .empty) 0 0 0) (startZ W0 _ (none12 _)) rfl (hlv _)
  rcases Nat.eq_zero_or_pos len with rfl | hpos
  · exact law (n := 0) (by omega) (runsZe l hl16) (rho_in (fun _ => .empty) 0 0 0) (startZ W0 _ (none12 _)) ⟨a, cap, rfl⟩ (hlv _)
  obtain ⟨z0, _, hz0⟩ := hz 0 hpos
  obtain ⟨hs, cs, ty, fz, hb, hc0⟩ := cell_heap hz0
  obtain ⟨r, o, sp⟩ := a
  have hs : sp = none := hs
  subst hs
  have hb : W0.heap[r]? = some (.cells cs ty fz) := hb
  have hcell : ∀ i, i < len → ∃ z : ByteArray, z.size ≤ 9223372036854775807 ∧ cs[o + i]? = some (.string z) := fun i hi => by
    obtain ⟨z, hzs, h1⟩ := hz i hi
    obtain ⟨_, cs', ty', fz', hb', hc'⟩ := cell_heap h1
    have e1 : ((⟨r, o, none⟩ : Addr).add i).block = r := by simp only [Addr.add]; split <;> simp_all
    have e2 : ((⟨r, o, none⟩ : Addr).add i).off = o + i := by simp only [Addr.add]; split <;> simp_all
    rw [e1, hb] at hb'
    rw [e2] at hc'
    cases hb'
    exact ⟨z, hzs, hc'⟩
  have hn : ∃ n, 1 ≤ n ∧ n ≤ 6 ∧ n ≤ len ∧ (n < 6 → n = len) := by
    by_cases h6 : len < 6
    · exact ⟨len, hpos, by omega, Nat.le_refl _, fun _ => rfl⟩
    · exact ⟨6, by omega, by omega, by omega, fun h => by omega⟩
  obtain ⟨n, n1, n6, nl, nx⟩ := hn
  obtain ⟨t, ht⟩ : ∃ t : Nat → ByteArray, t = fun i => if hi : i < len then Classical.choose (hcell i hi) else .empty := ⟨_, rfl⟩
  have htc : ∀ i, i < len → (t i).size ≤ 9223372036854775807 ∧ cs[o + i]? = some (.string (t i)) := fun i hi => by
    rw [ht]
    simp only [dif_pos hi]
    exact Classical.choose_spec (hcell i hi)
  have hc5 := cnt_le n n6
  have hcn : cnt n ≤ len := by
    unfold cnt
    cases h6 : Nat.beq n 6 with
    | true => have := Nat.eq_of_beq_eq_true h6; rw [cond_true]; omega
    | false => rw [cond_false]; omega
  have hcs : o + cnt n ≤ cs.size := by
    rcases Nat.eq_zero_or_pos (cnt n) with h0 | h0
    · have := (Array.getElem?_eq_some_iff.1 hc0).1
      simp only [Addr.add] at this
      have h2 := (htc 0 hpos).2
      have := (Array.getElem?_eq_some_iff.1 h2).1
      omega
    · have h2 := (htc (cnt n - 1) (by omega)).2
      have := (Array.getElem?_eq_some_iff.1 h2).1
      omega
  have hlist : cs.toList = cs.toList.take o ++ ((List.range (cnt n)).map (fun i => Value.string (t i)) ++ cs.toList.drop (o + cnt n)) := by
    have e1 : (List.range (cnt n)).map (fun i => Value.string (t i)) = (cs.toList.drop o).take (cnt n) := by
      apply List.ext_getElem?
      intro i
      rw [List.getElem?_take]
      by_cases hi : i < cnt n
      · rw [if_pos hi, List.getElem?_drop, List.getElem?_map, List.getElem?_range hi]
        rw [Array.getElem?_toList, (htc i (by omega)).2]
        rfl
      · rw [if_neg hi, List.getElem?_eq_none (by simp; omega)]
    rw [e1, ← List.drop_drop, List.take_append_drop, List.take_append_drop]
  have hbs : BsR W0 (rho t len r o) s11 9 (txs (cnt n)) [] := by
    refine ⟨r, cs.toList.take o, (List.range (cnt n)).map (fun i => Value.string (t i)), cs.toList.drop (o + cnt n), (ty, fz), ?_, ?_, ?_, ?_, trivial⟩
    · show some (r, o) = some (r, (cs.toList.take o).length)
      rw [List.length_take, Array.length_toList, Nat.min_eq_left (by omega)]
    · rw [← hlist]; simpa using hb
    · exact rls_txs t len r o (List.range (cnt n)) fun i hi => by
        have := List.mem_range.1 hi
        exact ⟨by omega, (htc i (by omega)).1⟩
    · rw [List.all_eq_true]
      intro x hx
      obtain ⟨i, _, rfl⟩ := List.mem_map.1 hx
      rfl
  refine law n6 (runs n l n1 n6 hl16) (rho_in t len r o) (start W0 _ _ rho_old hbs) ?_ (hlv _)
  refine ⟨len, 0, r, o, cap, rfl, rfl, nl, ?_, rfl⟩
  cases h6 : Nat.beq n 6 with
  | true => rw [cond_true]; exact hlen
  | false =>
    rw [cond_false]
    have : n ≠ 6 := fun e => by subst e; cases h6
    have := nx (by omega)
    omega
end Go.Proofs.YtfmjehkohlbebaaGreatDoor.topPiped
