/-
  TopDue is true at every input: out of the runs. No conditions.
-/
import Derived.Test.YtfmjehkohlbebaaGreatDoorDueR0
import Derived.Test.YtfmjehkohlbebaaGreatDoorDueR1
import Derived.Test.YtfmjehkohlbebaaGreatDoorDueR2
import Derived.Test.YtfmjehkohlbebaaGreatDoorDueR3
import Derived.Test.YtfmjehkohlbebaaGreatDoorDueR4
import Derived.Test.YtfmjehkohlbebaaGreatDoorDueR5
import Derived.Test.YtfmjehkohlbebaaGreatDoorDueR6
import Derived.Test.YtfmjehkohlbebaaGreatDoorDueR7
import Derived.Test.YtfmjehkohlbebaaGreatDoorDueR8
import Derived.Test.YtfmjehkohlbebaaGreatDoorDueR9
import Derived.Test.YtfmjehkohlbebaaGreatDoorDueR10
import Derived.Test.YtfmjehkohlbebaaGreatDoorDueR11
import Derived.Test.YtfmjehkohlbebaaGreatDoorDueR12
import Derived.Test.YtfmjehkohlbebaaGreatDoorDueR13
import Derived.Test.YtfmjehkohlbebaaGreatDoorDueR14
import Derived.Test.YtfmjehkohlbebaaGreatDoorDueR15
import Derived.Test.YtfmjehkohlbebaaGreatDoorDueC
set_option linter.unusedVariables false
set_option maxRecDepth 100000
namespace Go.Proofs.YtfmjehkohlbebaaGreatDoor.topDue
open Go Eng Den Ast
theorem runs1 : ∀ k, 3 * k < 1 → run 1 k = true := fun k hk =>
  match k, hk with
  | 0, _ => r1_0
  | _ + 1, hk => absurd hk (by omega)
theorem runs2 : ∀ k, 3 * k < 2 → run 2 k = true := fun k hk =>
  match k, hk with
  | 0, _ => r2_0
  | _ + 1, hk => absurd hk (by omega)
theorem runs3 : ∀ k, 3 * k < 6 → run 3 k = true := fun k hk =>
  match k, hk with
  | 0, _ => r3_0
  | 1, _ => r3_1
  | _ + 2, hk => absurd hk (by omega)
theorem runs4 : ∀ k, 3 * k < 24 → run 4 k = true := fun k hk =>
  match k, hk with
  | 0, _ => r4_0
  | 1, _ => r4_1
  | 2, _ => r4_2
  | 3, _ => r4_3
  | 4, _ => r4_4
  | 5, _ => r4_5
  | 6, _ => r4_6
  | 7, _ => r4_7
  | _ + 8, hk => absurd hk (by omega)
theorem runs5 : ∀ k, 3 * k < 120 → run 5 k = true := fun k hk =>
  match k, hk with
  | 0, _ => r5_0
  | 1, _ => r5_1
  | 2, _ => r5_2
  | 3, _ => r5_3
  | 4, _ => r5_4
  | 5, _ => r5_5
  | 6, _ => r5_6
  | 7, _ => r5_7
  | 8, _ => r5_8
  | 9, _ => r5_9
  | 10, _ => r5_10
  | 11, _ => r5_11
  | 12, _ => r5_12
  | 13, _ => r5_13
  | 14, _ => r5_14
  | 15, _ => r5_15
  | 16, _ => r5_16
  | 17, _ => r5_17
  | 18, _ => r5_18
  | 19, _ => r5_19
  | 20, _ => r5_20
  | 21, _ => r5_21
  | 22, _ => r5_22
  | 23, _ => r5_23
  | 24, _ => r5_24
  | 25, _ => r5_25
  | 26, _ => r5_26
  | 27, _ => r5_27
  | 28, _ => r5_28
  | 29, _ => r5_29
  | 30, _ => r5_30
  | 31, _ => r5_31
  | 32, _ => r5_32
  | 33, _ => r5_33
  | 34, _ => r5_34
  | 35, _ => r5_35
  | 36, _ => r5_36
  | 37, _ => r5_37
  | 38, _ => r5_38
  | 39, _ => r5_39
  | _ + 40, hk => absurd hk (by omega)
theorem runs6 : ∀ k, 3 * k < 720 → run 6 k = true := fun k hk =>
  match k, hk with
  | 0, _ => r6_0
  | 1, _ => r6_1
  | 2, _ => r6_2
  | 3, _ => r6_3
  | 4, _ => r6_4
  | 5, _ => r6_5
  | 6, _ => r6_6
  | 7, _ => r6_7
  | 8, _ => r6_8
  | 9, _ => r6_9
  | 10, _ => r6_10
  | 11, _ => r6_11
  | 12, _ => r6_12
  | 13, _ => r6_13
  | 14, _ => r6_14
  | 15, _ => r6_15
  | 16, _ => r6_16
  | 17, _ => r6_17
  | 18, _ => r6_18
  | 19, _ => r6_19
  | 20, _ => r6_20
  | 21, _ => r6_21
  | 22, _ => r6_22
  | 23, _ => r6_23
  | 24, _ => r6_24
  | 25, _ => r6_25
  | 26, _ => r6_26
  | 27, _ => r6_27
  | 28, _ => r6_28
  | 29, _ => r6_29
  | 30, _ => r6_30
  | 31, _ => r6_31
  | 32, _ => r6_32
  | 33, _ => r6_33
  | 34, _ => r6_34
  | 35, _ => r6_35
  | 36, _ => r6_36
  | 37, _ => r6_37
  | 38, _ => r6_38
  | 39, _ => r6_39
  | 40, _ => r6_40
  | 41, _ => r6_41
  | 42, _ => r6_42
  | 43, _ => r6_43
  | 44, _ => r6_44
  | 45, _ => r6_45
  | 46, _ => r6_46
  | 47, _ => r6_47
  | 48, _ => r6_48
  | 49, _ => r6_49
  | 50, _ => r6_50
  | 51, _ => r6_51
  | 52, _ => r6_52
  | 53, _ => r6_53
  | 54, _ => r6_54
  | 55, _ => r6_55
  | 56, _ => r6_56
  | 57, _ => r6_57
  | 58, _ => r6_58
  | 59, _ => r6_59
  | 60, _ => r6_60
  | 61, _ => r6_61
  | 62, _ => r6_62
  | 63, _ => r6_63
  | 64, _ => r6_64
  | 65, _ => r6_65
  | 66, _ => r6_66
  | 67, _ => r6_67
  | 68, _ => r6_68
  | 69, _ => r6_69
  | 70, _ => r6_70
  | 71, _ => r6_71
  | 72, _ => r6_72
  | 73, _ => r6_73
  | 74, _ => r6_74
  | 75, _ => r6_75
  | 76, _ => r6_76
  | 77, _ => r6_77
  | 78, _ => r6_78
  | 79, _ => r6_79
  | 80, _ => r6_80
  | 81, _ => r6_81
  | 82, _ => r6_82
  | 83, _ => r6_83
  | 84, _ => r6_84
  | 85, _ => r6_85
  | 86, _ => r6_86
  | 87, _ => r6_87
  | 88, _ => r6_88
  | 89, _ => r6_89
  | 90, _ => r6_90
  | 91, _ => r6_91
  | 92, _ => r6_92
  | 93, _ => r6_93
  | 94, _ => r6_94
  | 95, _ => r6_95
  | 96, _ => r6_96
  | 97, _ => r6_97
  | 98, _ => r6_98
  | 99, _ => r6_99
  | 100, _ => r6_100
  | 101, _ => r6_101
  | 102, _ => r6_102
  | 103, _ => r6_103
  | 104, _ => r6_104
  | 105, _ => r6_105
  | 106, _ => r6_106
  | 107, _ => r6_107
  | 108, _ => r6_108
  | 109, _ => r6_109
  | 110, _ => r6_110
  | 111, _ => r6_111
  | 112, _ => r6_112
  | 113, _ => r6_113
  | 114, _ => r6_114
  | 115, _ => r6_115
  | 116, _ => r6_116
  | 117, _ => r6_117
  | 118, _ => r6_118
  | 119, _ => r6_119
  | 120, _ => r6_120
  | 121, _ => r6_121
  | 122, _ => r6_122
  | 123, _ => r6_123
  | 124, _ => r6_124
  | 125, _ => r6_125
  | 126, _ => r6_126
  | 127, _ => r6_127
  | 128, _ => r6_128
  | 129, _ => r6_129
  | 130, _ => r6_130
  | 131, _ => r6_131
  | 132, _ => r6_132
  | 133, _ => r6_133
  | 134, _ => r6_134
  | 135, _ => r6_135
  | 136, _ => r6_136
  | 137, _ => r6_137
  | 138, _ => r6_138
  | 139, _ => r6_139
  | 140, _ => r6_140
  | 141, _ => r6_141
  | 142, _ => r6_142
  | 143, _ => r6_143
  | 144, _ => r6_144
  | 145, _ => r6_145
  | 146, _ => r6_146
  | 147, _ => r6_147
  | 148, _ => r6_148
  | 149, _ => r6_149
  | 150, _ => r6_150
  | 151, _ => r6_151
  | 152, _ => r6_152
  | 153, _ => r6_153
  | 154, _ => r6_154
  | 155, _ => r6_155
  | 156, _ => r6_156
  | 157, _ => r6_157
  | 158, _ => r6_158
  | 159, _ => r6_159
  | 160, _ => r6_160
  | 161, _ => r6_161
  | 162, _ => r6_162
  | 163, _ => r6_163
  | 164, _ => r6_164
  | 165, _ => r6_165
  | 166, _ => r6_166
  | 167, _ => r6_167
  | 168, _ => r6_168
  | 169, _ => r6_169
  | 170, _ => r6_170
  | 171, _ => r6_171
  | 172, _ => r6_172
  | 173, _ => r6_173
  | 174, _ => r6_174
  | 175, _ => r6_175
  | 176, _ => r6_176
  | 177, _ => r6_177
  | 178, _ => r6_178
  | 179, _ => r6_179
  | 180, _ => r6_180
  | 181, _ => r6_181
  | 182, _ => r6_182
  | 183, _ => r6_183
  | 184, _ => r6_184
  | 185, _ => r6_185
  | 186, _ => r6_186
  | 187, _ => r6_187
  | 188, _ => r6_188
  | 189, _ => r6_189
  | 190, _ => r6_190
  | 191, _ => r6_191
  | 192, _ => r6_192
  | 193, _ => r6_193
  | 194, _ => r6_194
  | 195, _ => r6_195
  | 196, _ => r6_196
  | 197, _ => r6_197
  | 198, _ => r6_198
  | 199, _ => r6_199
  | 200, _ => r6_200
  | 201, _ => r6_201
  | 202, _ => r6_202
  | 203, _ => r6_203
  | 204, _ => r6_204
  | 205, _ => r6_205
  | 206, _ => r6_206
  | 207, _ => r6_207
  | 208, _ => r6_208
  | 209, _ => r6_209
  | 210, _ => r6_210
  | 211, _ => r6_211
  | 212, _ => r6_212
  | 213, _ => r6_213
  | 214, _ => r6_214
  | 215, _ => r6_215
  | 216, _ => r6_216
  | 217, _ => r6_217
  | 218, _ => r6_218
  | 219, _ => r6_219
  | 220, _ => r6_220
  | 221, _ => r6_221
  | 222, _ => r6_222
  | 223, _ => r6_223
  | 224, _ => r6_224
  | 225, _ => r6_225
  | 226, _ => r6_226
  | 227, _ => r6_227
  | 228, _ => r6_228
  | 229, _ => r6_229
  | 230, _ => r6_230
  | 231, _ => r6_231
  | 232, _ => r6_232
  | 233, _ => r6_233
  | 234, _ => r6_234
  | 235, _ => r6_235
  | 236, _ => r6_236
  | 237, _ => r6_237
  | 238, _ => r6_238
  | 239, _ => r6_239
  | _ + 240, hk => absurd hk (by omega)
theorem lens : ∀ n, n ≤ 6 → (perms n).length ≤ [1, 1, 2, 6, 24, 120, 720].getD n 0
  | 0, _ => Nat.le_of_ble_eq_true (by kernel_rfl)
  | 1, _ => Nat.le_of_ble_eq_true (by kernel_rfl)
  | 2, _ => Nat.le_of_ble_eq_true (by kernel_rfl)
  | 3, _ => Nat.le_of_ble_eq_true (by kernel_rfl)
  | 4, _ => Nat.le_of_ble_eq_true (by kernel_rfl)
  | 5, _ => Nat.le_of_ble_eq_true (by kernel_rfl)
  | 6, _ => Nat.le_of_ble_eq_true (by kernel_rfl)
  | _ + 7, h => absurd h (by omega)
theorem runs : ∀ n k, 1 ≤ n → n ≤ 6 → 3 * k < (perms n).length → run n k = true := fun n k h1 h6 hk => by
  have hl := lens n h6
  match n, h1, h6 with
  | 1, _, _ => exact runs1 k (Nat.lt_of_lt_of_le hk hl)
  | 2, _, _ => exact runs2 k (Nat.lt_of_lt_of_le hk hl)
  | 3, _, _ => exact runs3 k (Nat.lt_of_lt_of_le hk hl)
  | 4, _, _ => exact runs4 k (Nat.lt_of_lt_of_le hk hl)
  | 5, _, _ => exact runs5 k (Nat.lt_of_lt_of_le hk hl)
  | 6, _, _ => exact runs6 k (Nat.lt_of_lt_of_le hk hl)
  | 0, h, _ => omega
  | _ + 7, _, h => omega

theorem cell_heap {W : World} {a : Addr} {v : Value} (h : W.cell? a = some v) : a.spot = none ∧ ∃ cs ty fz, W.heap[a.block]? = some (.cells cs ty fz) ∧ cs[a.off]? = some v := by
  refine ⟨World.cell?_spot h, ?_⟩
  unfold World.cell? at h
  split at h
  · rename_i cs ty fz hb
    refine ⟨cs, ty, fz, hb, ?_⟩
    have := World.cell?_spot (w := W) (a := a) (v := v) (by unfold World.cell?; rw [hb]; exact h)
    simpa [this] using h
  all_goals cases h

theorem w (W0 : World) (u : Value) (h : u = .slice none 0 0 ∨ ∃ a len cap, u = .slice (some a) len cap ∧ len ≤ 9223372036854775807 ∧ ∀ i, i < len → ∃ z : Int, W0.cell? (a.add i) = some (.int .i64 z)) : Does W0 Tryz.prog 5 #[u] [] fun v _ => v = .bool true := by
  have none8 : ∀ (b : Den.P) x, (fun _ => none : Rho) b = some x → b.num < P.num s8 := fun b x h => by cases h
  rcases h with rfl | ⟨a, len, cap, rfl, hlen, hz⟩
  · exact law (ρ := fun _ => none) zn ⟨[], by simp, trivial⟩ (startZ W0 _ none8) rfl
  rcases Nat.eq_zero_or_pos len with rfl | hpos
  · exact law (ρ := fun _ => none) ze ⟨[], by simp, trivial⟩ (startZ W0 _ none8) ⟨a, cap, rfl⟩
  obtain ⟨z0, hz0⟩ := hz 0 hpos
  obtain ⟨hs, cs, ty, fz, hb, hc0⟩ := cell_heap hz0
  obtain ⟨r, o, sp⟩ := a
  have hs : sp = none := hs
  subst hs
  have hb : W0.heap[r]? = some (.cells cs ty fz) := hb
  have hcell : ∀ i, i < len → ∃ z : Int, cs[o + i]? = some (.int .i64 z) := fun i hi => by
    obtain ⟨z, h1⟩ := hz i hi
    obtain ⟨_, cs', ty', fz', hb', hc'⟩ := cell_heap h1
    have e1 : ((⟨r, o, none⟩ : Addr).add i).block = r := by simp only [Addr.add]; split <;> simp_all
    have e2 : ((⟨r, o, none⟩ : Addr).add i).off = o + i := by simp only [Addr.add]; split <;> simp_all
    rw [e1, hb] at hb'
    rw [e2] at hc'
    cases hb'
    exact ⟨z, hc'⟩
  have hn : ∃ n, 1 ≤ n ∧ n ≤ 6 ∧ n ≤ len ∧ (n < 6 → n = len) := by
    by_cases h6 : len < 6
    · exact ⟨len, hpos, by omega, Nat.le_refl _, fun _ => rfl⟩
    · exact ⟨6, by omega, by omega, by omega, fun h => by omega⟩
  obtain ⟨n, n1, n6, nl, nx⟩ := hn
  have hzs : ∃ zs : List Int, zs.length = n ∧ ∀ i z, zs[i]? = some z → cs[o + i]? = some (.int .i64 z) := by
    refine ⟨(List.range n).map fun i => if hi : i < len then Classical.choose (hcell i hi) else 0, by simp, fun i z hiz => ?_⟩
    have hlt := (List.getElem?_eq_some_iff.1 hiz).1
    have hin : i < n := by simpa using hlt
    rw [List.getElem?_map, List.getElem?_range hin] at hiz
    simp only [Option.map_some, Option.some.injEq] at hiz
    have hil : i < len := by omega
    rw [dif_pos hil] at hiz
    rw [← hiz]
    exact Classical.choose_spec (hcell i hil)
  obtain ⟨zs, hzl, hzc⟩ := hzs
  have hd : ∃ d : Nat → Nat, d = fun i => (Den.lowZ (zs.getD i 0) 40).toNat := ⟨_, rfl⟩
  obtain ⟨d, hd⟩ := hd
  obtain ⟨m, hm, hr, hmn⟩ := ris_perms d n
  obtain ⟨k, hk, hks⟩ := mem_seg hm
  have hq := rho_qs d len r o
  have hcs : o + n ≤ cs.size := by
    have h1 : n - 1 < zs.length := by omega
    have h2 := hzc (n - 1) _ (List.getElem?_eq_getElem h1)
    have := (Array.getElem?_eq_some_iff.1 h2).1
    omega
  have hlist : cs.toList = cs.toList.take o ++ (zs.map (fun z => Value.int .i64 z) ++ cs.toList.drop (o + n)) := by
    have e1 : zs.map (fun z => Value.int .i64 z) = (cs.toList.drop o).take n := by
      apply List.ext_getElem?
      intro i
      rw [List.getElem?_take]
      by_cases hi : i < n
      · rw [if_pos hi, List.getElem?_drop, List.getElem?_map, List.getElem?_eq_getElem (by omega)]
        have := hzc i _ (List.getElem?_eq_getElem (by omega))
        rw [Array.getElem?_toList, this]
        rfl
      · rw [if_neg hi, List.getElem?_eq_none (by simp; omega)]
    rw [e1, ← List.drop_drop, List.take_append_drop, List.take_append_drop]
  have hbs : BsR W0 (rho d len r o) s7 3 (lsN n) [] := by
    refine ⟨r, cs.toList.take o, zs.map (fun z => Value.int .i64 z), cs.toList.drop (o + n), (ty, fz), ?_, ?_, ?_, ?_, trivial⟩
    · show some (r, o) = some (r, (cs.toList.take o).length)
      rw [List.length_take, Array.length_toList, Nat.min_eq_left (by omega)]
    · rw [← hlist]; simpa using hb
    · refine rls_ls d hq (List.range n) zs (fun i hi => by have := List.mem_range.1 hi; omega) (by simp [hzl]) fun j i z h1 h2 => ?_
      have hj := (List.getElem?_eq_some_iff.1 h1).1
      have hjn : j < n := by simpa using hj
      rw [List.getElem?_range hjn, Option.some.injEq] at h1
      subst h1
      have hb40 := lowZ_bd z 40 (by omega)
      have e : zs.getD j 0 = z := by rw [List.getD_eq_getElem?_getD, h2]; rfl
      rw [hd]
      show Den.lowZ z 40 = ((Den.lowZ (zs.getD j 0) 40).toNat : Int)
      rw [e]
      omega
    · rw [List.all_eq_true]
      intro x hx
      obtain ⟨i, _, rfl⟩ := List.mem_map.1 hx
      rfl
  refine law (ρ := rho d len r o) (runs n k n1 n6 hk) ⟨_, hks, ris_ord hq hr fun y hy => by have := hmn y hy; omega⟩ (start W0 _ n rho_old hbs) ?_
  refine ⟨len, 0, r, o, cap, rfl, rfl, nl, ?_, rfl⟩
  cases h6 : Nat.beq n 6 with
  | true => rw [cond_true]; exact hlen
  | false =>
    rw [cond_false]
    have : n ≠ 6 := fun e => by subst e; cases h6
    have := nx (by omega)
    omega
end Go.Proofs.YtfmjehkohlbebaaGreatDoor.topDue
