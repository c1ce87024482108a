/-
  The keys of a map, sorted. No conditions but those that each theorem names.
-/
import Derived.Shelf.SlIterI.Nil
import Derived.Shelf.SortM.Plain
import Derived.Shelf.SortM.SortNone
import Derived.Test.YtfmjehkohlbebaaGreatDoorProg
import Derived.Test.YtfmjehkohlbebaaGreatDoorE4
import Derived.Test.YtfmjehkohlbebaaGreatDoorD5
import Derived.Test.YtfmjehkohlbebaaGreatDoorD6
import Derived.Test.YtfmjehkohlbebaaGreatDoorTB
import Derived.Test.YtfmjehkohlbebaaGreatDoorEA
import Derived.Test.YtfmjehkohlbebaaGreatDoorD2
namespace Go.Proofs
open Go.RowKit Go.Maps Go.Sort Go.Shelf
def Tryz.keysA_ren : Go.Shelf.Ren := ⟨fun | 7 => 248 | 10 => 274 | n => n, fun | 23 => 161 | 26 => 3 | 3 => 3 | 28 => 355 | 0 => 0 | 27 => 354 | 33 => 94 | 4 => 4 | n => n, fun | n => n⟩
theorem Tryz.keysA : Go.Proofs.SlLaysZI.n7 Tryz.prog Tryz.keysA_ren := {
  mixed := by kernel_rfl,
  f7 := ⟨Tryz.f248.name, by decide, Tryz.func248.trans (congrArg some (by kernel_rfl))⟩,
  f10 := ⟨Tryz.f274.name, by decide, Tryz.func274.trans (congrArg some (by kernel_rfl))⟩,
  t0 := Tryz.underlying0,
  a0 := Tryz.isAgg0,
  z0 := Tryz.sizeOf0,
  v0 := Tryz.zeroValue0,
  t4 := Tryz.underlying4,
  a4 := Tryz.isAgg4,
  z4 := Tryz.sizeOf4,
  v4 := Tryz.zeroValue4,
  t23 := Tryz.underlying161,
  a23 := Tryz.isAgg161,
  z23 := Tryz.sizeOf161,
  v23 := Tryz.zeroValue161,
  t26 := Tryz.underlying3,
  a26 := Tryz.isAgg3,
  z26 := Tryz.sizeOf3,
  v26 := Tryz.zeroValue3,
  t27 := Tryz.underlying354,
  a27 := Tryz.isAgg354,
  z27 := Tryz.sizeOf354,
  v27 := Tryz.zeroValue354,
  t28 := Tryz.underlying355,
  a28 := Tryz.isAgg355,
  z28 := Tryz.sizeOf355,
  v28 := Tryz.zeroValue355,
  t33 := Tryz.underlying94,
  a33 := Tryz.isAgg94,
  z33 := Tryz.sizeOf94,
  v33 := Tryz.zeroValue94
}
def Tryz.keysB_ren : Go.Shelf.Ren := ⟨fun | 7 => 306 | 10 => 338 | n => n, fun | 23 => 254 | 26 => 3 | 3 => 258 | 28 => 355 | 0 => 0 | 27 => 354 | 33 => 94 | 4 => 4 | n => n, fun | n => n⟩
theorem Tryz.keysB : Go.Proofs.SlLaysZI.n7 Tryz.prog Tryz.keysB_ren := {
  mixed := by kernel_rfl,
  f7 := ⟨Tryz.f306.name, by decide, Tryz.func306.trans (congrArg some (by kernel_rfl))⟩,
  f10 := ⟨Tryz.f338.name, by decide, Tryz.func338.trans (congrArg some (by kernel_rfl))⟩,
  t0 := Tryz.underlying0,
  a0 := Tryz.isAgg0,
  z0 := Tryz.sizeOf0,
  v0 := Tryz.zeroValue0,
  t4 := Tryz.underlying4,
  a4 := Tryz.isAgg4,
  z4 := Tryz.sizeOf4,
  v4 := Tryz.zeroValue4,
  t23 := Tryz.underlying254,
  a23 := Tryz.isAgg254,
  z23 := Tryz.sizeOf254,
  v23 := Tryz.zeroValue254,
  t26 := Tryz.underlying3,
  a26 := Tryz.isAgg3,
  z26 := Tryz.sizeOf3,
  v26 := Tryz.zeroValue3,
  t27 := Tryz.underlying354,
  a27 := Tryz.isAgg354,
  z27 := Tryz.sizeOf354,
  v27 := Tryz.zeroValue354,
  t28 := Tryz.underlying355,
  a28 := Tryz.isAgg355,
  z28 := Tryz.sizeOf355,
  v28 := Tryz.zeroValue355,
  t33 := Tryz.underlying94,
  a33 := Tryz.isAgg94,
  z33 := Tryz.sizeOf94,
  v33 := Tryz.zeroValue94
}
def Tryz.keysC_ren : Go.Shelf.Ren := ⟨fun | 7 => 389 | 10 => 403 | n => n, fun | 23 => 251 | 26 => 3 | 3 => 461 | 28 => 355 | 0 => 0 | 27 => 354 | 33 => 94 | 4 => 4 | n => n, fun | n => n⟩
theorem Tryz.keysC : Go.Proofs.SlLaysZI.n7 Tryz.prog Tryz.keysC_ren := {
  mixed := by kernel_rfl,
  f7 := ⟨Tryz.f389.name, by decide, Tryz.func389.trans (congrArg some (by kernel_rfl))⟩,
  f10 := ⟨Tryz.f403.name, by decide, Tryz.func403.trans (congrArg some (by kernel_rfl))⟩,
  t0 := Tryz.underlying0,
  a0 := Tryz.isAgg0,
  z0 := Tryz.sizeOf0,
  v0 := Tryz.zeroValue0,
  t4 := Tryz.underlying4,
  a4 := Tryz.isAgg4,
  z4 := Tryz.sizeOf4,
  v4 := Tryz.zeroValue4,
  t23 := Tryz.underlying251,
  a23 := Tryz.isAgg251,
  z23 := Tryz.sizeOf251,
  v23 := Tryz.zeroValue251,
  t26 := Tryz.underlying3,
  a26 := Tryz.isAgg3,
  z26 := Tryz.sizeOf3,
  v26 := Tryz.zeroValue3,
  t27 := Tryz.underlying354,
  a27 := Tryz.isAgg354,
  z27 := Tryz.sizeOf354,
  v27 := Tryz.zeroValue354,
  t28 := Tryz.underlying355,
  a28 := Tryz.isAgg355,
  z28 := Tryz.sizeOf355,
  v28 := Tryz.zeroValue355,
  t33 := Tryz.underlying94,
  a33 := Tryz.isAgg94,
  z33 := Tryz.sizeOf94,
  v33 := Tryz.zeroValue94
}
def Tryz.sortedA_ren : Go.Shelf.Ren := ⟨fun | 6 => 247 | 8 => 273 | 9 => 56 | 11 => 312 | 13 => 100 | 12 => 99 | 23 => 156 | 24 => 157 | 14 => 147 | 15 => 148 | 16 => 149 | 17 => 150 | 18 => 151 | 19 => 152 | 20 => 153 | 21 => 154 | 22 => 155 | 25 => 201 | 26 => 202 | 27 => 203 | 28 => 204 | 29 => 205 | 30 => 206 | 31 => 235 | n => n, fun | 26 => 3 | 28 => 355 | 24 => 26 | 0 => 0 | 3 => 3 | 37 => 74 | 48 => 272 | 50 => 274 | 4 => 4 | 40 => 266 | 39 => 265 | 45 => 106 | 5 => 5 | 9 => 9 | 51 => 311 | 55 => 315 | 57 => 343 | 58 => 144 | 33 => 94 | n => n, fun | n => n⟩
theorem Tryz.sortedA : Go.Proofs.SlLaysZI.n6 Tryz.prog Tryz.sortedA_ren := {
  mixed := by kernel_rfl,
  f6 := ⟨Tryz.f247.name, by decide, Tryz.func247.trans (congrArg some (by kernel_rfl))⟩,
  f8 := ⟨Tryz.f273.name, by decide, Tryz.func273.trans (congrArg some (by kernel_rfl))⟩,
  f11 := ⟨Tryz.f312.name, by decide, Tryz.func312.trans (congrArg some (by kernel_rfl))⟩,
  t0 := Tryz.underlying0,
  a0 := Tryz.isAgg0,
  z0 := Tryz.sizeOf0,
  v0 := Tryz.zeroValue0,
  t24 := Tryz.underlying26,
  a24 := Tryz.isAgg26,
  z24 := Tryz.sizeOf26,
  v24 := Tryz.zeroValue26,
  t26 := Tryz.underlying3,
  a26 := Tryz.isAgg3,
  z26 := Tryz.sizeOf3,
  v26 := Tryz.zeroValue3,
  t28 := Tryz.underlying355,
  a28 := Tryz.isAgg355,
  z28 := Tryz.sizeOf355,
  v28 := Tryz.zeroValue355,
  i26 := by kernel_rfl
}
def Tryz.sortA_ren : Go.Shelf.Ren := ⟨fun | 5 => 56 | 8 => 100 | 7 => 99 | 19 => 156 | 20 => 157 | 10 => 147 | 11 => 148 | 12 => 149 | 13 => 150 | 14 => 151 | 15 => 152 | 16 => 153 | 17 => 154 | 18 => 155 | 30 => 201 | 31 => 202 | 32 => 203 | 33 => 204 | 34 => 205 | 35 => 206 | 40 => 235 | n => n, fun | 23 => 26 | 25 => 3 | 3 => 3 | 32 => 74 | 22 => 26 | 0 => 0 | 44 => 272 | 46 => 274 | 4 => 4 | 36 => 266 | 35 => 265 | 41 => 106 | 5 => 5 | 9 => 9 | 53 => 311 | 57 => 315 | 63 => 343 | 64 => 144 | n => n, fun | n => n⟩
theorem Tryz.sortA : Go.Proofs.SlLaysM.n5 Tryz.prog Tryz.sortA_ren := {
  mixed := by kernel_rfl,
  f5 := ⟨Tryz.f56.name, by decide, Tryz.func56.trans (congrArg some (by kernel_rfl))⟩,
  f7 := ⟨Tryz.f99.name, by decide, Tryz.func99.trans (congrArg some (by kernel_rfl))⟩,
  f8 := Tryz.func100.trans (congrArg some (by kernel_rfl)),
  f10 := ⟨Tryz.f147.name, by decide, Tryz.func147.trans (congrArg some (by kernel_rfl))⟩,
  f11 := ⟨Tryz.f148.name, by decide, Tryz.func148.trans (congrArg some (by kernel_rfl))⟩,
  f12 := ⟨Tryz.f149.name, by decide, Tryz.func149.trans (congrArg some (by kernel_rfl))⟩,
  f13 := ⟨Tryz.f150.name, by decide, Tryz.func150.trans (congrArg some (by kernel_rfl))⟩,
  f14 := ⟨Tryz.f151.name, by decide, Tryz.func151.trans (congrArg some (by kernel_rfl))⟩,
  f15 := ⟨Tryz.f152.name, by decide, Tryz.func152.trans (congrArg some (by kernel_rfl))⟩,
  f16 := ⟨Tryz.f153.name, by decide, Tryz.func153.trans (congrArg some (by kernel_rfl))⟩,
  f17 := ⟨Tryz.f154.name, by decide, Tryz.func154.trans (congrArg some (by kernel_rfl))⟩,
  f18 := ⟨Tryz.f155.name, by decide, Tryz.func155.trans (congrArg some (by kernel_rfl))⟩,
  f19 := Tryz.func156.trans (congrArg some (by kernel_rfl)),
  f20 := Tryz.func157.trans (congrArg some (by kernel_rfl)),
  f30 := ⟨Tryz.f201.name, by decide, Tryz.func201.trans (congrArg some (by kernel_rfl))⟩,
  f31 := Tryz.func202.trans (congrArg some (by kernel_rfl)),
  f32 := Tryz.func203.trans (congrArg some (by kernel_rfl)),
  f33 := ⟨Tryz.f204.name, by decide, Tryz.func204.trans (congrArg some (by kernel_rfl))⟩,
  f34 := ⟨Tryz.f205.name, by decide, Tryz.func205.trans (congrArg some (by kernel_rfl))⟩,
  f35 := ⟨Tryz.f206.name, by decide, Tryz.func206.trans (congrArg some (by kernel_rfl))⟩,
  f40 := ⟨Tryz.f235.name, by decide, Tryz.func235.trans (congrArg some (by kernel_rfl))⟩,
  t0 := Tryz.underlying0,
  a0 := Tryz.isAgg0,
  z0 := Tryz.sizeOf0,
  v0 := Tryz.zeroValue0,
  t3 := Tryz.underlying3,
  a3 := Tryz.isAgg3,
  z3 := Tryz.sizeOf3,
  v3 := Tryz.zeroValue3,
  t4 := Tryz.underlying4,
  a4 := Tryz.isAgg4,
  z4 := Tryz.sizeOf4,
  v4 := Tryz.zeroValue4,
  t5 := Tryz.underlying5,
  a5 := Tryz.isAgg5,
  z5 := Tryz.sizeOf5,
  v5 := Tryz.zeroValue5,
  t9 := Tryz.underlying9,
  a9 := Tryz.isAgg9,
  z9 := Tryz.sizeOf9,
  v9 := Tryz.zeroValue9,
  t22 := Tryz.underlying26,
  a22 := Tryz.isAgg26,
  z22 := Tryz.sizeOf26,
  v22 := Tryz.zeroValue26,
  t23 := Tryz.underlying26,
  a23 := Tryz.isAgg26,
  z23 := Tryz.sizeOf26,
  v23 := Tryz.zeroValue26,
  t25 := Tryz.underlying3,
  a25 := Tryz.isAgg3,
  z25 := Tryz.sizeOf3,
  v25 := Tryz.zeroValue3,
  t32 := Tryz.underlying74,
  a32 := Tryz.isAgg74,
  z32 := Tryz.sizeOf74,
  v32 := Tryz.zeroValue74,
  t35 := Tryz.underlying265,
  a35 := Tryz.isAgg265,
  z35 := Tryz.sizeOf265,
  v35 := Tryz.zeroValue265,
  t36 := Tryz.underlying266,
  a36 := Tryz.isAgg266,
  z36 := Tryz.sizeOf266,
  v36 := Tryz.zeroValue266,
  t41 := Tryz.underlying106,
  a41 := Tryz.isAgg106,
  z41 := Tryz.sizeOf106,
  v41 := Tryz.zeroValue106,
  t44 := Tryz.underlying272,
  a44 := Tryz.isAgg272,
  z44 := Tryz.sizeOf272,
  v44 := Tryz.zeroValue272,
  t46 := Tryz.underlying274,
  a46 := Tryz.isAgg274,
  z46 := Tryz.sizeOf274,
  v46 := Tryz.zeroValue274,
  t53 := Tryz.underlying311,
  a53 := Tryz.isAgg311,
  z53 := Tryz.sizeOf311,
  v53 := Tryz.zeroValue311,
  t57 := Tryz.underlying315,
  a57 := Tryz.isAgg315,
  z57 := Tryz.sizeOf315,
  v57 := Tryz.zeroValue315,
  t63 := Tryz.underlying343,
  a63 := Tryz.isAgg343,
  z63 := Tryz.sizeOf343,
  v63 := Tryz.zeroValue343,
  t64 := Tryz.underlying144,
  a64 := Tryz.isAgg144,
  z64 := Tryz.sizeOf144,
  v64 := Tryz.zeroValue144
}
end Go.Proofs
set_option linter.unusedVariables false
namespace Go.Proofs
open Go.RowKit Go.Maps Go.Sort Go.Shelf Eng
theorem Tryz.sortsA (m : Nat) : AnyZI.SortsIn Tryz.prog Tryz.sortedA_ren Fence.wide m :=
  ⟨fun blk off cap ss W hH hblk hsz => callsIn_wide.2 (AnyM.slices_Sort_int Tryz.sortA blk off cap ss W hH hblk hsz),
   fun p cap W => callsIn_wide.2 (AnyM.slices_Sort_int_none Tryz.sortA p cap W)⟩
def anyR : Value → Option (DataW Unit × List MemPlace) := fun _ => some (.nil, [])
theorem sorted_of (W0 : World) (C : Heap) (g cb h clock : Nat) (E : List Ent) (hg : ∀ (w : World) (D0 : DataW Unit), cb < w.heap.size → w.cell? ⟨cb, 0, none⟩ = some (.map (some h)) → w.ownsMap Tryz.prog 3 anyR h E.length D0 → SeqGives Fence.wide 1 Tryz.prog g #[.pointer (some ⟨cb, 0, none⟩)] encZ (fun ss => ss.Perm (intKeys D0)) (Maps.size D0) w)
    (he : ∀ args w, (callFunc g args).run Tryz.prog w = .ok (.enter g args) w) (hc : Rd W0 C ⟨cb, 0, none⟩ (.map (some h))) (hh : At W0 C h (mapO E clock)) (hst : MapKept.Stamped (E.map entE).toArray clock) (hwf : ∀ p ∈ E, (Lit.int .i64 p.1).wf = true) (hlen : E.length ≤ 1000000) :
    Does W0 Tryz.prog 247 #[.func (.func g) #[] #[.pointer (some ⟨cb, 0, none⟩)]] C (fun v C' => ∃ ss : List Int, ss.Perm (E.map (·.1)) ∧ ((ss = [] ∧ v = .slice none 0 0 ∧ C' = C) ∨
      ∃ b cap rest, ss ≠ [] ∧ v = .slice (some ⟨b, 0, none⟩) ss.length cap ∧ C' = [(b, .cells ((ss.mergeSort leI).map encZ ++ rest).toArray 3 (0, 0))] :: C ∧ (∀ p ∈ C.flatten, p.1 ≠ b) ∧ ss.length ≤ cap ∧ cap ≤ maxLen ∧ ((ss.mergeSort leI).map encZ ++ rest).length = cap)) := ⟨fun X w hs => by
  have hs' := hs.weak (Weak.skip X C)
  have hcell := hc w hs'
  have hheap := hh w hs'
  have hcb : cb < w.heap.size := by
    unfold World.cell? at hcell
    cases hx : w.heap[cb]? with
    | none => simp [hx] at hcell
    | some o => exact (Array.getElem?_eq_some_iff.1 hx).1
  have hu3 : Tryz.prog.underlying 3 = some (.int .i64) := Tryz.underlying3
  have hkey : ∀ p ∈ E, keyOf Tryz.prog 3 (.int .i64 p.1) = some (.int .i64 p.1) := fun p hp => keyOf_int_mk hu3 (hwf p hp)
  have hown : w.ownsMap Tryz.prog 3 anyR h E.length (.map (((E.map entE).map (WideElems.rg Tryz.prog 3 anyR)).foldr DataW.insert [])) :=
    ⟨(E.map entE).toArray, clock, hheap, ⟨by simp only [List.size_toArray, List.length_map]; unfold maxLen; omega, hst, fun x hx => by
      obtain ⟨p, hp, rfl⟩ := List.mem_map.1 (show x ∈ E.map entE from hx)
      exact ⟨_, WideElems.rd_mk (hkey p hp) rfl⟩⟩, by simp, rfl⟩
  have hperm : (intKeys (DataW.map (((E.map entE).map (WideElems.rg Tryz.prog 3 anyR)).foldr DataW.insert []))).Perm (E.map (·.1)) := by
    have h1 := (WideShapes.sorted_perm ((E.map entE).map (WideElems.rg Tryz.prog 3 anyR))).map fun p : Lit × DataW Unit => _root_.Go.intOf p.1
    refine h1.trans ?_
    rw [List.map_map, List.map_map]
    refine .of_eq (List.map_congr_left fun p hp => ?_)
    have h2 : WideElems.rd Tryz.prog 3 anyR (entE p) = some (.int .i64 p.1, .nil) := WideElems.rd_mk (R := anyR) (val := p.2.1) (born := p.2.2) (yv := (DataW.nil, [])) (hkey p hp) rfl
    have h3 := WideElems.rg_of h2
    simp only [Function.comp_apply]
    rw [h3]
    rfl
  have hsz : Maps.size (DataW.map (((E.map entE).map (WideElems.rg Tryz.prog 3 anyR)).foldr DataW.insert [])) = E.length := by
    rw [Maps.size_eq, (WideShapes.sorted_perm _).length_eq]
    simp
  have hseq := hg w _ hcb hcell hown
  rw [hsz] at hseq
  have cS := AnyZI.sorted_in Tryz.sortedA Fence.wide 4 trivial trivial trivial trivial rfl (by omega) (Tryz.sortsA _) (enters_of Tryz.func56 (by kernel_rfl) rfl) g #[.pointer (some ⟨cb, 0, none⟩)] trivial he _ E.length (by unfold maxLen; omega) (by omega) w hseq
  refine ((callsIn_wide (n := 4)).1 cS).mono ?_
  rintro e w' ⟨v, ss, rfl, hS, hrow, hnil, hb⟩
  have hkeep : ∀ {C0 : Heap}, (∀ p ∈ C0.flatten, p ∈ (X :: C).flatten) → ∀ p ∈ C0.flatten, W0.heap.size ≤ p.1 ∧ w'.heap[p.1]? = some p.2 := fun hC0 p hp => by
    obtain ⟨h1, h2⟩ := hs.own p (hC0 p hp)
    exact ⟨h1, (hb.block p.1 (Array.getElem?_eq_some_iff.1 h2).1).trans h2⟩
  have base : ∀ k, k < W0.heap.size → w'.heap[k]? = W0.heap[k]? := fun k hk => (hb.block k (Nat.lt_of_lt_of_le hk hs.size)).trans (hs.base k hk)
  rcases hrow.2 with ⟨rfl, hz⟩ | ⟨gb, cap, cur, rfl, r0, r1, r2, r3, r4, r5⟩
  · have hss : ss = [] := List.eq_nil_of_length_eq_zero hz
    exact ⟨_, C, rfl, ⟨ss, hS.trans hperm, .inl ⟨hss, rfl, rfl⟩⟩, ⟨hb.os.trans hs.os, hb.tape.trans hs.tape, hb.output.trans hs.output, Nat.le_trans hs.size hb.size, base, hs.nodup, hkeep fun p hp => hp⟩⟩
  · have hlen0 : ((ss.mergeSort fun x y => decide (x ≤ y)).map encZ).length = ss.length := by simp
    have hcur : cur = ((ss.mergeSort leI).map encZ ++ cur.toList.drop ss.length).toArray := by
      have : cur.toList = (ss.mergeSort leI).map encZ ++ cur.toList.drop ss.length := by
        rw [Nat.mul_one] at r5
        rw [← r5]
        exact (List.take_append_drop ss.length cur.toList).symm
      rw [← this]
    refine ⟨_, [(gb, .cells ((ss.mergeSort leI).map encZ ++ cur.toList.drop ss.length).toArray 3 (0, 0))] :: C, rfl, ⟨ss, hS.trans hperm, .inr ⟨gb, cap, cur.toList.drop ss.length, fun e => (by have := hnil.2 e; cases this), rfl, rfl, ?_, r2, r3, ?_⟩⟩, ⟨hb.os.trans hs.os, hb.tape.trans hs.tape, hb.output.trans hs.output, Nat.le_trans hs.size hb.size, base, ?_, ?_⟩⟩
    · intro p hp e
      have := (Array.getElem?_eq_some_iff.1 (hs.own p (by simp only [List.flatten_cons, List.mem_append]; exact .inr hp)).2).1
      omega
    · have := congrArg Array.size hcur
      simp only [List.size_toArray] at this
      rw [← this, r4, Nat.mul_one]
    · have hnd := hs.nodup
      have hlt : ∀ p ∈ (X :: C).flatten, p.1 < w.heap.size := fun p hp => (Array.getElem?_eq_some_iff.1 (hs.own p hp).2).1
      have hp : (X :: [(gb, Obj.cells ((ss.mergeSort leI).map encZ ++ cur.toList.drop ss.length).toArray 3 (0, 0))] :: C).flatten.Perm ((gb, Obj.cells ((ss.mergeSort leI).map encZ ++ cur.toList.drop ss.length).toArray 3 (0, 0)) :: (X :: C).flatten) := by
        simp only [List.flatten_cons, List.cons_append, List.nil_append]
        exact List.perm_middle
      refine (hp.map Prod.fst).nodup_iff.2 ?_
      rw [List.map_cons]
      refine List.nodup_cons.2 ⟨fun hin => ?_, hnd⟩
      obtain ⟨p, hp, he⟩ := List.mem_map.1 hin
      have := hlt p hp
      simp only at he
      omega
    · intro p hp
      have hp' : p = (gb, Obj.cells ((ss.mergeSort leI).map encZ ++ cur.toList.drop ss.length).toArray 3 (0, 0)) ∨ p ∈ (X :: C).flatten := by
        simp only [List.flatten_cons, List.cons_append, List.nil_append, List.mem_append, List.mem_cons] at hp ⊢
        rcases hp with h | h | h
        · exact .inr (.inl h)
        · exact .inl h
        · exact .inr (.inr h)
      rcases hp' with rfl | hp'
      · refine ⟨Nat.le_trans hs.size r0, ?_⟩
        rw [← hcur]; exact r1
      · exact hkeep (fun p hp => hp) p hp'⟩
end Go.Proofs
set_option linter.unusedVariables false
namespace Den
open Go Eng
theorem ins_perm (x : Int) : ∀ l : List Int, (ins x l).Perm (x :: l)
  | [] => .refl _
  | y :: r => by
    unfold ins
    split
    · exact .refl _
    · exact ((ins_perm x r).cons y).trans (.swap x y r)
theorem ins_sorted (x : Int) : ∀ l : List Int, l.Pairwise (· ≤ ·) → (ins x l).Pairwise (· ≤ ·)
  | [], _ => by simp [ins]
  | y :: r, h => by
    obtain ⟨h1, h2⟩ := List.pairwise_cons.1 h
    unfold ins
    split
    · rename_i hxy
      exact List.pairwise_cons.2 ⟨fun z hz => by
        rcases List.mem_cons.1 hz with rfl | hz
        · exact hxy
        · exact Int.le_trans hxy (h1 z hz), h⟩
    · rename_i hxy
      refine List.pairwise_cons.2 ⟨fun z hz => ?_, ins_sorted x r h2⟩
      rcases List.mem_cons.1 ((ins_perm x r).mem_iff.1 hz) with rfl | hz
      · omega
      · exact h1 z hz
theorem sortI_perm : ∀ l : List Int, (sortI l).Perm l
  | [] => .refl _
  | x :: r => (ins_perm x _).trans ((sortI_perm r).cons x)
theorem sortI_sorted : ∀ l : List Int, (sortI l).Pairwise (· ≤ ·)
  | [] => List.Pairwise.nil
  | x :: r => ins_sorted x _ (sortI_sorted r)
theorem sort_eq {ss l : List Int} (h : ss.Perm l) : ss.mergeSort leI = sortI l := by
  have h1 : (ss.mergeSort leI).Perm (sortI l) := (List.mergeSort_perm ss leI).trans (h.trans (sortI_perm l).symm)
  have h2 : (ss.mergeSort leI).Pairwise (· ≤ ·) := by
    have := List.pairwise_mergeSort (le := leI) (fun a b c h1 h2 => by simp only [leI, decide_eq_true_eq] at *; omega) (fun a b => by simp only [leI, Bool.or_eq_true, decide_eq_true_eq]; omega) ss
    exact this.imp fun h => by simpa [leI] using h
  exact List.Perm.eq_of_pairwise (fun a b _ _ h3 h4 => Int.le_antisymm h3 h4) h2 (sortI_sorted l) h1
theorem keys_ok {ρ : Rho} {c : Nat} : ∀ {E : List (Int × VV × Nat)} {E' : List Ent}, EnR ρ E E' → bornsB c E = true → keysB E = true →
    E'.map (·.1) = E.map (·.1) ∧ E'.map (·.2.2) = E.map (·.2.2) ∧ (∀ p ∈ E', p.2.2 < c) ∧ (E'.map (·.2.2)).Nodup ∧ (E'.map (·.1)).Nodup ∧ ∀ p ∈ E', (Lit.int .i64 p.1).wf = true
  | [], E', hE, _, _ => by cases hE; simp
  | (k, v, b) :: E, E', hE, hb, hk => by
    obtain ⟨u, r, rfl, hu, hr⟩ := hE
    obtain ⟨i1, i2, i3, i4, i5, i6⟩ := keys_ok hr (and_r hb) (and_r hk)
    have hb1 := Nat.blt_eq.mp (and_l (and_l hb))
    have hb2 := and_r (and_l hb)
    have hk1 := and_l (and_l hk)
    have hk2 := and_r (and_l hk)
    refine ⟨by simp [i1], by simp [i2], fun p hp => ?_, ?_, ?_, fun p hp => ?_⟩
    · rcases List.mem_cons.1 hp with rfl | hp
      · exact hb1
      · exact i3 p hp
    · rw [List.map_cons]
      refine List.nodup_cons.2 ⟨fun hin => ?_, i4⟩
      rw [i2] at hin
      obtain ⟨q, hq, he⟩ := List.mem_map.1 hin
      have : (E.any fun q => Nat.beq q.2.2 b) = true := List.any_eq_true.2 ⟨q, hq, by rw [he]; simp⟩
      rw [this] at hb2; cases hb2
    · rw [List.map_cons]
      refine List.nodup_cons.2 ⟨fun hin => ?_, i5⟩
      rw [i1] at hin
      obtain ⟨q, hq, he⟩ := List.mem_map.1 hin
      have : (E.any fun q => eqZ q.1 k) = true := List.any_eq_true.2 ⟨q, hq, by rw [he, eqZ_eq]; simp⟩
      rw [this] at hk2; cases hk2
    · rcases List.mem_cons.1 hp with rfl | hp
      · rw [fitZ_eq, decide_eq_true_eq] at hk1
        show (decide (IntKind.i64.min ≤ k) && decide (k ≤ IntKind.i64.max)) = true
        have h1 : IntKind.i64.min = -9223372036854775808 := by decide
        have h2 : IntKind.i64.max = 9223372036854775807 := by decide
        rw [h1, h2, decide_eq_true hk1.1, decide_eq_true hk1.2]
        rfl
      · exact i6 p hp
def SeqK (g : Nat) : Prop := (∀ (w : World) (cb h n : Nat) (D0 : DataW Unit), cb < w.heap.size → w.cell? ⟨cb, 0, none⟩ = some (.map (some h)) → w.ownsMap Go.Proofs.Tryz.prog 3 Go.Proofs.anyR h n D0 → Go.SeqGives Fence.wide 1 Go.Proofs.Tryz.prog g #[.pointer (some ⟨cb, 0, none⟩)] encZ (fun ss => ss.Perm (intKeys D0)) (Maps.size D0) w) ∧
  ∀ args w, (callFunc g args).run Go.Proofs.Tryz.prog w = .ok (.enter g args) w
theorem sortedS_ok (W0 : World) (hcb : callable Go.Proofs.Tryz.prog 247 = true) {gs : List P} (hgs : ∀ q ∈ gs, SeqK q.num) : SpecOk W0 Go.Proofs.Tryz.prog 247 (sortedS 3 gs) := by
  intro vs M nx v M' nx' h
  unfold sortedS at h
  split at h <;> try (cases h; done)
  rename_i g c
  cases hg : (gs.any fun q => q.eqb g) with
  | false => rw [hg] at h; cases h
  | true =>
    rw [hg, cond_true] at h
    obtain ⟨q, hq, he⟩ := List.any_eq_true.1 hg
    have hqg := P.eqb_eq.1 he
    subst hqg
    obtain ⟨hseq, henter⟩ := hgs q hq
    split at h <;> try (cases h; done)
    rename_i t s hm ver hc
    split at h <;> try (cases h; done)
    rename_i E clock ver2 hh
    cases hb : ((bornsB clock E && keysB E) && Nat.ble E.length 1000000) with
    | false => rw [hb] at h; cases h
    | true =>
      rw [hb, cond_true] at h
      have hbo := and_l (and_l hb)
      have hke := and_r (and_l hb)
      have hle := Nat.le_of_ble_eq_true (and_r hb)
      have key : ∀ ρ C us, Rls ρ [VV.fn q [] [.ptr c 0]] us → MR W0 ρ M nx C → Does W0 Go.Proofs.Tryz.prog 247 us.toArray C fun u C' => (E = [] ∧ u = .slice none 0 0 ∧ C' = C) ∨
          ∃ b cap rest, E ≠ [] ∧ u = .slice (some ⟨b, 0, none⟩) E.length cap ∧ C' = [(b, .cells ((sortI (E.map (·.1))).map encZ ++ rest).toArray 3 (0, 0))] :: C ∧ (∀ p ∈ C.flatten, p.1 ≠ b) ∧ E.length ≤ cap ∧ cap ≤ maxLen ∧ ((sortI (E.map (·.1))).map encZ ++ rest).length = cap := by
        intro ρ C us hu hM
        obtain ⟨u, us1, rfl, hu0, hu1⟩ := hu
        cases hu1
        obtain ⟨xs, ys, rfl, hxs, hys⟩ := hu0
        cases hxs
        obtain ⟨u1, us2, rfl, hu1, hu2⟩ := hys
        cases hu2
        obtain ⟨r, cc, hρ, rfl⟩ := hu1
        have hc' : Mm.at M c = .cells t s [.map hm] ver := hc
        have hh' : Mm.at M hm = .mp E clock ver2 := hh
        obtain ⟨r1, c1, ro, h1, h2, h3⟩ := hM.live c (by rw [hc']; trivial)
        rw [hρ] at h1
        cases h1
        rw [hc'] at h3
        obtain ⟨us, rest', rfl, hls, hone, _⟩ := h3
        obtain ⟨w1, us, rfl, hw1, hls⟩ := hls
        cases hls
        obtain ⟨r2, c2, hρ2, rfl⟩ := hw1
        obtain ⟨r3, c3, ro3, g1, g2, g3⟩ := hM.live hm (by rw [hh']; trivial)
        rw [hρ2] at g1
        cases g1
        rw [hh'] at g3
        obtain ⟨E', rfl, hE⟩ := g3
        obtain ⟨i1, i2, i3, i4, i5, i6⟩ := keys_ok hE hbo hke
        have hlen : E'.length = E.length := by have := congrArg List.length i1; simpa using this
        refine (Go.Proofs.sorted_of W0 C q.num r r2 clock E' (fun w D0 a1 a2 a3 => hseq w r r2 _ D0 a1 a2 a3) henter (Rd.of_at (mem_at h2) (by simp)) (mem_at g2) ⟨fun x hx => ?_, ?_, ?_⟩ i6 (by omega)).mono fun u C' hC' => ?_
        · obtain ⟨p, hp, rfl⟩ := List.mem_map.1 (show x ∈ E'.map entE from hx)
          exact i3 p hp
        · have : (E'.map entE).map (·.born) = E'.map (·.2.2) := by rw [List.map_map]; rfl
          show ((E'.map entE).map (·.born)).Nodup
          rw [this]; exact i4
        · have : (E'.map entE).map (·.key) = (E'.map (·.1)).map (Value.int .i64) := by rw [List.map_map, List.map_map]; rfl
          show ((E'.map entE).map (·.key)).Nodup
          rw [this]
          exact i5.map (f := Value.int .i64) (fun a b hab e => hab (by injection e))
        · obtain ⟨ss, hp, h4⟩ := hC'
          rw [i1] at hp
          have hsl : ss.length = E.length := by have := hp.length_eq; simpa using this
          rcases h4 with ⟨rfl, rfl, rfl⟩ | ⟨b, cap, rest, a0, rfl, rfl, a1, a2, a3, a4⟩
          · left
            exact ⟨List.eq_nil_of_length_eq_zero (by rw [← hsl]; rfl), rfl, rfl⟩
          · by_cases hnil : E = []
            · exact absurd (List.eq_nil_of_length_eq_zero (by rw [hsl, hnil]; rfl)) a0
            · right
              rw [sort_eq hp] at a4 ⊢
              rw [hsl] at a2 ⊢
              exact ⟨b, cap, rest, hnil, rfl, rfl, a1, a2, a3, a4⟩
      split at h
      · cases h
        refine ⟨Mono.refl _ _, hcb, fun ρ C us hu hM => (key ρ C us hu hM).mono fun u C' hC' => ?_⟩
        rcases hC' with ⟨_, rfl, rfl⟩ | ⟨b, cap, rest, hn, _⟩
        · exact ⟨ρ, Den.Ext.refl ρ, hM, Keep.refl _ _ _, rfl⟩
        · exact absurd rfl hn
      · rename_i hnn
        cases h
        refine ⟨Mono.new, hcb, fun ρ C us hu hM => (key ρ C us hu hM).mono fun u C' hC' => ?_⟩
        rcases hC' with ⟨hn, _⟩ | ⟨b, cap, rest, hn, rfl, rfl, a1, a2, a3, a4⟩
        · exact absurd hn hnn
        · have hx := hM.ext_put (b, cap)
          refine ⟨ρ.put nx (b, cap), hx, hM.new (o := .cells 3 1 ((sortI (E.map (·.1))).map .i) 0) (ro := .cells ((sortI (E.map (·.1))).map encZ ++ rest).toArray 3 (0, 0)) ?_ (fun p hp => a1 p hp) (by simp) (fun p hp => by simp [hp]), fun b' r' c' ro' _ _ _ hin => by simp [hin], ?_⟩
          · refine ⟨(sortI (E.map (·.1))).map encZ, rest, rfl, ?_, ?_, fun _ => ⟨by rw [a4, Nat.mul_one], a3⟩⟩
            · have : ∀ l : List Int, Rls (ρ.put nx (b, cap)) (l.map .i) (l.map encZ) := by
                intro l
                induction l with
                | nil => rfl
                | cons x l ih => exact ⟨_, _, rfl, rfl, ih⟩
              exact this _
            · rw [List.all_eq_true]
              intro x hx
              obtain ⟨z, _, rfl⟩ := List.mem_map.1 hx
              rfl
          · exact ⟨b, cap, cap, Rho.put_self _ _ _, rfl, a2, fun h => (by cases h), fun _ => rfl⟩
end Den
namespace Go.Proofs
open Go.RowKit Go.Maps Go.Sort Go.Shelf Eng
theorem seqA : Den.SeqK 274 :=
  ⟨fun w cb h n D0 a1 a2 a3 => AnyZI.keys_gives (ρ := Tryz.keysA_ren) { Tryz.keysA with } Fence.wide 1 trivial rfl (by omega) cb h n D0 w a1 a2 a3, enters_of Tryz.func274 (by kernel_rfl) rfl⟩
theorem seqB : Den.SeqK 338 :=
  ⟨fun w cb h n D0 a1 a2 a3 => AnyZI.keys_gives (ρ := Tryz.keysB_ren) { Tryz.keysB with } Fence.wide 1 trivial rfl (by omega) cb h n D0 w a1 a2 a3, enters_of Tryz.func338 (by kernel_rfl) rfl⟩
theorem seqC : Den.SeqK 403 :=
  ⟨fun w cb h n D0 a1 a2 a3 => AnyZI.keys_gives (ρ := Tryz.keysC_ren) { Tryz.keysC with } Fence.wide 1 trivial rfl (by omega) cb h n D0 w a1 a2 a3, enters_of Tryz.func403 (by kernel_rfl) rfl⟩
end Go.Proofs
namespace Go.Proofs.YtfmjehkohlbebaaGreatDoor
open Eng
set_option maxRecDepth 100000
set_option maxHeartbeats 4000000
set_option linter.unusedVariables false
theorem Ops.pureX {W0 : World} {P : Program} {T : Tab} (hT : TabOk P T) {cf : Cfg} {arr : Array Oper} {k : Env → Heap → Prop} {o : Oper} {rest : List Oper} {e : Env} {C : Heap} {v : Value} (hg : o.guard = none) (hkf : isFresh (klass cf o) = false) (hv : PureV P e o v) (h : Eng.pex T rest (ext o.dst true v e) (fun l e => Ops W0 P cf arr k l e C)) : Ops W0 P cf arr k (o :: rest) e C :=
  Ops.pure hg hkf hv (Ops.pex hT h)
theorem set_same {α : Type} : ∀ {l : List α} {i : Nat} {v : α}, l[i]? = some v → l.set i v = l
  | [], i, v, h => by simp at h
  | x :: l, 0, v, h => by simp at h; simp [h]
  | x :: l, i + 1, v, h => by simp only [List.set_cons_succ]; rw [set_same (by simpa using h)]
theorem sort0_q (W0 : World) (C : Heap) : Gives W0 Tryz.prog 56 #[.slice none 0 0] C (.tuple #[]) := ⟨fun w _ => (AnyM.slices_Sort_int_none Tryz.sortA none 0 w).mono (by rintro e w' ⟨rfl, rfl⟩; exact ⟨rfl, Ext.refl _⟩)⟩
def dig (z ring : Int) : Int := andV .i64 (z.fdiv (2 ^ (min (IntKind.u64.wrap (6 * ring)).toNat IntKind.i64.bits))) 63
theorem dig_bd (z ring : Int) : 0 ≤ dig z ring ∧ dig z ring < 64 := by
  unfold dig
  generalize z.fdiv _ = a
  unfold andV
  have h : ((BitVec.ofInt IntKind.i64.bits a &&& BitVec.ofInt IntKind.i64.bits 63).toNat : Nat) ≤ 63 := by
    rw [BitVec.toNat_and]
    exact Nat.le_trans Nat.and_le_right (by decide)
  generalize (BitVec.ofInt IntKind.i64.bits a &&& BitVec.ofInt IntKind.i64.bits 63).toNat = n at h
  have e : IntKind.i64.wrap (n : Int) = n :=
    fits_wrap ⟨by omega, by omega⟩
  rw [e]
  omega
theorem digit_q (W0 : World) (C : Heap) (z ring : Int) (h : ring = 0 ∨ ring = 1 ∨ ring = 2 ∨ ring = 3) : Gives W0 Tryz.prog 52 #[.int .i64 z, .int .i64 ring] C (.int .i64 (dig z ring)) := Gives.of fun X => by
  rcases h with rfl | rfl | rfl | rfl <;>
  · refine Does.go Tryz.func52 rfl Tryz.results52 Tryz.ntmps52 rfl rfl ?_; (conv => whnf)
    repeat' (first | (with_reducible first | refine V.seq ?_ | refine V.block ?_ | refine V.ret ?_ | refine V.skip ?_ | refine V.exit ?_ | refine thenK_normal ?_ | refine thenK_ret ?_ | refine thenK_exit ?_ | refine blockK_normal ?_ | refine blockK_ret ?_ | refine blockK_here ?_ | refine loopK_ret ?_ | refine loopK_exit ?_ | refine Ops.nil ?_ | refine A.blockK_on (h := ?_)) | ((with_reducible first | refine A.drw tabOk ⟨[], [], []⟩ mixed (h := ?_) | refine A.reg tabOk (h := ?_) | refine And.intro (by omega) ?_ | refine A.load tabOk (h := ?_) | refine A.or tabOk (h := ?_) | refine A.and tabOk (h := ?_) | refine A.gopen tabOk (h := ?_) | refine A.gshutP tabOk (h := ?_) | refine A.gshutM tabOk (h := ?_) | refine A.gshutN tabOk (h := ?_) | refine A.pickT tabOk (h := ?_) | refine A.pickF tabOk (h := ?_) | refine A.gstep tabOk (h := ?_) | refine A.gload tabOk (h := ?_) | refine A.store tabOk (h := ?_) | refine A.loadL tabOk (h := ?_) | refine A.loadE tabOk (h := ?_) | refine A.storeL tabOk (h := ?_) | refine A.gloadL tabOk (h := ?_) | refine A.gloadE tabOk (h := ?_) | refine A.convS tabOk (h := ?_)); (conv => whnf)) | (with_reducible first | refine A.condT (hx := ?_) | refine A.condF (hy := ?_)) | fail)
    refine And.intro (by decide) ?_; (conv => whnf)
    repeat' (first | (with_reducible first | refine V.seq ?_ | refine V.block ?_ | refine V.ret ?_ | refine V.skip ?_ | refine V.exit ?_ | refine thenK_normal ?_ | refine thenK_ret ?_ | refine thenK_exit ?_ | refine blockK_normal ?_ | refine blockK_ret ?_ | refine blockK_here ?_ | refine loopK_ret ?_ | refine loopK_exit ?_ | refine Ops.nil ?_ | refine A.blockK_on (h := ?_)) | ((with_reducible first | refine A.drw tabOk ⟨[], [], []⟩ mixed (h := ?_) | refine A.reg tabOk (h := ?_) | refine And.intro (by omega) ?_ | refine A.load tabOk (h := ?_) | refine A.or tabOk (h := ?_) | refine A.and tabOk (h := ?_) | refine A.gopen tabOk (h := ?_) | refine A.gshutP tabOk (h := ?_) | refine A.gshutM tabOk (h := ?_) | refine A.gshutN tabOk (h := ?_) | refine A.pickT tabOk (h := ?_) | refine A.pickF tabOk (h := ?_) | refine A.gstep tabOk (h := ?_) | refine A.gload tabOk (h := ?_) | refine A.store tabOk (h := ?_) | refine A.loadL tabOk (h := ?_) | refine A.loadE tabOk (h := ?_) | refine A.storeL tabOk (h := ?_) | refine A.gloadL tabOk (h := ?_) | refine A.gloadE tabOk (h := ?_) | refine A.convS tabOk (h := ?_)); (conv => whnf)) | (with_reducible first | refine A.condT (hx := ?_) | refine A.condF (hy := ?_)) | fail)
    exact retK_ret rfl (Weak.refl _) ⟨rfl, rfl⟩
theorem wtick_s (W0 : World) (C : Heap) (b : Nat) (now : Int) (us rest : List Value) (hul : us.length = 257) (hnil : ∀ i, i < 256 → us[i]? = some (.slice none 0 0)) (h0 : 0 ≤ now) (h1 : now ≤ 16777214) :
    Does W0 Tryz.prog 19 #[.pointer (some ⟨b, 0, none⟩)] ([(b, .cells ((.int .i64 now :: us) ++ rest).toArray 140 (0, 0))] :: C) (fun v C' => v = .tuple #[.slice none 0 0, .int .i64 0] ∧ C' = [(b, .cells ((.int .i64 (now + 1) :: us) ++ rest).toArray 140 (0, 0))] :: C) := by
  have hx : ∀ i, i < 256 → (us ++ rest)[i]? = some (.slice none 0 0) := fun i hi => by rw [List.getElem?_append_left (by omega)]; exact hnil i hi
  simp only [List.cons_append]
  have hxl : 256 ≤ (us ++ rest).length := by rw [List.length_append]; omega
  generalize us ++ rest = xs at hx hxl
  refine Does.go Tryz.func19 rfl Tryz.results19 Tryz.ntmps19 rfl rfl ?_; (conv => whnf)
  repeat' (first | (with_reducible first | refine V.seq ?_ | refine V.block ?_ | refine V.ret ?_ | refine V.skip ?_ | refine V.exit ?_ | refine thenK_normal ?_ | refine thenK_ret ?_ | refine thenK_exit ?_ | refine blockK_normal ?_ | refine blockK_ret ?_ | refine blockK_here ?_ | refine loopK_ret ?_ | refine loopK_exit ?_ | refine Ops.nil ?_ | refine A.blockK_on (h := ?_)) | ((with_reducible first | refine A.drw tabOk ⟨[], [], []⟩ mixed (h := ?_) | refine A.reg tabOk (h := ?_) | refine And.intro (by omega) ?_ | refine A.load tabOk (h := ?_) | refine A.or tabOk (h := ?_) | refine A.and tabOk (h := ?_) | refine A.gopen tabOk (h := ?_) | refine A.gshutP tabOk (h := ?_) | refine A.gshutM tabOk (h := ?_) | refine A.gshutN tabOk (h := ?_) | refine A.pickT tabOk (h := ?_) | refine A.pickF tabOk (h := ?_) | refine A.gstep tabOk (h := ?_) | refine A.gload tabOk (h := ?_) | refine A.store tabOk (h := ?_) | refine A.loadL tabOk (h := ?_) | refine A.loadE tabOk (h := ?_) | refine A.storeL tabOk (h := ?_) | refine A.gloadL tabOk (h := ?_) | refine A.gloadE tabOk (h := ?_) | refine A.convS tabOk (h := ?_)); (conv => whnf)) | (with_reducible first | refine A.condT (hx := ?_) | refine A.condF (hy := ?_)) | fail)
  refine V.loop (G := {r : Int // -1 ≤ r ∧ r ≤ 3}) (fun r => [(0, true, .pointer (some ⟨b, 0, none⟩)), (4, true, .slice none 0 0), (5, true, .int .i64 0), (6, true, .int .i64 r.1)]) (fun _ => [(b, .cells (.int .i64 (now + 1) :: xs).toArray 140 (0, 0))] :: C) (fun r => (r.1 + 1).toNat) ⟨3, by omega, by omega⟩ (by with_unfolding_all repeat (first | exact trivial | refine And.intro rfl ?_)) (by first | exact Weak.refl _ | exact Weak.all _ | (repeat (first | exact Weak.refl _ | exact Weak.all _ | refine A.wpick (k := ?_) | apply Weak.drop))) ?_
  rintro ⟨ring, hr1, hr2⟩
  dsimp only
  by_cases h4 : 0 ≤ ring
  · have hr : ring = 0 ∨ ring = 1 ∨ ring = 2 ∨ ring = 3 := by omega
    obtain ⟨z, hz, hz1, hz2⟩ : ∃ z : Int, Den.shfZ .shl .i64 1 (IntKind.u64.wrap (6 * ring)) = some z ∧ 1 ≤ z ∧ z ≤ 262144 := by
      rcases hr with rfl | rfl | rfl | rfl
      · exact ⟨1, by decide, by omega, by omega⟩
      · exact ⟨64, by decide, by omega, by omega⟩
      · exact ⟨4096, by decide, by omega, by omega⟩
      · exact ⟨262144, by decide, by omega, by omega⟩
    have hd := dig_bd (now + 1) ring
    repeat' (first | (with_reducible first | refine V.seq ?_ | refine V.block ?_ | refine V.ret ?_ | refine V.skip ?_ | refine V.exit ?_ | refine thenK_normal ?_ | refine thenK_ret ?_ | refine thenK_exit ?_ | refine blockK_normal ?_ | refine blockK_ret ?_ | refine blockK_here ?_ | refine loopK_ret ?_ | refine loopK_exit ?_ | refine Ops.nil ?_ | refine A.blockK_on (h := ?_)) | ((with_reducible first | refine A.drw tabOk ⟨[], [], []⟩ mixed (h := ?_) | refine A.reg tabOk (h := ?_) | refine And.intro (by omega) ?_ | refine A.load tabOk (h := ?_) | refine A.or tabOk (h := ?_) | refine A.and tabOk (h := ?_) | refine A.gopen tabOk (h := ?_) | refine A.gshutP tabOk (h := ?_) | refine A.gshutM tabOk (h := ?_) | refine A.gshutN tabOk (h := ?_) | refine A.pickT tabOk (h := ?_) | refine A.pickF tabOk (h := ?_) | refine A.gstep tabOk (h := ?_) | refine A.gload tabOk (h := ?_) | refine A.store tabOk (h := ?_) | refine A.loadL tabOk (h := ?_) | refine A.loadE tabOk (h := ?_) | refine A.storeL tabOk (h := ?_) | refine A.gloadL tabOk (h := ?_) | refine A.gloadE tabOk (h := ?_) | refine A.convS tabOk (h := ?_)); (conv => whnf)) | (with_reducible first | refine A.condT (hx := ?_) | refine A.condF (hy := ?_)) | fail)
    refine Ops.pureX tabOk rfl rfl (Den.pure_shf (k := .i64) (k' := .u64) (z := z) rfl rfl hz) ?_; (conv => whnf)
    repeat' (first | (with_reducible first | refine V.seq ?_ | refine V.block ?_ | refine V.ret ?_ | refine V.skip ?_ | refine V.exit ?_ | refine thenK_normal ?_ | refine thenK_ret ?_ | refine thenK_exit ?_ | refine blockK_normal ?_ | refine blockK_ret ?_ | refine blockK_here ?_ | refine loopK_ret ?_ | refine loopK_exit ?_ | refine Ops.nil ?_ | refine A.blockK_on (h := ?_)) | ((with_reducible first | refine A.drw tabOk ⟨[], [], []⟩ mixed (h := ?_) | refine A.reg tabOk (h := ?_) | refine And.intro (by omega) ?_ | refine A.load tabOk (h := ?_) | refine A.or tabOk (h := ?_) | refine A.and tabOk (h := ?_) | refine A.gopen tabOk (h := ?_) | refine A.gshutP tabOk (h := ?_) | refine A.gshutM tabOk (h := ?_) | refine A.gshutN tabOk (h := ?_) | refine A.pickT tabOk (h := ?_) | refine A.pickF tabOk (h := ?_) | refine A.gstep tabOk (h := ?_) | refine A.gload tabOk (h := ?_) | refine A.store tabOk (h := ?_) | refine A.loadL tabOk (h := ?_) | refine A.loadE tabOk (h := ?_) | refine A.storeL tabOk (h := ?_) | refine A.gloadL tabOk (h := ?_) | refine A.gloadE tabOk (h := ?_) | refine A.convS tabOk (h := ?_)); (conv => whnf)) | (with_reducible first | refine A.condT (hx := ?_) | refine A.condF (hy := ?_)) | fail)
    refine V.cond rfl (fun h => ?_) (fun h => ?_)
    · repeat' (first | (with_reducible first | refine V.seq ?_ | refine V.block ?_ | refine V.ret ?_ | refine V.skip ?_ | refine V.exit ?_ | refine thenK_normal ?_ | refine thenK_ret ?_ | refine thenK_exit ?_ | refine blockK_normal ?_ | refine blockK_ret ?_ | refine blockK_here ?_ | refine loopK_ret ?_ | refine loopK_exit ?_ | refine Ops.nil ?_ | refine A.blockK_on (h := ?_)) | ((with_reducible first | refine A.drw tabOk ⟨[], [], []⟩ mixed (h := ?_) | refine A.reg tabOk (h := ?_) | refine And.intro (by omega) ?_ | refine A.load tabOk (h := ?_) | refine A.or tabOk (h := ?_) | refine A.and tabOk (h := ?_) | refine A.gopen tabOk (h := ?_) | refine A.gshutP tabOk (h := ?_) | refine A.gshutM tabOk (h := ?_) | refine A.gshutN tabOk (h := ?_) | refine A.pickT tabOk (h := ?_) | refine A.pickF tabOk (h := ?_) | refine A.gstep tabOk (h := ?_) | refine A.gload tabOk (h := ?_) | refine A.store tabOk (h := ?_) | refine A.loadL tabOk (h := ?_) | refine A.loadE tabOk (h := ?_) | refine A.storeL tabOk (h := ?_) | refine A.gloadL tabOk (h := ?_) | refine A.gloadE tabOk (h := ?_) | refine A.convS tabOk (h := ?_)); (conv => whnf)) | (with_reducible first | refine A.condT (hx := ?_) | refine A.condF (hy := ?_)) | fail)
      refine loopK_again ⟨ring - 1, by omega, by omega⟩ (by with_unfolding_all repeat (first | exact trivial | refine And.intro rfl ?_)) (by first | exact Weak.refl _ | exact Weak.all _ | (repeat (first | exact Weak.refl _ | exact Weak.all _ | refine A.wpick (k := ?_) | apply Weak.drop))) (by dsimp only; omega)
    · repeat' (first | (with_reducible first | refine V.seq ?_ | refine V.block ?_ | refine V.ret ?_ | refine V.skip ?_ | refine V.exit ?_ | refine thenK_normal ?_ | refine thenK_ret ?_ | refine thenK_exit ?_ | refine blockK_normal ?_ | refine blockK_ret ?_ | refine blockK_here ?_ | refine loopK_ret ?_ | refine loopK_exit ?_ | refine Ops.nil ?_ | refine A.blockK_on (h := ?_)) | ((with_reducible first | refine A.drw tabOk ⟨[52], [49], [[(b, Obj.cells (Value.int .i64 (now + 1) :: xs).toArray 140 (0, 0))]]⟩ mixed (h := ?_) | refine A.reg tabOk (h := ?_) | refine And.intro (by omega) ?_ | refine A.load tabOk (h := ?_) | refine A.loadS tabOk (h := ?_) | refine A.gloadS tabOk (h := ?_) | refine A.loadLS tabOk (h := ?_) | refine A.loadES tabOk (h := ?_) | refine A.gloadLS tabOk (h := ?_) | refine A.gloadES tabOk (h := ?_) | refine A.or tabOk (h := ?_) | refine A.and tabOk (h := ?_) | refine A.gopen tabOk (h := ?_) | refine A.gshutP tabOk (h := ?_) | refine A.gshutM tabOk (h := ?_) | refine A.gshutN tabOk (h := ?_) | refine A.pickT tabOk (h := ?_) | refine A.pickF tabOk (h := ?_) | refine A.gstep tabOk (h := ?_) | refine A.gload tabOk (h := ?_) | refine A.store tabOk (h := ?_) | refine A.loadL tabOk (h := ?_) | refine A.loadE tabOk (h := ?_) | refine A.storeL tabOk (h := ?_) | refine A.gloadL tabOk (h := ?_) | refine A.gloadE tabOk (h := ?_) | refine A.convS tabOk (h := ?_)); (conv => whnf)) | (with_reducible first | refine A.condT (hx := ?_) | refine A.condF (hy := ?_)) | fail)
      (with_reducible refine A.callQ tabOk (hs := digit_q _ _ _ _ (by omega)) (h := ?_)); (conv => whnf)
      have hoff : 0 + 1 + Int.toNat ring * 64 + (dig (now + 1) ring).toNat < (Value.int .i64 (now + 1) :: xs).length := by have := hxl; simp only [List.length_cons]; omega
      have hcell : (Value.int .i64 (now + 1) :: xs)[0 + 1 + Int.toNat ring * 64 + (dig (now + 1) ring).toNat]? = some (.slice none 0 0) := by
        rw [show 0 + 1 + Int.toNat ring * 64 + (dig (now + 1) ring).toNat = (Int.toNat ring * 64 + (dig (now + 1) ring).toNat) + 1 by omega, List.getElem?_cons_succ]
        exact hx _ (by omega)
      have hset : (Value.int .i64 (now + 1) :: xs).set (0 + 1 + Int.toNat ring * 64 + (dig (now + 1) ring).toNat) (.slice none 0 0) = Value.int .i64 (now + 1) :: xs := set_same hcell
      have q1 : Rd W0 ([(b, .cells (Value.int .i64 (now + 1) :: xs).toArray 140 (0, 0))] :: C) ⟨b, 0 + 1 + Int.toNat ring * 64 + (dig (now + 1) ring).toNat, none⟩ (.slice none 0 0) := Rd.of_at At.here (by simpa using hcell)
      repeat' (first | (with_reducible first | refine V.seq ?_ | refine V.block ?_ | refine V.ret ?_ | refine V.skip ?_ | refine V.exit ?_ | refine thenK_normal ?_ | refine thenK_ret ?_ | refine thenK_exit ?_ | refine blockK_normal ?_ | refine blockK_ret ?_ | refine blockK_here ?_ | refine loopK_ret ?_ | refine loopK_exit ?_ | refine Ops.nil ?_ | refine A.blockK_on (h := ?_)) | ((with_reducible first | refine A.drw tabOk ⟨[], [], []⟩ mixed (h := ?_) | refine A.reg tabOk (h := ?_) | refine And.intro (by omega) ?_ | refine A.load tabOk (h := ?_) | refine A.or tabOk (h := ?_) | refine A.and tabOk (h := ?_) | refine A.gopen tabOk (h := ?_) | refine A.gshutP tabOk (h := ?_) | refine A.gshutM tabOk (h := ?_) | refine A.gshutN tabOk (h := ?_) | refine A.pickT tabOk (h := ?_) | refine A.pickF tabOk (h := ?_) | refine A.gstep tabOk (h := ?_) | refine A.gload tabOk (h := ?_) | refine A.loadL tabOk (h := ?_) | refine A.loadE tabOk (h := ?_) | refine A.gloadL tabOk (h := ?_) | refine A.gloadE tabOk (h := ?_) | refine A.convS tabOk (h := ?_)); (conv => whnf)) | (with_reducible first | refine A.condT (hx := ?_) | refine A.condF (hy := ?_)) | fail)
      (with_reducible refine A.storeI tabOk (hoff := ?_) (h := ?_)); (· exact hoff); (conv => whnf)
      rw [hset]
      repeat' (first | (with_reducible first | refine V.seq ?_ | refine V.block ?_ | refine V.ret ?_ | refine V.skip ?_ | refine V.exit ?_ | refine thenK_normal ?_ | refine thenK_ret ?_ | refine thenK_exit ?_ | refine blockK_normal ?_ | refine blockK_ret ?_ | refine blockK_here ?_ | refine loopK_ret ?_ | refine loopK_exit ?_ | refine Ops.nil ?_ | refine A.blockK_on (h := ?_)) | ((with_reducible first | refine A.drw tabOk ⟨[], [], []⟩ mixed (h := ?_) | refine A.reg tabOk (h := ?_) | refine And.intro (by omega) ?_ | refine A.load tabOk (h := ?_) | refine A.or tabOk (h := ?_) | refine A.and tabOk (h := ?_) | refine A.gopen tabOk (h := ?_) | refine A.gshutP tabOk (h := ?_) | refine A.gshutM tabOk (h := ?_) | refine A.gshutN tabOk (h := ?_) | refine A.pickT tabOk (h := ?_) | refine A.pickF tabOk (h := ?_) | refine A.gstep tabOk (h := ?_) | refine A.gload tabOk (h := ?_) | refine A.store tabOk (h := ?_) | refine A.loadL tabOk (h := ?_) | refine A.loadE tabOk (h := ?_) | refine A.storeL tabOk (h := ?_) | refine A.gloadL tabOk (h := ?_) | refine A.gloadE tabOk (h := ?_) | refine A.convS tabOk (h := ?_)); (conv => whnf)) | (with_reducible first | refine A.condT (hx := ?_) | refine A.condF (hy := ?_)) | fail)
      refine V.loop (G := Unit) (fun _ => [(0, true, .pointer (some ⟨b, 0, none⟩)), (4, true, .slice none 0 0), (5, true, .int .i64 0), (6, true, .int .i64 ring), (61, true, .slice none 0 0), (62, true, .int .i64 0), (63, true, .int .i64 0)]) (fun _ => [(b, .cells (.int .i64 (now + 1) :: xs).toArray 140 (0, 0))] :: C) (fun _ => 0) () (by with_unfolding_all repeat (first | exact trivial | refine And.intro rfl ?_)) (by first | exact Weak.refl _ | exact Weak.all _ | (repeat (first | exact Weak.refl _ | exact Weak.all _ | refine A.wpick (k := ?_) | apply Weak.drop))) ?_
      rintro ⟨⟩
      repeat' (first | (with_reducible first | refine V.seq ?_ | refine V.block ?_ | refine V.ret ?_ | refine V.skip ?_ | refine V.exit ?_ | refine thenK_normal ?_ | refine thenK_ret ?_ | refine thenK_exit ?_ | refine blockK_normal ?_ | refine blockK_ret ?_ | refine blockK_here ?_ | refine loopK_ret ?_ | refine loopK_exit ?_ | refine Ops.nil ?_ | refine A.blockK_on (h := ?_)) | ((with_reducible first | refine A.drw tabOk ⟨[], [], []⟩ mixed (h := ?_) | refine A.reg tabOk (h := ?_) | refine And.intro (by omega) ?_ | refine A.load tabOk (h := ?_) | refine A.or tabOk (h := ?_) | refine A.and tabOk (h := ?_) | refine A.gopen tabOk (h := ?_) | refine A.gshutP tabOk (h := ?_) | refine A.gshutM tabOk (h := ?_) | refine A.gshutN tabOk (h := ?_) | refine A.pickT tabOk (h := ?_) | refine A.pickF tabOk (h := ?_) | refine A.gstep tabOk (h := ?_) | refine A.gload tabOk (h := ?_) | refine A.store tabOk (h := ?_) | refine A.loadL tabOk (h := ?_) | refine A.loadE tabOk (h := ?_) | refine A.storeL tabOk (h := ?_) | refine A.gloadL tabOk (h := ?_) | refine A.gloadE tabOk (h := ?_) | refine A.convS tabOk (h := ?_)); (conv => whnf)) | (with_reducible first | refine A.condT (hx := ?_) | refine A.condF (hy := ?_)) | fail)
      refine loopK_again ⟨ring - 1, by omega, by omega⟩ (by with_unfolding_all repeat (first | exact trivial | refine And.intro rfl ?_)) (by first | exact Weak.refl _ | exact Weak.all _ | (repeat (first | exact Weak.refl _ | exact Weak.all _ | refine A.wpick (k := ?_) | apply Weak.drop))) (by dsimp only; omega)
  · repeat' (first | (with_reducible first | refine V.seq ?_ | refine V.block ?_ | refine V.ret ?_ | refine V.skip ?_ | refine V.exit ?_ | refine thenK_normal ?_ | refine thenK_ret ?_ | refine thenK_exit ?_ | refine blockK_normal ?_ | refine blockK_ret ?_ | refine blockK_here ?_ | refine loopK_ret ?_ | refine loopK_exit ?_ | refine Ops.nil ?_ | refine A.blockK_on (h := ?_)) | ((with_reducible first | refine A.drw tabOk ⟨[], [], []⟩ mixed (h := ?_) | refine A.reg tabOk (h := ?_) | refine And.intro (by omega) ?_ | refine A.load tabOk (h := ?_) | refine A.or tabOk (h := ?_) | refine A.and tabOk (h := ?_) | refine A.gopen tabOk (h := ?_) | refine A.gshutP tabOk (h := ?_) | refine A.gshutM tabOk (h := ?_) | refine A.gshutN tabOk (h := ?_) | refine A.pickT tabOk (h := ?_) | refine A.pickF tabOk (h := ?_) | refine A.gstep tabOk (h := ?_) | refine A.gload tabOk (h := ?_) | refine A.store tabOk (h := ?_) | refine A.loadL tabOk (h := ?_) | refine A.loadE tabOk (h := ?_) | refine A.storeL tabOk (h := ?_) | refine A.gloadL tabOk (h := ?_) | refine A.gloadE tabOk (h := ?_) | refine A.convS tabOk (h := ?_)); (conv => whnf)) | (with_reducible first | refine A.condT (hx := ?_) | refine A.condF (hy := ?_)) | fail)
    (with_reducible refine A.callQ tabOk (hs := sort0_q _ _) (h := ?_)); (conv => whnf)
    repeat' (first | (with_reducible first | refine V.seq ?_ | refine V.block ?_ | refine V.ret ?_ | refine V.skip ?_ | refine V.exit ?_ | refine thenK_normal ?_ | refine thenK_ret ?_ | refine thenK_exit ?_ | refine blockK_normal ?_ | refine blockK_ret ?_ | refine blockK_here ?_ | refine loopK_ret ?_ | refine loopK_exit ?_ | refine Ops.nil ?_ | refine A.blockK_on (h := ?_)) | ((with_reducible first | refine A.drw tabOk ⟨[], [], []⟩ mixed (h := ?_) | refine A.reg tabOk (h := ?_) | refine And.intro (by omega) ?_ | refine A.load tabOk (h := ?_) | refine A.or tabOk (h := ?_) | refine A.and tabOk (h := ?_) | refine A.gopen tabOk (h := ?_) | refine A.gshutP tabOk (h := ?_) | refine A.gshutM tabOk (h := ?_) | refine A.gshutN tabOk (h := ?_) | refine A.pickT tabOk (h := ?_) | refine A.pickF tabOk (h := ?_) | refine A.gstep tabOk (h := ?_) | refine A.gload tabOk (h := ?_) | refine A.store tabOk (h := ?_) | refine A.loadL tabOk (h := ?_) | refine A.loadE tabOk (h := ?_) | refine A.storeL tabOk (h := ?_) | refine A.gloadL tabOk (h := ?_) | refine A.gloadE tabOk (h := ?_) | refine A.convS tabOk (h := ?_)); (conv => whnf)) | (with_reducible first | refine A.condT (hx := ?_) | refine A.condF (hy := ?_)) | fail)
    exact retK_ret rfl (by first | exact Weak.refl _ | exact Weak.all _ | (repeat (first | exact Weak.refl _ | exact Weak.all _ | refine A.wpick (k := ?_) | apply Weak.drop))) ⟨rfl, rfl⟩
end Go.Proofs.YtfmjehkohlbebaaGreatDoor
set_option linter.unusedVariables false
namespace Den
open Go Eng Go.Proofs.YtfmjehkohlbebaaGreatDoor
theorem nilsB_at : ∀ {n : Nat} {l : List VV}, nilsB n l = true → ∀ i, i < n → l[i]? = some .nils
  | 0, _, _, i, hi => by omega
  | n + 1, [], h, _, _ => by cases h
  | n + 1, v :: r, h, i, hi => by
    have h : (v.onS (nilsB n r) fun _ _ _ _ _ => false) = true := h
    rcases VV.onS_true h with ⟨rfl, h⟩ | ⟨_, _, _, _, _, _, h⟩
    · cases i with
      | zero => rfl
      | succ i => exact nilsB_at h i (by omega)
    · cases h
theorem wheel_go {W0 : World} (hcb : callable Go.Proofs.Tryz.prog 19 = true) {M : Mem} {nx b : P} {t s ver : Nat} {v : VV} {r : List VV} (hb : Mm.at M b = .cells t s (v :: r) ver) (ht : t = 140) (hl : r.length = 257) (hn : nilsB 256 r = true) {w : VV} (hw1 : w.one = true)
    (hv : ∀ ρ u, Rl ρ v u → ∃ now : Int, u = .int .i64 now ∧ 0 ≤ now ∧ now ≤ 16777214 ∧ Rl ρ w (.int .i64 (now + 1))) : Mono M nx (Tr.set .dead M b (.cells t s (w :: r) (Nat.succ ver))) nx ∧ callable Go.Proofs.Tryz.prog 19 = true ∧
    ∀ ρ C us, Rls ρ [.ptr b 0] us → MR W0 ρ M nx C → Eng.Does W0 Go.Proofs.Tryz.prog 19 us.toArray C fun u C' => ∃ ρ', Ext ρ ρ' ∧ MR W0 ρ' (Tr.set .dead M b (.cells t s (w :: r) (Nat.succ ver))) nx C' ∧ Keep ρ M (Tr.set .dead M b (.cells t s (w :: r) (Nat.succ ver))) C C' ∧ Rl ρ' (.tup [.nils, .i (.ofNat 0)]) u := by
  refine ⟨Mono.set (fun _ _ => by rw [hb]; exact Nat.lt_succ_self _) (.inl (by rw [hb]; trivial)), hcb, fun ρ C us hu hM => ?_⟩
  obtain ⟨u0, us1, rfl, ⟨rb, cap, hρ, rfl⟩, hu1⟩ := hu
  cases hu1
  obtain ⟨rb2, cap2, ro, h1, h2, h3⟩ := hM.live b (by rw [hb]; trivial)
  rw [hρ] at h1
  cases h1
  rw [hb] at h3
  obtain ⟨us, rest, rfl, hus, hone, hsz⟩ := h3
  obtain ⟨u1, us, rfl, hu1, hus⟩ := hus
  obtain ⟨now, rfl, n0, n1, hw⟩ := hv ρ u1 hu1
  subst ht
  obtain ⟨A, B, hAB⟩ := List.append_of_mem h2
  have hperm : C.flatten.Perm ((rb, Obj.cells ((.int .i64 now :: us) ++ rest).toArray 140 (0, 0)) :: (A ++ B)) := by rw [hAB]; exact List.perm_middle
  have hnil : ∀ i, i < 256 → us[i]? = some (.slice none 0 0) := fun i hi => by
    obtain ⟨u, h4, h5⟩ := hus.get (nilsB_at hn i hi)
    rw [h4, show u = _ from h5]
  have hul : us.length = 257 := by rw [hus.length, hl]
  refine (Eng.Does.weak (C' := [[(rb, Obj.cells ((.int .i64 now :: us) ++ rest).toArray 140 (0, 0))], A ++ B]) ⟨[], by simpa using hperm⟩ (wtick_s W0 [A ++ B] rb now us rest hul hnil n0 n1)).mono fun u C' hC' => ?_
  obtain ⟨rfl, rfl⟩ := hC'
  have hother : ∀ p ∈ C.flatten, p.1 ≠ rb → p ∈ A ++ B := fun p hp hne => by
    rcases List.mem_cons.1 (hperm.mem_iff.1 hp) with rfl | h
    · exact absurd rfl hne
    · exact h
  have hone' : (w :: r).all VV.one = true := by
    simp only [List.all_cons, Bool.and_eq_true] at hone ⊢
    exact ⟨hw1, hone.2⟩
  refine ⟨ρ, Den.Ext.refl ρ, hM.write (b := b) (c := cap) (by rw [hb]; trivial) hρ (ro' := .cells ((.int .i64 (now + 1) :: us) ++ rest).toArray 140 (0, 0)) ⟨_, rest, rfl, ⟨_, us, rfl, hw, hus⟩, hone', by simpa using hsz⟩ (by simp) (fun p hp hne => by simp [hother p hp hne]), fun b' r' c' ro' hl' hs' hρ' hin => ?_, _, rfl, ⟨_, _, rfl, rfl, _, _, rfl, rfl, rfl⟩⟩
  by_cases hr : r' = rb
  · subst hr
    exfalso
    have hbb := hM.inj b' b r' c' cap hl' (by rw [hb]; trivial) hρ' hρ
    subst hbb
    rw [at_set, hb] at hs'
    injection hs' with _ _ _ e
    omega
  · simp [hother _ hin hr]
theorem wtickS_ok (W0 : World) (hcb : callable Go.Proofs.Tryz.prog 19 = true) : SpecOk W0 Go.Proofs.Tryz.prog 19 (wtickS 140) := by
  intro vs M nx v M' nx' h
  unfold wtickS at h
  split at h <;> try (cases h; done)
  rename_i b
  split at h <;> try (cases h; done)
  rename_i t s v0 r ver hd
  have hd : Mm.at M b = .cells t s (v0 :: r) ver := hd
  cases hb : ((Nat.beq t 140 && Nat.beq (lenN r) 257) && nilsB 256 r) with
  | false => rw [hb] at h; cases h
  | true =>
    rw [hb, cond_true] at h
    have e1 := Nat.eq_of_beq_eq_true (and_l (and_l hb))
    have e2 := Nat.eq_of_beq_eq_true (and_r (and_l hb))
    rw [lenN_eq] at e2
    split at h <;> try (cases h; done)
    · rename_i n _
      cases hc : (leZ (.ofNat 0) n && leZ n (.ofNat 16777214)) with
      | false => rw [hc] at h; cases h
      | true =>
        rw [hc, cond_true] at h
        have h0 : Int.ofNat 0 ≤ n := of_decide_eq_true ((leZ_eq _ _).symm.trans (and_l hc))
        have h1 : n ≤ Int.ofNat 16777214 := of_decide_eq_true ((leZ_eq _ _).symm.trans (and_r hc))
        cases h
        exact wheel_go hcb hd e1 e2 (and_r hb) rfl fun ρ u hu => ⟨n, hu, by simpa using h0, by simpa using h1, by rw [addZ_eq]; rfl⟩
    · rename_i q lo hi c _
      cases hc : (leZ (.ofNat 0) (addZ lo c) && leZ (addZ hi c) (.ofNat 16777214)) with
      | false => rw [hc] at h; cases h
      | true =>
        rw [hc, cond_true] at h
        have h0 : Int.ofNat 0 ≤ lo + c := by have := of_decide_eq_true ((leZ_eq _ _).symm.trans (and_l hc)); rwa [addZ_eq] at this
        have h1 : hi + c ≤ Int.ofNat 16777214 := by have := of_decide_eq_true ((leZ_eq _ _).symm.trans (and_r hc)); rwa [addZ_eq] at this
        cases h
        exact wheel_go hcb hd e1 e2 (and_r hb) rfl fun ρ u ⟨r, s, k1, k2, k3, hu⟩ => ⟨r + c, hu, by simp at h0; omega, by simp at h1; omega, r, s, k1, k2, k3, by rw [addZ_eq, show (r : Int) + (c + Int.ofNat 1) = r + c + 1 by simp; omega]⟩
end Den
