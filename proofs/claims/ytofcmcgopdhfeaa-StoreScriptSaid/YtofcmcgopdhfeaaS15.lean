/- A part of the proofs: what functions of the program do, each by its own contract; printed by a program of mine. No conditions but those that each theorem names. -/
import Derived.Test.YtofcmcgopdhfeaaS14
namespace Go.Proofs.Ytofcmcgopdhfeaa
open Eng Go.RowKit
set_option maxRecDepth 100000
set_option maxHeartbeats 4000000

theorem u8s_flat (l : List Int) : (List.map (fun x : Int => [Value.int .u8 x]) l).flatten = u8s l := by
  induction l with
  | nil => rfl
  | cons a r ih => rw [List.map_cons, List.flatten_cons, ih]; rfl
theorem bytes_in {H : Type} {enc : TypeId × Value → H} {W : World} {v : Value} {d : DataW H} {p : List MemPlace} (hv : ∃ a len cap, v = .slice a len cap) (h : DataW.Trod enc Try.prog W 0 (fun _ => true) true 23 v d p) :
    ∃ n l, RdS W [] 1 v n (u8s l) := by
  obtain ⟨n, es, h1, h2, h3⟩ := rds_in Try.underlying23 (sz := 1) (by kernel_rfl) (by omega) hv h
  obtain ⟨l, rfl, h4⟩ := list_pick (f := fun x : Int => [Value.int .u8 x]) (Q := fun _ => True) (es := es) (fun c hc => by
    obtain ⟨m, hm, _⟩ := (h3 c hc).2.int Try.underlying5
    exact ⟨m, hm, trivial⟩)
  rw [u8s_flat] at h1
  exact ⟨n, l, h1⟩

/-! ### What holds of every store -/

def fsum : List FA → Nat
  | [] => 0
  | f :: r => f.l.length + fsum r
structure AInv (Z : AS) : Prop where
  each : ∀ f ∈ Z.L, f.l.length = (f.bytes.length + 63) / 64 ∧ f.bytes.length ≤ 512 ∧ 0 ≤ f.id
  sum : freeN Z.q + fsum Z.L = Z.q.n
  ids : Z.L.Pairwise fun a b => a.id ≠ b.id
  ok : QOk Z.q
theorem fsum_fa (recs : List PF) : fsum (recs.map PF.fa) = lsum recs := by
  induction recs with
  | nil => rfl
  | cons a r ih => simp only [List.map_cons, fsum, lsum, ih]; rfl
theorem ST.inv {s d : Nat} {Z : AS} {c : List Blk} (h : ST s d Z c) : AInv Z := by
  obtain ⟨B, m, clock, recs, fc, rfl, hf, hL, hok⟩ := h
  refine ⟨fun f hf => ?_, ?_, ?_, hf.ok⟩
  · rw [hL] at hf
    obtain ⟨r, hr, rfl⟩ := List.mem_map.1 hf
    have := hok.each r hr
    exact ⟨this.len, this.small, hok.pos r hr⟩
  · rw [hL, fsum_fa]; exact hok.sum
  · rw [hL]
    exact hok.ids.map PF.fa (fun a b h => h)

/-! ### Two files, 1 and 2 -/

def cl (n : Nat) : Nat := (n + 63) / 64
def ST2 (s d n : Nat) (x y : List Int) (c : List Blk) : Prop := ∃ q lx ly, ST s d ⟨q, [⟨1, x, lx⟩, ⟨2, y, ly⟩]⟩ c ∧ q.n = n

structure In2 (n : Nat) (x y : List Int) (q : Qs) (lx ly : List Int) : Prop where
  hx : lx.length = cl x.length ∧ x.length ≤ 512
  hy : ly.length = cl y.length ∧ y.length ≤ 512
  hf : freeN q + (cl x.length + cl y.length) = n
theorem in2 {s d n : Nat} {x y : List Int} {q : Qs} {lx ly : List Int} {c : List Blk} (h : ST s d ⟨q, [⟨1, x, lx⟩, ⟨2, y, ly⟩]⟩ c) (hn : q.n = n) : In2 n x y q lx ly := by
  have hi := h.inv
  have h1 := hi.each ⟨1, x, lx⟩ (by simp)
  have h2 := hi.each ⟨2, y, ly⟩ (by simp)
  have h3 := hi.sum
  simp only [fsum] at h3
  have e1 : lx.length = cl x.length := h1.1
  have e2 : ly.length = cl y.length := h2.1
  exact ⟨⟨e1, h1.2.1⟩, ⟨e2, h2.2.1⟩, by rw [← e1, ← e2, ← hn]; omega⟩

/-- What a write answers: n frames; the file's bytes, another file's. -/
def wE (n : Nat) (x y : List Int) (off : Nat) (b : List Int) : Int :=
  if b.length = 0 then 0 else if 512 < off + b.length then 15 else if n < cl (max x.length (off + b.length)) + cl y.length then 15 else 0
def wX (n : Nat) (x y : List Int) (off : Nat) (b : List Int) : List Int := if wE n x y off b = 0 ∧ b.length ≠ 0 then wrB x off b else x

theorem aWrite1 {n : Nat} {x y : List Int} {q : Qs} {lx ly : List Int} (h : In2 n x y q lx ly) (off : Nat) (b : List Int) : ∃ q' lx', aWrite ⟨q, [⟨1, x, lx⟩, ⟨2, y, ly⟩]⟩ 1 off b = (wE n x y off b, ⟨q', [⟨1, wX n x y off b, lx'⟩, ⟨2, y, ly⟩]⟩) ∧ (QOk q → q'.n = q.n) := by
  have hat : atF 1 [(⟨1, x, lx⟩ : FA), ⟨2, y, ly⟩] = some ⟨1, x, lx⟩ := rfl
  have hm : moreN ⟨1, x, lx⟩ off b.length = cl (max x.length (off + b.length)) - lx.length := rfl
  have h1 := h.hx
  have h3 := h.hf
  have hcl : cl x.length ≤ cl (max x.length (off + b.length)) := by unfold cl; omega
  unfold aWrite wX wE
  rw [hat]
  simp only [Int.toNat_natCast]
  rw [if_neg (by omega)]
  by_cases e1 : b.length = 0
  · rw [if_pos e1, if_pos e1, if_neg (by simp [e1])]
    exact ⟨q, lx, rfl, fun _ => rfl⟩
  rw [if_neg e1, if_neg e1]
  by_cases e2 : 512 < off + b.length
  · rw [if_pos (by omega), if_pos e2, if_neg (by simp)]
    exact ⟨q, lx, rfl, fun _ => rfl⟩
  rw [if_neg (by omega), if_neg e2, hm]
  by_cases e3 : n < cl (max x.length (off + b.length)) + cl y.length
  · rw [if_pos (by omega), if_pos e3, if_neg (by simp)]
    exact ⟨q, lx, rfl, fun _ => rfl⟩
  rw [if_neg (by omega), if_neg e3, if_pos ⟨rfl, e1⟩]
  exact ⟨_, _, rfl, fun hq => (take_all hq _ (by omega)).n⟩
theorem aWrite2 {n : Nat} {x y : List Int} {q : Qs} {lx ly : List Int} (h : In2 n x y q lx ly) (off : Nat) (b : List Int) : ∃ q' ly', aWrite ⟨q, [⟨1, x, lx⟩, ⟨2, y, ly⟩]⟩ 2 off b = (wE n y x off b, ⟨q', [⟨1, x, lx⟩, ⟨2, wX n y x off b, ly'⟩]⟩) ∧ (QOk q → q'.n = q.n) := by
  have hat : atF 2 [(⟨1, x, lx⟩ : FA), ⟨2, y, ly⟩] = some ⟨2, y, ly⟩ := rfl
  have hm : moreN ⟨2, y, ly⟩ off b.length = cl (max y.length (off + b.length)) - ly.length := rfl
  have h1 := h.hy
  have h3 := h.hf
  have hcl : cl y.length ≤ cl (max y.length (off + b.length)) := by unfold cl; omega
  unfold aWrite wX wE
  rw [hat]
  simp only [Int.toNat_natCast]
  rw [if_neg (by omega)]
  by_cases e1 : b.length = 0
  · rw [if_pos e1, if_pos e1, if_neg (by simp [e1])]
    exact ⟨q, ly, rfl, fun _ => rfl⟩
  rw [if_neg e1, if_neg e1]
  by_cases e2 : 512 < off + b.length
  · rw [if_pos (by omega), if_pos e2, if_neg (by simp)]
    exact ⟨q, ly, rfl, fun _ => rfl⟩
  rw [if_neg (by omega), if_neg e2, hm]
  by_cases e3 : n < cl (max y.length (off + b.length)) + cl x.length
  · rw [if_pos (by omega), if_pos e3, if_neg (by simp)]
    exact ⟨q, ly, rfl, fun _ => rfl⟩
  rw [if_neg (by omega), if_neg e3, if_pos ⟨rfl, e1⟩]
  exact ⟨_, _, rfl, fun hq => (take_all hq _ (by omega)).n⟩

theorem s2_write1 (W0 : World) (C : Heap) (s d n : Nat) (x y : List Int) (c : List Blk) (h : ST2 s d n x y c) (off : Nat) (v : Value) (k : Nat) (b : List Int) (hv : RdS W0 C 1 v k (u8s b)) (hk : k ≤ 1000000) (ho : off ≤ 1000000) :
    Does W0 Try.prog 14 #[.pointer (some ⟨s, 0, none⟩), .int .i64 1, .int .i64 off, v] (c :: C) (fun v C' => v = .int .i64 (wE n x y off b) ∧ ∃ c', ST2 s d n (wX n x y off b) y c' ∧ C' = c' :: C) := by
  obtain ⟨q, lx, ly, hs, hn⟩ := h
  obtain ⟨q', lx', he, hq⟩ := aWrite1 (in2 hs hn) off b
  refine (st_write1 W0 C s d _ c hs 1 off v k b hv (by omega) hk he).mono ?_
  rintro v C' ⟨rfl, c', hc', rfl⟩
  exact ⟨rfl, c', ⟨q', lx', ly, hc', by rw [hq hs.inv.ok]; exact hn⟩, rfl⟩
theorem s2_write2 (W0 : World) (C : Heap) (s d n : Nat) (x y : List Int) (c : List Blk) (h : ST2 s d n x y c) (off : Nat) (v : Value) (k : Nat) (b : List Int) (hv : RdS W0 C 1 v k (u8s b)) (hk : k ≤ 1000000) (ho : off ≤ 1000000) :
    Does W0 Try.prog 14 #[.pointer (some ⟨s, 0, none⟩), .int .i64 2, .int .i64 off, v] (c :: C) (fun v C' => v = .int .i64 (wE n y x off b) ∧ ∃ c', ST2 s d n x (wX n y x off b) c' ∧ C' = c' :: C) := by
  obtain ⟨q, lx, ly, hs, hn⟩ := h
  obtain ⟨q', ly', he, hq⟩ := aWrite2 (in2 hs hn) off b
  refine (st_write1 W0 C s d _ c hs 2 off v k b hv (by omega) hk he).mono ?_
  rintro v C' ⟨rfl, c', hc', rfl⟩
  exact ⟨rfl, c', ⟨q', lx, ly', hc', by rw [hq hs.inv.ok]; exact hn⟩, rfl⟩

/-- Bytes from a place on, as many as there are. -/
def rX (x : List Int) (off k : Nat) : List Int := if x.length ≤ off then [] else subB x off (min k (x.length - off))
theorem sub_all (x : List Int) : subB x 0 x.length = x := by unfold subB; rw [List.drop_zero, List.take_length]
theorem rX_all (x : List Int) (k : Nat) (h : x.length ≤ k) : rX x 0 k = x := by
  unfold rX
  split
  · exact (List.eq_nil_of_length_eq_zero (by omega)).symm
  · rw [Nat.sub_zero, Nat.min_eq_right h, sub_all]
theorem aRead_ok {Z : AS} {id : Int} {f : FA} (h : atF id Z.L = some f) (off k : Nat) : aRead Z id off k = (rX f.bytes off k, 0) := by
  unfold aRead rX
  rw [h]
  dsimp only
  rw [if_neg (by omega)]
  by_cases e : f.bytes.length ≤ off
  · rw [if_pos (by omega), if_pos e]
  · rw [if_neg (by omega), if_neg e, show (min (k : Int) ((f.bytes.length : Int) - off)).toNat = min k (f.bytes.length - off) by omega, Int.toNat_natCast]

theorem s2_read1 (W0 : World) (C : Heap) (s d n : Nat) (x y : List Int) (c : List Blk) (h : ST2 s d n x y c) (off k : Nat) (ho : off ≤ 1000000 ∧ k ≤ 1000000) :
    Does W0 Try.prog 16 #[.pointer (some ⟨s, 0, none⟩), .int .i64 1, .int .i64 off, .int .i64 k] (c :: C) (fun v C' => ∃ ao cap cs, v = .tuple #[.slice ao (rX x off k).length cap, .int .i64 0] ∧ Slc 5 1 (.slice ao (rX x off k).length cap) (rX x off k).length (u8s (rX x off k)) cs ∧ C' = cs :: c :: C) := by
  obtain ⟨q, lx, ly, hs, hn⟩ := h
  exact st_read1 W0 C s d _ c hs 1 off k (by omega) (aRead_ok (f := ⟨1, x, lx⟩) rfl off k)
theorem s2_read2 (W0 : World) (C : Heap) (s d n : Nat) (x y : List Int) (c : List Blk) (h : ST2 s d n x y c) (off k : Nat) (ho : off ≤ 1000000 ∧ k ≤ 1000000) :
    Does W0 Try.prog 16 #[.pointer (some ⟨s, 0, none⟩), .int .i64 2, .int .i64 off, .int .i64 k] (c :: C) (fun v C' => ∃ ao cap cs, v = .tuple #[.slice ao (rX y off k).length cap, .int .i64 0] ∧ Slc 5 1 (.slice ao (rX y off k).length cap) (rX y off k).length (u8s (rX y off k)) cs ∧ C' = cs :: c :: C) := by
  obtain ⟨q, lx, ly, hs, hn⟩ := h
  exact st_read1 W0 C s d _ c hs 2 off k (by omega) (aRead_ok (f := ⟨2, y, ly⟩) rfl off k)
theorem s2_blocks1 (W0 : World) (C : Heap) (s d n : Nat) (x y : List Int) (c : List Blk) (h : ST2 s d n x y c) : Gives W0 Try.prog 19 #[.pointer (some ⟨s, 0, none⟩), .int .i64 1] (c :: C) (.int .i64 (cl x.length : Nat)) := by
  obtain ⟨q, lx, ly, hs, hn⟩ := h
  rw [← (in2 hs hn).hx.1]
  exact st_blocks W0 C s d _ c hs 1
theorem s2_blocks2 (W0 : World) (C : Heap) (s d n : Nat) (x y : List Int) (c : List Blk) (h : ST2 s d n x y c) : Gives W0 Try.prog 19 #[.pointer (some ⟨s, 0, none⟩), .int .i64 2] (c :: C) (.int .i64 (cl y.length : Nat)) := by
  obtain ⟨q, lx, ly, hs, hn⟩ := h
  rw [← (in2 hs hn).hy.1]
  exact st_blocks W0 C s d _ c hs 2
theorem st_free (W0 : World) (C : Heap) (s d : Nat) (Z : AS) (c : List Blk) (h : ST s d Z c) : Gives W0 Try.prog 17 #[.pointer (some ⟨d, 0, none⟩)] (c :: C) (.int .i64 (freeN Z.q : Nat)) := by
  obtain ⟨B, m, clock, recs, fc, rfl, hf, hL, hok⟩ := h
  exact (fm_free W0 [] d Z.q B fc hf).mono ((st_open _ _ _ _ _).trans ((Weak.skip _ _).trans ((Weak.skip _ _).trans ((Weak.all _).cons _))))
theorem s2_free (W0 : World) (C : Heap) (s d n : Nat) (x y : List Int) (c : List Blk) (h : ST2 s d n x y c) : Gives W0 Try.prog 17 #[.pointer (some ⟨d, 0, none⟩)] (c :: C) (.int .i64 (n - (cl x.length + cl y.length) : Nat)) := by
  obtain ⟨q, lx, ly, hs, hn⟩ := h
  have := (in2 hs hn).hf
  rw [show n - (cl x.length + cl y.length) = freeN q by omega]
  exact st_free W0 C s d _ c hs

/-- A new store with files 1 and 2. -/
theorem st_two {s d n : Nat} {c : List Blk} (h : ST s d ⟨newQ n, [⟨1, [], []⟩, ⟨2, [], []⟩]⟩ c) : ST2 s d n [] [] c := ⟨newQ n, [], [], h, rfl⟩
end Go.Proofs.Ytofcmcgopdhfeaa
