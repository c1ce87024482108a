/- A part of the proofs: what functions of the program do, each by its own contract; printed by a program of mine. No conditions but those that each theorem names. -/
import Derived.Test.YtjflhphnbloniaaT7
import Derived.Test.YtjflhphnbloniaaEng9
namespace Go.Proofs.Ytjflhphnbloniaa
open Eng Go.RowKit
set_option maxRecDepth 100000
set_option maxHeartbeats 4000000

structure OpS where
  kind : Int
  a : Int
  b : Int
  c : Int
  sys : Int
  ca : Int
  cb : Int
  s : ByteArray
  t : ByteArray
def opL (x : OpS) : List Value := [.int .i64 x.kind, .int .i64 x.a, .int .i64 x.b, .int .i64 x.c, .int .i64 x.sys, .int .i64 x.ca, .int .i64 x.cb, .string x.s, .string x.t]

def hdL_ok (W : World) (x : Int × Int) : Prop := True
theorem hdL_in {H : Type} {enc : TypeId × Value → H} {W : World} {c : List Value} (h : Reads enc Try.prog W 70 c) : ∃ x : Int × Int, c = hdL x ∧ hdL_ok W x := by
  have hlen := h.slen Try.underlying70
  rw [show Try.prog.cellsOf 70 = 2 by kernel_rfl] at hlen
  match c, hlen with
  | [a0, a1], _ =>
    have e0 : Reads enc Try.prog W 3 [a0] := h.fieldAt Try.underlying70 (i := 0) (off := 0) (n := 1) rfl rfl rfl (by kernel_rfl)
    have e1 : Reads enc Try.prog W 3 [a1] := h.fieldAt Try.underlying70 (i := 1) (off := 1) (n := 1) rfl rfl rfl (by kernel_rfl)
    obtain ⟨x0, hx0, w0⟩ := e0.int Try.underlying3
    obtain rfl : a0 = _ := by simpa using hx0
    obtain ⟨x1, hx1, w1⟩ := e1.int Try.underlying3
    obtain rfl : a1 = _ := by simpa using hx1
    exact ⟨⟨x0, x1⟩, rfl, trivial⟩

def opL_ok (W : World) (x : OpS) : Prop := (-9223372036854775808 ≤ x.kind ∧ x.kind ≤ 9223372036854775807) ∧ (-9223372036854775808 ≤ x.a ∧ x.a ≤ 9223372036854775807) ∧ (-9223372036854775808 ≤ x.b ∧ x.b ≤ 9223372036854775807) ∧ (-9223372036854775808 ≤ x.c ∧ x.c ≤ 9223372036854775807) ∧ (-9223372036854775808 ≤ x.sys ∧ x.sys ≤ 9223372036854775807) ∧ (-9223372036854775808 ≤ x.ca ∧ x.ca ≤ 9223372036854775807) ∧ (-9223372036854775808 ≤ x.cb ∧ x.cb ≤ 9223372036854775807) ∧ x.s.size ≤ maxLen ∧ x.t.size ≤ maxLen
theorem opL_in {H : Type} {enc : TypeId × Value → H} {W : World} {c : List Value} (h : Reads enc Try.prog W 59 c) : ∃ x : OpS, c = opL x ∧ opL_ok W x := by
  have hlen := h.slen Try.underlying59
  rw [show Try.prog.cellsOf 59 = 9 by kernel_rfl] at hlen
  match c, hlen with
  | [a0, a1, a2, a3, a4, a5, a6, a7, a8], _ =>
    have e0 : Reads enc Try.prog W 3 [a0] := h.fieldAt Try.underlying59 (i := 0) (off := 0) (n := 1) rfl rfl rfl (by kernel_rfl)
    have e1 : Reads enc Try.prog W 3 [a1] := h.fieldAt Try.underlying59 (i := 1) (off := 1) (n := 1) rfl rfl rfl (by kernel_rfl)
    have e2 : Reads enc Try.prog W 3 [a2] := h.fieldAt Try.underlying59 (i := 2) (off := 2) (n := 1) rfl rfl rfl (by kernel_rfl)
    have e3 : Reads enc Try.prog W 3 [a3] := h.fieldAt Try.underlying59 (i := 3) (off := 3) (n := 1) rfl rfl rfl (by kernel_rfl)
    have e4 : Reads enc Try.prog W 57 [a4, a5, a6, a7, a8] := h.fieldAt Try.underlying59 (i := 4) (off := 4) (n := 5) rfl rfl rfl (by kernel_rfl)
    have e5 : Reads enc Try.prog W 3 [a4] := e4.fieldAt Try.underlying57 (i := 0) (off := 0) (n := 1) rfl rfl rfl (by kernel_rfl)
    have e6 : Reads enc Try.prog W 3 [a5] := e4.fieldAt Try.underlying57 (i := 1) (off := 1) (n := 1) rfl rfl rfl (by kernel_rfl)
    have e7 : Reads enc Try.prog W 3 [a6] := e4.fieldAt Try.underlying57 (i := 2) (off := 2) (n := 1) rfl rfl rfl (by kernel_rfl)
    have e8 : Reads enc Try.prog W 9 [a7] := e4.fieldAt Try.underlying57 (i := 3) (off := 3) (n := 1) rfl rfl rfl (by kernel_rfl)
    have e9 : Reads enc Try.prog W 9 [a8] := e4.fieldAt Try.underlying57 (i := 4) (off := 4) (n := 1) rfl rfl rfl (by kernel_rfl)
    obtain ⟨x0, hx0, w0⟩ := e0.int Try.underlying3
    obtain rfl : a0 = _ := by simpa using hx0
    obtain ⟨x1, hx1, w1⟩ := e1.int Try.underlying3
    obtain rfl : a1 = _ := by simpa using hx1
    obtain ⟨x2, hx2, w2⟩ := e2.int Try.underlying3
    obtain rfl : a2 = _ := by simpa using hx2
    obtain ⟨x3, hx3, w3⟩ := e3.int Try.underlying3
    obtain rfl : a3 = _ := by simpa using hx3
    obtain ⟨x4, hx4, w4⟩ := e5.int Try.underlying3
    obtain rfl : a4 = _ := by simpa using hx4
    obtain ⟨x5, hx5, w5⟩ := e6.int Try.underlying3
    obtain rfl : a5 = _ := by simpa using hx5
    obtain ⟨x6, hx6, w6⟩ := e7.int Try.underlying3
    obtain rfl : a6 = _ := by simpa using hx6
    obtain ⟨x7, hx7, w7⟩ := e8.str Try.underlying9
    obtain rfl : a7 = _ := by simpa using hx7
    obtain ⟨x8, hx8, w8⟩ := e9.str Try.underlying9
    obtain rfl : a8 = _ := by simpa using hx8
    exact ⟨⟨x0, x1, x2, x3, x4, x5, x6, x7, x8⟩, rfl, ⟨bounds_i64 w0, bounds_i64 w1, bounds_i64 w2, bounds_i64 w3, bounds_i64 w4, bounds_i64 w5, bounds_i64 w6, w7, w8⟩⟩

def tkL_ok (W : World) (x : Tk) : Prop := (-9223372036854775808 ≤ x.cls ∧ x.cls ≤ 9223372036854775807) ∧ (-9223372036854775808 ≤ x.level ∧ x.level ≤ 9223372036854775807) ∧ (-9223372036854775808 ≤ x.period ∧ x.period ≤ 9223372036854775807) ∧ (-9223372036854775808 ≤ x.deadline ∧ x.deadline ≤ 9223372036854775807) ∧ (-9223372036854775808 ≤ x.budget ∧ x.budget ≤ 9223372036854775807) ∧ (-9223372036854775808 ≤ x.line ∧ x.line ≤ 9223372036854775807) ∧ (∃ n l, RdS W [] 1 x.uses n (ints l) ∧ n ≤ maxLen ∧ l.length = n ∧ ∀ y ∈ l, -9223372036854775808 ≤ y ∧ y ≤ 9223372036854775807) ∧ (∃ n l, RdS W [] 9 x.prog n (List.map opL l).flatten ∧ n ≤ maxLen ∧ List.length l = n ∧ ∀ y ∈ l, opL_ok W y)
theorem tkL_in {H : Type} {enc : TypeId × Value → H} {W : World} {c : List Value} (h : Reads enc Try.prog W 25 c) : ∃ x : Tk, c = tkL x ∧ tkL_ok W x := by
  have hlen := h.slen Try.underlying25
  rw [show Try.prog.cellsOf 25 = 8 by kernel_rfl] at hlen
  match c, hlen with
  | [a0, a1, a2, a3, a4, a5, a6, a7], _ =>
    have e0 : Reads enc Try.prog W 3 [a0] := h.fieldAt Try.underlying25 (i := 0) (off := 0) (n := 1) rfl rfl rfl (by kernel_rfl)
    have e1 : Reads enc Try.prog W 3 [a1] := h.fieldAt Try.underlying25 (i := 1) (off := 1) (n := 1) rfl rfl rfl (by kernel_rfl)
    have e2 : Reads enc Try.prog W 3 [a2] := h.fieldAt Try.underlying25 (i := 2) (off := 2) (n := 1) rfl rfl rfl (by kernel_rfl)
    have e3 : Reads enc Try.prog W 3 [a3] := h.fieldAt Try.underlying25 (i := 3) (off := 3) (n := 1) rfl rfl rfl (by kernel_rfl)
    have e4 : Reads enc Try.prog W 3 [a4] := h.fieldAt Try.underlying25 (i := 4) (off := 4) (n := 1) rfl rfl rfl (by kernel_rfl)
    have e5 : Reads enc Try.prog W 3 [a5] := h.fieldAt Try.underlying25 (i := 5) (off := 5) (n := 1) rfl rfl rfl (by kernel_rfl)
    have e6 : Reads enc Try.prog W 22 [a6] := h.fieldAt Try.underlying25 (i := 6) (off := 6) (n := 1) rfl rfl rfl (by kernel_rfl)
    have e7 : Reads enc Try.prog W 23 [a7] := h.fieldAt Try.underlying25 (i := 7) (off := 7) (n := 1) rfl rfl rfl (by kernel_rfl)
    obtain ⟨x0, hx0, w0⟩ := e0.int Try.underlying3
    obtain rfl : a0 = _ := by simpa using hx0
    obtain ⟨x1, hx1, w1⟩ := e1.int Try.underlying3
    obtain rfl : a1 = _ := by simpa using hx1
    obtain ⟨x2, hx2, w2⟩ := e2.int Try.underlying3
    obtain rfl : a2 = _ := by simpa using hx2
    obtain ⟨x3, hx3, w3⟩ := e3.int Try.underlying3
    obtain rfl : a3 = _ := by simpa using hx3
    obtain ⟨x4, hx4, w4⟩ := e4.int Try.underlying3
    obtain rfl : a4 = _ := by simpa using hx4
    obtain ⟨x5, hx5, w5⟩ := e5.int Try.underlying3
    obtain rfl : a5 = _ := by simpa using hx5
    obtain ⟨x6, n6, es6, hx6, r6, m6, hl6, he6⟩ := e6.slice Try.underlying22 (sz := 1) (by kernel_rfl) (by omega)
    obtain rfl : a6 = _ := by simpa using hx6
    obtain ⟨l6, rfl, q6⟩ := list_pick (f := fun x : Int => [Value.int .i64 x]) (fun c hc => (he6 c hc).2.int Try.underlying3)
    obtain ⟨x7, n7, es7, hx7, r7, m7, hl7, he7⟩ := e7.slice Try.underlying23 (sz := 9) (by kernel_rfl) (by omega)
    obtain rfl : a7 = _ := by simpa using hx7
    obtain ⟨l7, rfl, q7⟩ := list_pick (f := opL) (Q := opL_ok W) (fun c hc => opL_in (he7 c hc).2)
    exact ⟨⟨x0, x1, x2, x3, x4, x5, a6, a7⟩, rfl, ⟨bounds_i64 w0, bounds_i64 w1, bounds_i64 w2, bounds_i64 w3, bounds_i64 w4, bounds_i64 w5, ⟨n6, l6, by rw [← ints_flat]; exact r6, m6, by simpa using hl6, fun y hy => bounds_i64 (q6 y hy)⟩, ⟨n7, l7, r7, m7, by simpa using hl7, q7⟩⟩⟩

def thL_ok (W : World) (x : Th) : Prop := (-9223372036854775808 ≤ x.id ∧ x.id ≤ 9223372036854775807) ∧ (-9223372036854775808 ≤ x.parent ∧ x.parent ≤ 9223372036854775807) ∧ (-9223372036854775808 ≤ x.bc ∧ x.bc ≤ 9223372036854775807) ∧ (-9223372036854775808 ≤ x.bl ∧ x.bl ≤ 9223372036854775807) ∧ (-9223372036854775808 ≤ x.bd ∧ x.bd ≤ 9223372036854775807) ∧ (-9223372036854775808 ≤ x.state ∧ x.state ≤ 9223372036854775807) ∧ (-9223372036854775808 ≤ x.on ∧ x.on ≤ 9223372036854775807) ∧ (-9223372036854775808 ≤ x.at_ ∧ x.at_ ≤ 9223372036854775807) ∧ (-9223372036854775808 ≤ x.left ∧ x.left ≤ 9223372036854775807) ∧ (-9223372036854775808 ≤ x.part ∧ x.part ≤ 9223372036854775807) ∧ (-9223372036854775808 ≤ x.sc ∧ x.sc ≤ 9223372036854775807) ∧ (-9223372036854775808 ≤ x.sv ∧ x.sv ≤ 9223372036854775807) ∧ x.sd.size ≤ maxLen ∧ (-9223372036854775808 ≤ x.released ∧ x.released ≤ 9223372036854775807) ∧ (-9223372036854775808 ≤ x.due ∧ x.due ≤ 9223372036854775807) ∧ (-9223372036854775808 ≤ x.used ∧ x.used ≤ 9223372036854775807) ∧ (-9223372036854775808 ≤ x.last ∧ x.last ≤ 9223372036854775807) ∧ (-9223372036854775808 ≤ x.again ∧ x.again ≤ 9223372036854775807) ∧ (∃ n l, RdS W [] 2 x.held n (List.map hdL l).flatten ∧ n ≤ maxLen ∧ List.length l = n ∧ ∀ y ∈ l, hdL_ok W y)
theorem thL_in {H : Type} {enc : TypeId × Value → H} {W : World} {c : List Value} (h : Reads enc Try.prog W 37 c) : ∃ x : Th, c = thL x ∧ thL_ok W x := by
  have hlen := h.slen Try.underlying37
  rw [show Try.prog.cellsOf 37 = 21 by kernel_rfl] at hlen
  match c, hlen with
  | [a0, a1, a2, a3, a4, a5, a6, a7, a8, a9, a10, a11, a12, a13, a14, a15, a16, a17, a18, a19, a20], _ =>
    have e0 : Reads enc Try.prog W 3 [a0] := h.fieldAt Try.underlying37 (i := 0) (off := 0) (n := 1) rfl rfl rfl (by kernel_rfl)
    have e1 : Reads enc Try.prog W 3 [a1] := h.fieldAt Try.underlying37 (i := 1) (off := 1) (n := 1) rfl rfl rfl (by kernel_rfl)
    have e2 : Reads enc Try.prog W 31 [a2, a3, a4] := h.fieldAt Try.underlying37 (i := 2) (off := 2) (n := 3) rfl rfl rfl (by kernel_rfl)
    have e3 : Reads enc Try.prog W 3 [a2] := e2.fieldAt Try.underlying31 (i := 0) (off := 0) (n := 1) rfl rfl rfl (by kernel_rfl)
    have e4 : Reads enc Try.prog W 3 [a3] := e2.fieldAt Try.underlying31 (i := 1) (off := 1) (n := 1) rfl rfl rfl (by kernel_rfl)
    have e5 : Reads enc Try.prog W 3 [a4] := e2.fieldAt Try.underlying31 (i := 2) (off := 2) (n := 1) rfl rfl rfl (by kernel_rfl)
    have e6 : Reads enc Try.prog W 3 [a5] := h.fieldAt Try.underlying37 (i := 3) (off := 5) (n := 1) rfl rfl rfl (by kernel_rfl)
    have e7 : Reads enc Try.prog W 3 [a6] := h.fieldAt Try.underlying37 (i := 4) (off := 6) (n := 1) rfl rfl rfl (by kernel_rfl)
    have e8 : Reads enc Try.prog W 3 [a7] := h.fieldAt Try.underlying37 (i := 5) (off := 7) (n := 1) rfl rfl rfl (by kernel_rfl)
    have e9 : Reads enc Try.prog W 3 [a8] := h.fieldAt Try.underlying37 (i := 6) (off := 8) (n := 1) rfl rfl rfl (by kernel_rfl)
    have e10 : Reads enc Try.prog W 4 [a9] := h.fieldAt Try.underlying37 (i := 7) (off := 9) (n := 1) rfl rfl rfl (by kernel_rfl)
    have e11 : Reads enc Try.prog W 3 [a10] := h.fieldAt Try.underlying37 (i := 8) (off := 10) (n := 1) rfl rfl rfl (by kernel_rfl)
    have e12 : Reads enc Try.prog W 34 [a11, a12, a13] := h.fieldAt Try.underlying37 (i := 9) (off := 11) (n := 3) rfl rfl rfl (by kernel_rfl)
    have e13 : Reads enc Try.prog W 32 [a11] := e12.fieldAt Try.underlying34 (i := 0) (off := 0) (n := 1) rfl rfl rfl (by kernel_rfl)
    have e14 : Reads enc Try.prog W 3 [a12] := e12.fieldAt Try.underlying34 (i := 1) (off := 1) (n := 1) rfl rfl rfl (by kernel_rfl)
    have e15 : Reads enc Try.prog W 9 [a13] := e12.fieldAt Try.underlying34 (i := 2) (off := 2) (n := 1) rfl rfl rfl (by kernel_rfl)
    have e16 : Reads enc Try.prog W 4 [a14] := h.fieldAt Try.underlying37 (i := 10) (off := 14) (n := 1) rfl rfl rfl (by kernel_rfl)
    have e17 : Reads enc Try.prog W 3 [a15] := h.fieldAt Try.underlying37 (i := 11) (off := 15) (n := 1) rfl rfl rfl (by kernel_rfl)
    have e18 : Reads enc Try.prog W 3 [a16] := h.fieldAt Try.underlying37 (i := 12) (off := 16) (n := 1) rfl rfl rfl (by kernel_rfl)
    have e19 : Reads enc Try.prog W 3 [a17] := h.fieldAt Try.underlying37 (i := 13) (off := 17) (n := 1) rfl rfl rfl (by kernel_rfl)
    have e20 : Reads enc Try.prog W 3 [a18] := h.fieldAt Try.underlying37 (i := 14) (off := 18) (n := 1) rfl rfl rfl (by kernel_rfl)
    have e21 : Reads enc Try.prog W 3 [a19] := h.fieldAt Try.underlying37 (i := 15) (off := 19) (n := 1) rfl rfl rfl (by kernel_rfl)
    have e22 : Reads enc Try.prog W 35 [a20] := h.fieldAt Try.underlying37 (i := 16) (off := 20) (n := 1) rfl rfl rfl (by kernel_rfl)
    obtain ⟨x0, hx0, w0⟩ := e0.int Try.underlying3
    obtain rfl : a0 = _ := by simpa using hx0
    obtain ⟨x1, hx1, w1⟩ := e1.int Try.underlying3
    obtain rfl : a1 = _ := by simpa using hx1
    obtain ⟨x2, hx2, w2⟩ := e3.int Try.underlying3
    obtain rfl : a2 = _ := by simpa using hx2
    obtain ⟨x3, hx3, w3⟩ := e4.int Try.underlying3
    obtain rfl : a3 = _ := by simpa using hx3
    obtain ⟨x4, hx4, w4⟩ := e5.int Try.underlying3
    obtain rfl : a4 = _ := by simpa using hx4
    obtain ⟨x5, hx5, w5⟩ := e6.int Try.underlying3
    obtain rfl : a5 = _ := by simpa using hx5
    obtain ⟨x6, hx6, w6⟩ := e7.int Try.underlying3
    obtain rfl : a6 = _ := by simpa using hx6
    obtain ⟨x7, hx7, w7⟩ := e8.int Try.underlying3
    obtain rfl : a7 = _ := by simpa using hx7
    obtain ⟨x8, hx8, w8⟩ := e9.int Try.underlying3
    obtain rfl : a8 = _ := by simpa using hx8
    obtain ⟨x9, hx9⟩ := e10.bool Try.underlying4
    obtain rfl : a9 = _ := by simpa using hx9
    obtain ⟨x10, hx10, w10⟩ := e11.int Try.underlying3
    obtain rfl : a10 = _ := by simpa using hx10
    obtain ⟨x11, hx11, w11⟩ := e13.int Try.underlying32
    obtain rfl : a11 = _ := by simpa using hx11
    obtain ⟨x12, hx12, w12⟩ := e14.int Try.underlying3
    obtain rfl : a12 = _ := by simpa using hx12
    obtain ⟨x13, hx13, w13⟩ := e15.str Try.underlying9
    obtain rfl : a13 = _ := by simpa using hx13
    obtain ⟨x14, hx14⟩ := e16.bool Try.underlying4
    obtain rfl : a14 = _ := by simpa using hx14
    obtain ⟨x15, hx15, w15⟩ := e17.int Try.underlying3
    obtain rfl : a15 = _ := by simpa using hx15
    obtain ⟨x16, hx16, w16⟩ := e18.int Try.underlying3
    obtain rfl : a16 = _ := by simpa using hx16
    obtain ⟨x17, hx17, w17⟩ := e19.int Try.underlying3
    obtain rfl : a17 = _ := by simpa using hx17
    obtain ⟨x18, hx18, w18⟩ := e20.int Try.underlying3
    obtain rfl : a18 = _ := by simpa using hx18
    obtain ⟨x19, hx19, w19⟩ := e21.int Try.underlying3
    obtain rfl : a19 = _ := by simpa using hx19
    obtain ⟨x20, n20, es20, hx20, r20, m20, hl20, he20⟩ := e22.slice Try.underlying35 (sz := 2) (by kernel_rfl) (by omega)
    obtain rfl : a20 = _ := by simpa using hx20
    obtain ⟨l20, rfl, q20⟩ := list_pick (f := hdL) (Q := hdL_ok W) (fun c hc => hdL_in (he20 c hc).2)
    exact ⟨⟨x0, x1, x2, x3, x4, x5, x6, x7, x8, x9, x10, x11, x12, x13, x14, x15, x16, x17, x18, x19, a20⟩, rfl, ⟨bounds_i64 w0, bounds_i64 w1, bounds_i64 w2, bounds_i64 w3, bounds_i64 w4, bounds_i64 w5, bounds_i64 w6, bounds_i64 w7, bounds_i64 w8, bounds_i64 w10, bounds_i64 w11, bounds_i64 w12, w13, bounds_i64 w15, bounds_i64 w16, bounds_i64 w17, bounds_i64 w18, bounds_i64 w19, ⟨n20, l20, r20, m20, by simpa using hl20, q20⟩⟩⟩



def bigO (o : OpS) : Bool := decide (600 < (o.s.size : Int)) || decide (600 < (o.t.size : Int))
def greatB (n : Nat) (l : List OpS) : Bool := decide (60 < (n : Int)) || l.any bigO

theorem greatops_q (W0 : World) (C : Heap) (v : Value) (n : Nat) (l : List OpS) (hs : RdS W0 C 9 v n (l.map opL).flatten) (hl : l.length = n) : Gives W0 Try.prog 7 #[v] C (.bool (greatB n l)) := Gives.of fun X => by
  obtain ⟨ao, cap, rfl, hc, hr⟩ := hs.form
  by_cases hn : n > 60
  · refine Does.go Try.func7 rfl Try.results7 Try.ntmps7 rfl rfl ?_; (conv => whnf)
    repeat' (first | (with_reducible first | refine V.seq ?_ | refine V.block ?_ | refine V.ret ?_ | refine V.skip ?_ | refine V.exit ?_ | refine thenK_normal ?_ | refine thenK_ret ?_ | refine thenK_exit ?_ | refine blockK_normal ?_ | refine blockK_ret ?_ | refine blockK_here ?_ | refine loopK_ret ?_ | refine loopK_exit ?_ | refine Ops.nil ?_ | refine A.blockK_on (h := ?_)) | ((with_reducible first | refine A.drw tabOk ⟨[], [], []⟩ mixed (h := ?_) | refine A.reg tabOk (h := ?_) | refine And.intro (by omega) ?_ | refine A.load tabOk (h := ?_) | refine A.or tabOk (h := ?_) | refine A.and tabOk (h := ?_) | refine A.gopen tabOk (h := ?_) | refine A.gshutP tabOk (h := ?_) | refine A.gshutM tabOk (h := ?_) | refine A.gshutN tabOk (h := ?_) | refine A.pickT tabOk (h := ?_) | refine A.pickF tabOk (h := ?_) | refine A.gstep tabOk (h := ?_) | refine A.gload tabOk (h := ?_) | refine A.store tabOk (h := ?_) | refine A.loadL tabOk (h := ?_) | refine A.loadE tabOk (h := ?_) | refine A.storeL tabOk (h := ?_)); (conv => whnf)) | (with_reducible first | refine A.condT (hx := ?_) | refine A.condF (hy := ?_)) | fail)
    exact retK_ret rfl (by first | exact Weak.refl _ | exact Weak.all _ | (repeat (first | exact Weak.refl _ | exact Weak.all _ | refine A.wpick (k := ?_) | apply Weak.drop))) ⟨by simp only [tup, greatB]; congr 1; simp; omega, rfl⟩
  have hg : greatB n l = l.any bigO := by unfold greatB; simp; omega
  rw [hg]
  refine Does.go Try.func7 rfl Try.results7 Try.ntmps7 rfl rfl ?_; (conv => whnf)
  repeat' (first | (with_reducible first | refine V.seq ?_ | refine V.block ?_ | refine V.ret ?_ | refine V.skip ?_ | refine V.exit ?_ | refine thenK_normal ?_ | refine thenK_ret ?_ | refine thenK_exit ?_ | refine blockK_normal ?_ | refine blockK_ret ?_ | refine blockK_here ?_ | refine loopK_ret ?_ | refine loopK_exit ?_ | refine Ops.nil ?_ | refine A.blockK_on (h := ?_)) | ((with_reducible first | refine A.drw tabOk ⟨[], [], []⟩ mixed (h := ?_) | refine A.reg tabOk (h := ?_) | refine And.intro (by omega) ?_ | refine A.load tabOk (h := ?_) | refine A.or tabOk (h := ?_) | refine A.and tabOk (h := ?_) | refine A.gopen tabOk (h := ?_) | refine A.gshutP tabOk (h := ?_) | refine A.gshutM tabOk (h := ?_) | refine A.gshutN tabOk (h := ?_) | refine A.pickT tabOk (h := ?_) | refine A.pickF tabOk (h := ?_) | refine A.gstep tabOk (h := ?_) | refine A.gload tabOk (h := ?_) | refine A.store tabOk (h := ?_) | refine A.loadL tabOk (h := ?_) | refine A.loadE tabOk (h := ?_) | refine A.storeL tabOk (h := ?_)); (conv => whnf)) | (with_reducible first | refine A.condT (hx := ?_) | refine A.condF (hy := ?_)) | fail)
  refine V.loop (G := {k : Nat // k ≤ n ∧ (l.take k).any bigO = false}) (fun g => [(0, true, .slice ao n cap), (3, true, .int .i64 g.1)]) (fun _ => X :: C) (fun g => n - g.1) ⟨0, by simp⟩ (by with_unfolding_all repeat (first | exact trivial | refine And.intro rfl ?_)) (Weak.refl _) ?_
  rintro ⟨k, hk, hany⟩
  dsimp only
  by_cases hkn : k < n
  · obtain ⟨b1, o1, rfl, r1⟩ := hr (by omega)
    have q := (r1.mono (Weak.skip X C)).elem (f := opL) (sz := 9) (fun _ => rfl) (i := k) (by omega)
    have q7 := q.cell (j := 7) rfl
    have q8 := q.cell (j := 8) rfl
    have hsn : (l.take (k + 1)).any bigO = bigO l[k] := by rw [List.take_succ_eq_append_getElem (by omega), List.any_append, hany]; simp
    by_cases h1 : 600 < (l[k].s.size : Int)
    · have hb : l.any bigO = true := List.any_eq_true.2 ⟨l[k], by simp, by simp [bigO, h1]⟩
      repeat' (first | (with_reducible first | refine V.seq ?_ | refine V.block ?_ | refine V.ret ?_ | refine V.skip ?_ | refine V.exit ?_ | refine thenK_normal ?_ | refine thenK_ret ?_ | refine thenK_exit ?_ | refine blockK_normal ?_ | refine blockK_ret ?_ | refine blockK_here ?_ | refine loopK_ret ?_ | refine loopK_exit ?_ | refine Ops.nil ?_ | refine A.blockK_on (h := ?_)) | ((with_reducible first | refine A.drw tabOk ⟨[], [], []⟩ mixed (h := ?_) | refine A.reg tabOk (h := ?_) | refine And.intro (by omega) ?_ | refine A.load tabOk (h := ?_) | refine A.or tabOk (h := ?_) | refine A.and tabOk (h := ?_) | refine A.gopen tabOk (h := ?_) | refine A.gshutP tabOk (h := ?_) | refine A.gshutM tabOk (h := ?_) | refine A.gshutN tabOk (h := ?_) | refine A.pickT tabOk (h := ?_) | refine A.pickF tabOk (h := ?_) | refine A.gstep tabOk (h := ?_) | refine A.gload tabOk (h := ?_) | refine A.store tabOk (h := ?_) | refine A.loadL tabOk (h := ?_) | refine A.loadE tabOk (h := ?_) | refine A.storeL tabOk (h := ?_)); (conv => whnf)) | (with_reducible first | refine A.condT (hx := ?_) | refine A.condF (hy := ?_)) | fail)
      exact retK_ret rfl (by first | exact Weak.refl _ | exact Weak.all _ | (repeat (first | exact Weak.refl _ | exact Weak.all _ | refine A.wpick (k := ?_) | apply Weak.drop))) ⟨by simp only [tup, hb], rfl⟩
    · by_cases h2 : 600 < (l[k].t.size : Int)
      · have hb : l.any bigO = true := List.any_eq_true.2 ⟨l[k], by simp, by simp [bigO, h2]⟩
        repeat' (first | (with_reducible first | refine V.seq ?_ | refine V.block ?_ | refine V.ret ?_ | refine V.skip ?_ | refine V.exit ?_ | refine thenK_normal ?_ | refine thenK_ret ?_ | refine thenK_exit ?_ | refine blockK_normal ?_ | refine blockK_ret ?_ | refine blockK_here ?_ | refine loopK_ret ?_ | refine loopK_exit ?_ | refine Ops.nil ?_ | refine A.blockK_on (h := ?_)) | ((with_reducible first | refine A.drw tabOk ⟨[], [], []⟩ mixed (h := ?_) | refine A.reg tabOk (h := ?_) | refine And.intro (by omega) ?_ | refine A.load tabOk (h := ?_) | refine A.or tabOk (h := ?_) | refine A.and tabOk (h := ?_) | refine A.gopen tabOk (h := ?_) | refine A.gshutP tabOk (h := ?_) | refine A.gshutM tabOk (h := ?_) | refine A.gshutN tabOk (h := ?_) | refine A.pickT tabOk (h := ?_) | refine A.pickF tabOk (h := ?_) | refine A.gstep tabOk (h := ?_) | refine A.gload tabOk (h := ?_) | refine A.store tabOk (h := ?_) | refine A.loadL tabOk (h := ?_) | refine A.loadE tabOk (h := ?_) | refine A.storeL tabOk (h := ?_)); (conv => whnf)) | (with_reducible first | refine A.condT (hx := ?_) | refine A.condF (hy := ?_)) | fail)
        exact retK_ret rfl (by first | exact Weak.refl _ | exact Weak.all _ | (repeat (first | exact Weak.refl _ | exact Weak.all _ | refine A.wpick (k := ?_) | apply Weak.drop))) ⟨by simp only [tup, hb], rfl⟩
      · repeat' (first | (with_reducible first | refine V.seq ?_ | refine V.block ?_ | refine V.ret ?_ | refine V.skip ?_ | refine V.exit ?_ | refine thenK_normal ?_ | refine thenK_ret ?_ | refine thenK_exit ?_ | refine blockK_normal ?_ | refine blockK_ret ?_ | refine blockK_here ?_ | refine loopK_ret ?_ | refine loopK_exit ?_ | refine Ops.nil ?_ | refine A.blockK_on (h := ?_)) | ((with_reducible first | refine A.drw tabOk ⟨[], [], []⟩ mixed (h := ?_) | refine A.reg tabOk (h := ?_) | refine And.intro (by omega) ?_ | refine A.load tabOk (h := ?_) | refine A.or tabOk (h := ?_) | refine A.and tabOk (h := ?_) | refine A.gopen tabOk (h := ?_) | refine A.gshutP tabOk (h := ?_) | refine A.gshutM tabOk (h := ?_) | refine A.gshutN tabOk (h := ?_) | refine A.pickT tabOk (h := ?_) | refine A.pickF tabOk (h := ?_) | refine A.gstep tabOk (h := ?_) | refine A.gload tabOk (h := ?_) | refine A.store tabOk (h := ?_) | refine A.loadL tabOk (h := ?_) | refine A.loadE tabOk (h := ?_) | refine A.storeL tabOk (h := ?_)); (conv => whnf)) | (with_reducible first | refine A.condT (hx := ?_) | refine A.condF (hy := ?_)) | fail)
        refine loopK_again ⟨k + 1, by omega, by rw [hsn]; simp [bigO, h1, h2]⟩ (by with_unfolding_all repeat (first | exact trivial | refine And.intro rfl ?_)) (Weak.refl _) (by dsimp only; omega)
  · repeat' (first | (with_reducible first | refine V.seq ?_ | refine V.block ?_ | refine V.ret ?_ | refine V.skip ?_ | refine V.exit ?_ | refine thenK_normal ?_ | refine thenK_ret ?_ | refine thenK_exit ?_ | refine blockK_normal ?_ | refine blockK_ret ?_ | refine blockK_here ?_ | refine loopK_ret ?_ | refine loopK_exit ?_ | refine Ops.nil ?_ | refine A.blockK_on (h := ?_)) | ((with_reducible first | refine A.drw tabOk ⟨[], [], []⟩ mixed (h := ?_) | refine A.reg tabOk (h := ?_) | refine And.intro (by omega) ?_ | refine A.load tabOk (h := ?_) | refine A.or tabOk (h := ?_) | refine A.and tabOk (h := ?_) | refine A.gopen tabOk (h := ?_) | refine A.gshutP tabOk (h := ?_) | refine A.gshutM tabOk (h := ?_) | refine A.gshutN tabOk (h := ?_) | refine A.pickT tabOk (h := ?_) | refine A.pickF tabOk (h := ?_) | refine A.gstep tabOk (h := ?_) | refine A.gload tabOk (h := ?_) | refine A.store tabOk (h := ?_) | refine A.loadL tabOk (h := ?_) | refine A.loadE tabOk (h := ?_) | refine A.storeL tabOk (h := ?_)); (conv => whnf)) | (with_reducible first | refine A.condT (hx := ?_) | refine A.condF (hy := ?_)) | fail)
    have : k = n := by omega
    subst this
    rw [List.take_of_length_le (by omega)] at hany
    exact retK_ret rfl (by first | exact Weak.refl _ | exact Weak.all _ | (repeat (first | exact Weak.refl _ | exact Weak.all _ | refine A.wpick (k := ?_) | apply Weak.drop))) ⟨by simp only [tup, hany], rfl⟩
end Go.Proofs.Ytjflhphnbloniaa
