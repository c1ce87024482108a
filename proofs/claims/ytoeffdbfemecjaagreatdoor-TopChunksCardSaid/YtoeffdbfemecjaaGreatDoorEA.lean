/-
  The engine: rules with their side goals laid in. No conditions but those that each theorem names.
-/
import Derived.Test.YtoeffdbfemecjaaGreatDoorE4
import Derived.KernelRfl
/- The engine's rules once more, with what their side goals need laid in; printed by a program of mine. -/
namespace Eng
open Go
section
variable {W0 : World} {P : Program} {T : Tab} {e : Env} {C : Heap} {d : Nat} {ty : TypeId} {p : String} {af : Array Edge} {cf : Cfg} {arr : Array Oper} {k : Env → Heap → Prop} {rest : List Oper} {n : Nat} {K : Kont} {dd : Option Nat} {op : Op}

theorem A.load (hT : TabOk P T) {t : TypeId} {x : Operand} {a : Addr} {v : Value} {i : TyI} (ht : T.find t = some i := by with_unfolding_all rfl) (hs : (i.d.known && !i.d.agg) = true := by with_unfolding_all rfl) (hx : look e x = some (true, .pointer (some a)) := by with_unfolding_all rfl) (hr : Rd W0 C a v := by with_unfolding_all first | ((repeat (first | exact Rd.here rfl | apply Rd.skip)); done) | assumption | exact Rd.mono (by assumption) (Weak.all _)) (hk : notPure (klass cf ⟨some d, .load t x, ty, p, af, none⟩) = true := by with_unfolding_all rfl) (h : Eng.pex T rest ((d, true, v) :: e) (fun l e => Ops W0 P cf arr k l e C)) : Ops W0 P cf arr k (⟨some d, .load t x, ty, p, af, none⟩ :: rest) e C :=
  Eng.Ops.load hT ht hs hx hr hk h

theorem A.condT {c : Operand} {x y : Code} {b : Bool} (hc : look e c = some (true, .bool b) := by with_unfolding_all rfl) (hb : b = true := by with_unfolding_all first | rfl | (simp only [Eng.bs, cond_true, cond_false]; done) | (simp only [Eng.bs, cond_true, cond_false]; omega) | fail) (hx : V W0 P n K x e C) : V W0 P n K (.cond c x y) e C :=
  Eng.V.condT hc hb hx

theorem A.condF {c : Operand} {x y : Code} {b : Bool} (hc : look e c = some (true, .bool b) := by with_unfolding_all rfl) (hb : b = false := by with_unfolding_all first | rfl | (simp only [Eng.bs, cond_true, cond_false]; done) | (simp only [Eng.bs, cond_true, cond_false]; omega) | fail) (hy : V W0 P n K y e C) : V W0 P n K (.cond c x y) e C :=
  Eng.V.condF hc hb hy

theorem A.reg {T : Tab} (hT : TabOk P T) {id : Nat} {l : List Oper} (hd : dstOk n l = true := by with_unfolding_all rfl) (h : Eng.pex T l e (fun l' e' => Ops W0 P cfg0 l.toArray (fun e C => K .normal e C) l' e' C)) : V W0 P n K (.region id l.toArray false) e C :=
  Eng.V.reg hT hd h

theorem A.call (hT : TabOk P T) {l : List Operand} {vs : List Value} {ts : Array TypeId} {f : FuncId} {R : Value → Heap → Prop} (hk : isM (klass cf ⟨some d, .call { callee := .value (.func f), args := l.toArray, argTypes := ts }, ty, p, af, none⟩) = true := by with_unfolding_all rfl) (hl : Looks e l vs := by with_unfolding_all repeat (first | exact Looks.nil | apply Looks.cons rfl)) (hc : callable P f = true := by kernel_rfl) (hs : Does W0 P f vs.toArray C R) (h : ∀ v C', R v C' → Weak C' cf.D ∧ Eng.pex T rest ((d, true, v) :: e) (fun l e => Ops W0 P cf arr k l e C')) : Ops W0 P cf arr k (⟨some d, .call { callee := .value (.func f), args := l.toArray, argTypes := ts }, ty, p, af, none⟩ :: rest) e C :=
  Eng.Ops.call hT hk hl hc hs h

theorem A.callQ (hT : TabOk P T) {l : List Operand} {vs : List Value} {ts : Array TypeId} {f : FuncId} {v : Value} (hk : notPure (klass cf ⟨some d, .call { callee := .value (.func f), args := l.toArray, argTypes := ts }, ty, p, af, none⟩) = true := by with_unfolding_all rfl) (hl : Looks e l vs := by with_unfolding_all repeat (first | exact Looks.nil | apply Looks.cons rfl)) (hc : callable P f = true := by kernel_rfl) (hs : Gives W0 P f vs.toArray C v) (h : Eng.pex T rest ((d, true, v) :: e) (fun l e => Ops W0 P cf arr k l e C)) : Ops W0 P cf arr k (⟨some d, .call { callee := .value (.func f), args := l.toArray, argTypes := ts }, ty, p, af, none⟩ :: rest) e C :=
  Eng.Ops.callQ hT hk hl hc hs h

theorem A.callVQ (hT : TabOk P T) {x : Nat} {l : List Operand} {vs as : List Value} {ts : Array TypeId} {f : FuncId} {fs cs : List Value} {v : Value} (hk : notPure (klass cf ⟨some d, .call { callee := .value (.tmp x), args := l.toArray, argTypes := ts }, ty, p, af, none⟩) = true := by with_unfolding_all rfl) (hx : look e (.tmp x) = some (true, .func (.func f) fs.toArray cs.toArray) := by with_unfolding_all rfl) (hl : Looks e l vs := by with_unfolding_all repeat (first | exact Looks.nil | apply Looks.cons rfl)) (ha : fs ++ vs ++ cs = as := by with_unfolding_all rfl) (hc : callable P f = true := by kernel_rfl) (hs : Gives W0 P f as.toArray C v) (h : Eng.pex T rest ((d, true, v) :: e) (fun l e => Ops W0 P cf arr k l e C)) : Ops W0 P cf arr k (⟨some d, .call { callee := .value (.tmp x), args := l.toArray, argTypes := ts }, ty, p, af, none⟩ :: rest) e C :=
  Eng.Ops.callVQ hT hk hx hl ha hc hs h

theorem A.loadE (hT : TabOk P T) {t : TypeId} {x : Operand} {b off : Nat} {vs : List Value} {i : TyI} (ht : T.find t = some i := by with_unfolding_all rfl) (hs : i.d.agg = true := by with_unfolding_all rfl) (hx : look e x = some (true, .pointer (some ⟨b, off, none⟩)) := by with_unfolding_all rfl) (hr : RdL W0 C b off vs := by with_unfolding_all first | assumption | exact RdL.mono (by assumption) (Weak.all _)) (hl : vs.length = i.size := by with_unfolding_all rfl) (hk : notPure (klass cf ⟨some d, .load t x, ty, p, af, none⟩) = true := by with_unfolding_all rfl) (h : Eng.pex T rest ((d, true, .agg vs.toArray) :: e) (fun l e => Ops W0 P cf arr k l e C)) : Ops W0 P cf arr k (⟨some d, .load t x, ty, p, af, none⟩ :: rest) e C :=
  Eng.Ops.loadE hT ht hs hx hr hl hk h

theorem A.boxN (hT : TabOk P T) {t : TypeId} {x : Operand} {vs : List Value} (hx : look e x = some (true, .agg vs.toArray) := by with_unfolding_all rfl) (hk : isFresh (klass cf ⟨some d, .box t x, ty, p, af, none⟩) = true := by with_unfolding_all rfl) (h : ∀ b, Eng.pex T rest ((d, true, .pointer (some ⟨b, 0, none⟩)) :: e) (fun l e => Ops W0 P cf arr k l e ([(b, .cells vs.toArray t (0, 0))] :: C))) : Ops W0 P cf arr k (⟨some d, .box t x, ty, p, af, none⟩ :: rest) e C :=
  Eng.Ops.boxN hT hx hk h

theorem A.box (hT : TabOk P T) {t : TypeId} {x : Operand} {v : Value} (hx : look e x = some (true, v) := by with_unfolding_all rfl) (hv : v.oneCell' = true := by with_unfolding_all rfl) (hk : isFresh (klass cf ⟨some d, .box t x, ty, p, af, none⟩) = true := by with_unfolding_all rfl) (h : ∀ b, Eng.pex T rest ((d, true, .pointer (some ⟨b, 0, none⟩)) :: e) (fun l e => Ops W0 P cf arr k l e ([(b, .cells [v].toArray t (0, 0))] :: C))) : Ops W0 P cf arr k (⟨some d, .box t x, ty, p, af, none⟩ :: rest) e C :=
  Eng.Ops.box hT hx hv hk h

theorem A.wpick {c : List Blk} {C C' D : Heap} (h : Pick c C C' := by with_unfolding_all first | exact Pick.here | exact (Pick.skip Pick.here) | exact (Pick.skip (Pick.skip Pick.here)) | exact (Pick.skip (Pick.skip (Pick.skip Pick.here))) | exact (Pick.skip (Pick.skip (Pick.skip (Pick.skip Pick.here)))) | exact (Pick.skip (Pick.skip (Pick.skip (Pick.skip (Pick.skip Pick.here))))) | exact (Pick.skip (Pick.skip (Pick.skip (Pick.skip (Pick.skip (Pick.skip Pick.here)))))) | exact (Pick.skip (Pick.skip (Pick.skip (Pick.skip (Pick.skip (Pick.skip (Pick.skip Pick.here))))))) | exact (Pick.skip (Pick.skip (Pick.skip (Pick.skip (Pick.skip (Pick.skip (Pick.skip (Pick.skip Pick.here)))))))) | exact (Pick.skip (Pick.skip (Pick.skip (Pick.skip (Pick.skip (Pick.skip (Pick.skip (Pick.skip (Pick.skip Pick.here))))))))) | exact (Pick.skip (Pick.skip (Pick.skip (Pick.skip (Pick.skip (Pick.skip (Pick.skip (Pick.skip (Pick.skip (Pick.skip Pick.here)))))))))) | exact (Pick.skip (Pick.skip (Pick.skip (Pick.skip (Pick.skip (Pick.skip (Pick.skip (Pick.skip (Pick.skip (Pick.skip (Pick.skip Pick.here))))))))))) | exact (Pick.skip (Pick.skip (Pick.skip (Pick.skip (Pick.skip (Pick.skip (Pick.skip (Pick.skip (Pick.skip (Pick.skip (Pick.skip (Pick.skip Pick.here)))))))))))) | exact (Pick.skip (Pick.skip (Pick.skip (Pick.skip (Pick.skip (Pick.skip (Pick.skip (Pick.skip (Pick.skip (Pick.skip (Pick.skip (Pick.skip (Pick.skip Pick.here)))))))))))))) (k : Weak C' D) : Weak C (c :: D) := Weak.pick h k

end
end Eng
