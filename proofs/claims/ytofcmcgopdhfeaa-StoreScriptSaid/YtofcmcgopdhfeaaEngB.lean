/- Rules of calls whose contract speaks of some chunks of memory, which are picked out; printed by a program of mine. -/
import Derived.Test.YtofcmcgopdhfeaaEng8
set_option maxRecDepth 100000
namespace Eng
open Go
section
variable {W0 : World} {P : Program} {T : Tab} {cf : Cfg} {arr : Array Oper} {k : Env → Heap → Prop} {rest : List Oper} {e : Env} {C : Heap} {d : Nat} {ty : TypeId} {p : String} {af : Array Edge}

theorem Ops.call1 (hT : TabOk P T) {l : List Operand} {vs : List Value} {ts : Array TypeId} {f : FuncId} {R : Value → Heap → Prop} {c1 : List Blk} {C0 : Heap} (hk : isM (klass cf ⟨some d, .call { callee := .value (.func f), args := l.toArray, argTypes := ts }, ty, p, af, none⟩) = true)
    (hl : Looks e l vs) (hc : callable P f = true) (hs : Does W0 P f vs.toArray (c1 :: C0) R) (q1 : Pick c1 C C0)
    (h : ∀ v C', R v C' → Weak C' cf.D ∧ Eng.pex T rest ((d, true, v) :: e) (fun l e => Ops W0 P cf arr k l e C')) : Ops W0 P cf arr k (⟨some d, .call { callee := .value (.func f), args := l.toArray, argTypes := ts }, ty, p, af, none⟩ :: rest) e C :=
  Ops.call hT hk hl hc (Does.weak (Weak.pick q1 (Weak.refl C0)) hs) h

theorem Ops.callQ1 (hT : TabOk P T) {l : List Operand} {vs : List Value} {ts : Array TypeId} {f : FuncId} {v : Value} {c1 : List Blk} {C0 : Heap} (hk : notPure (klass cf ⟨some d, .call { callee := .value (.func f), args := l.toArray, argTypes := ts }, ty, p, af, none⟩) = true) (hl : Looks e l vs) (hc : callable P f = true) (hs : Gives W0 P f vs.toArray (c1 :: C0) v) (q1 : Pick c1 C C0)
    (h : Eng.pex T rest ((d, true, v) :: e) (fun l e => Ops W0 P cf arr k l e C)) : Ops W0 P cf arr k (⟨some d, .call { callee := .value (.func f), args := l.toArray, argTypes := ts }, ty, p, af, none⟩ :: rest) e C :=
  Ops.callQ hT hk hl hc (hs.mono (Weak.pick q1 (Weak.refl C0))) h

theorem Ops.callV1 (hT : TabOk P T) {x : Nat} {l : List Operand} {vs as : List Value} {ts : Array TypeId} {f : FuncId} {fs as' : List Value} {R : Value → Heap → Prop} {c1 : List Blk} {C0 : Heap} (hk : isM (klass cf ⟨some d, .call { callee := .value (.tmp x), args := l.toArray, argTypes := ts }, ty, p, af, none⟩) = true)
    (hx : look e (.tmp x) = some (true, .func (.func f) fs.toArray as'.toArray)) (hl : Looks e l vs) (ha : fs ++ vs ++ as' = as) (hc : callable P f = true) (hs : Does W0 P f as.toArray (c1 :: C0) R) (q1 : Pick c1 C C0)
    (h : ∀ v C', R v C' → Weak C' cf.D ∧ Eng.pex T rest ((d, true, v) :: e) (fun l e => Ops W0 P cf arr k l e C')) : Ops W0 P cf arr k (⟨some d, .call { callee := .value (.tmp x), args := l.toArray, argTypes := ts }, ty, p, af, none⟩ :: rest) e C :=
  Ops.callV hT hk hx hl ha hc (Does.weak (Weak.pick q1 (Weak.refl C0)) hs) h

theorem Ops.callVQ1 (hT : TabOk P T) {x : Nat} {l : List Operand} {vs as : List Value} {ts : Array TypeId} {f : FuncId} {fs as' : List Value} {v : Value} {c1 : List Blk} {C0 : Heap} (hk : notPure (klass cf ⟨some d, .call { callee := .value (.tmp x), args := l.toArray, argTypes := ts }, ty, p, af, none⟩) = true)
    (hx : look e (.tmp x) = some (true, .func (.func f) fs.toArray as'.toArray)) (hl : Looks e l vs) (ha : fs ++ vs ++ as' = as) (hc : callable P f = true) (hs : Gives W0 P f as.toArray (c1 :: C0) v) (q1 : Pick c1 C C0)
    (h : Eng.pex T rest ((d, true, v) :: e) (fun l e => Ops W0 P cf arr k l e C)) : Ops W0 P cf arr k (⟨some d, .call { callee := .value (.tmp x), args := l.toArray, argTypes := ts }, ty, p, af, none⟩ :: rest) e C :=
  Ops.callVQ hT hk hx hl ha hc (hs.mono (Weak.pick q1 (Weak.refl C0))) h

theorem Ops.gcall1 (hT : TabOk P T) {l : List Operand} {vs : List Value} {ts : Array TypeId} {f : FuncId} {j : Nat} {want G : Bool} {R : Value → Heap → Prop} {c1 : List Blk} {C0 : Heap} (hk : isM (klass cf ⟨some d, .call { callee := .value (.func f), args := l.toArray, argTypes := ts }, ty, p, af, some (j, want)⟩) = true)
    (hg : guardOk arr e (some (j, want)) G) (hl : Looks e l vs) (hc : callable P f = true) (hs : G = true → Does W0 P f vs.toArray (c1 :: C0) R) (q1 : Pick c1 C C0)
    (h : G = true → ∀ v C', R v C' → Weak C' cf.D ∧ Eng.pex T rest ((d, true, v) :: e) (fun l e => Ops W0 P cf arr k l e C')) (h' : G = false → Eng.pex T rest ((d, true, undef) :: e) (fun l e => Ops W0 P cf arr k l e C)) : Ops W0 P cf arr k (⟨some d, .call { callee := .value (.func f), args := l.toArray, argTypes := ts }, ty, p, af, some (j, want)⟩ :: rest) e C :=
  Ops.gcall hT hk hg hl hc (fun hG => Does.weak (Weak.pick q1 (Weak.refl C0)) (hs hG)) h h'

theorem Ops.call2 (hT : TabOk P T) {l : List Operand} {vs : List Value} {ts : Array TypeId} {f : FuncId} {R : Value → Heap → Prop} {c1 c2 : List Blk} {C1 C0 : Heap} (hk : isM (klass cf ⟨some d, .call { callee := .value (.func f), args := l.toArray, argTypes := ts }, ty, p, af, none⟩) = true)
    (hl : Looks e l vs) (hc : callable P f = true) (hs : Does W0 P f vs.toArray (c1 :: c2 :: C0) R) (q1 : Pick c1 C C1) (q2 : Pick c2 C1 C0)
    (h : ∀ v C', R v C' → Weak C' cf.D ∧ Eng.pex T rest ((d, true, v) :: e) (fun l e => Ops W0 P cf arr k l e C')) : Ops W0 P cf arr k (⟨some d, .call { callee := .value (.func f), args := l.toArray, argTypes := ts }, ty, p, af, none⟩ :: rest) e C :=
  Ops.call hT hk hl hc (Does.weak (Weak.pick q1 (Weak.pick q2 (Weak.refl C0))) hs) h

theorem Ops.callQ2 (hT : TabOk P T) {l : List Operand} {vs : List Value} {ts : Array TypeId} {f : FuncId} {v : Value} {c1 c2 : List Blk} {C1 C0 : Heap} (hk : notPure (klass cf ⟨some d, .call { callee := .value (.func f), args := l.toArray, argTypes := ts }, ty, p, af, none⟩) = true) (hl : Looks e l vs) (hc : callable P f = true) (hs : Gives W0 P f vs.toArray (c1 :: c2 :: C0) v) (q1 : Pick c1 C C1) (q2 : Pick c2 C1 C0)
    (h : Eng.pex T rest ((d, true, v) :: e) (fun l e => Ops W0 P cf arr k l e C)) : Ops W0 P cf arr k (⟨some d, .call { callee := .value (.func f), args := l.toArray, argTypes := ts }, ty, p, af, none⟩ :: rest) e C :=
  Ops.callQ hT hk hl hc (hs.mono (Weak.pick q1 (Weak.pick q2 (Weak.refl C0)))) h

theorem Ops.callV2 (hT : TabOk P T) {x : Nat} {l : List Operand} {vs as : List Value} {ts : Array TypeId} {f : FuncId} {fs as' : List Value} {R : Value → Heap → Prop} {c1 c2 : List Blk} {C1 C0 : Heap} (hk : isM (klass cf ⟨some d, .call { callee := .value (.tmp x), args := l.toArray, argTypes := ts }, ty, p, af, none⟩) = true)
    (hx : look e (.tmp x) = some (true, .func (.func f) fs.toArray as'.toArray)) (hl : Looks e l vs) (ha : fs ++ vs ++ as' = as) (hc : callable P f = true) (hs : Does W0 P f as.toArray (c1 :: c2 :: C0) R) (q1 : Pick c1 C C1) (q2 : Pick c2 C1 C0)
    (h : ∀ v C', R v C' → Weak C' cf.D ∧ Eng.pex T rest ((d, true, v) :: e) (fun l e => Ops W0 P cf arr k l e C')) : Ops W0 P cf arr k (⟨some d, .call { callee := .value (.tmp x), args := l.toArray, argTypes := ts }, ty, p, af, none⟩ :: rest) e C :=
  Ops.callV hT hk hx hl ha hc (Does.weak (Weak.pick q1 (Weak.pick q2 (Weak.refl C0))) hs) h

theorem Ops.callVQ2 (hT : TabOk P T) {x : Nat} {l : List Operand} {vs as : List Value} {ts : Array TypeId} {f : FuncId} {fs as' : List Value} {v : Value} {c1 c2 : List Blk} {C1 C0 : Heap} (hk : notPure (klass cf ⟨some d, .call { callee := .value (.tmp x), args := l.toArray, argTypes := ts }, ty, p, af, none⟩) = true)
    (hx : look e (.tmp x) = some (true, .func (.func f) fs.toArray as'.toArray)) (hl : Looks e l vs) (ha : fs ++ vs ++ as' = as) (hc : callable P f = true) (hs : Gives W0 P f as.toArray (c1 :: c2 :: C0) v) (q1 : Pick c1 C C1) (q2 : Pick c2 C1 C0)
    (h : Eng.pex T rest ((d, true, v) :: e) (fun l e => Ops W0 P cf arr k l e C)) : Ops W0 P cf arr k (⟨some d, .call { callee := .value (.tmp x), args := l.toArray, argTypes := ts }, ty, p, af, none⟩ :: rest) e C :=
  Ops.callVQ hT hk hx hl ha hc (hs.mono (Weak.pick q1 (Weak.pick q2 (Weak.refl C0)))) h

theorem Ops.gcall2 (hT : TabOk P T) {l : List Operand} {vs : List Value} {ts : Array TypeId} {f : FuncId} {j : Nat} {want G : Bool} {R : Value → Heap → Prop} {c1 c2 : List Blk} {C1 C0 : Heap} (hk : isM (klass cf ⟨some d, .call { callee := .value (.func f), args := l.toArray, argTypes := ts }, ty, p, af, some (j, want)⟩) = true)
    (hg : guardOk arr e (some (j, want)) G) (hl : Looks e l vs) (hc : callable P f = true) (hs : G = true → Does W0 P f vs.toArray (c1 :: c2 :: C0) R) (q1 : Pick c1 C C1) (q2 : Pick c2 C1 C0)
    (h : G = true → ∀ v C', R v C' → Weak C' cf.D ∧ Eng.pex T rest ((d, true, v) :: e) (fun l e => Ops W0 P cf arr k l e C')) (h' : G = false → Eng.pex T rest ((d, true, undef) :: e) (fun l e => Ops W0 P cf arr k l e C)) : Ops W0 P cf arr k (⟨some d, .call { callee := .value (.func f), args := l.toArray, argTypes := ts }, ty, p, af, some (j, want)⟩ :: rest) e C :=
  Ops.gcall hT hk hg hl hc (fun hG => Does.weak (Weak.pick q1 (Weak.pick q2 (Weak.refl C0))) (hs hG)) h h'

theorem Ops.call3 (hT : TabOk P T) {l : List Operand} {vs : List Value} {ts : Array TypeId} {f : FuncId} {R : Value → Heap → Prop} {c1 c2 c3 : List Blk} {C1 C2 C0 : Heap} (hk : isM (klass cf ⟨some d, .call { callee := .value (.func f), args := l.toArray, argTypes := ts }, ty, p, af, none⟩) = true)
    (hl : Looks e l vs) (hc : callable P f = true) (hs : Does W0 P f vs.toArray (c1 :: c2 :: c3 :: C0) R) (q1 : Pick c1 C C1) (q2 : Pick c2 C1 C2) (q3 : Pick c3 C2 C0)
    (h : ∀ v C', R v C' → Weak C' cf.D ∧ Eng.pex T rest ((d, true, v) :: e) (fun l e => Ops W0 P cf arr k l e C')) : Ops W0 P cf arr k (⟨some d, .call { callee := .value (.func f), args := l.toArray, argTypes := ts }, ty, p, af, none⟩ :: rest) e C :=
  Ops.call hT hk hl hc (Does.weak (Weak.pick q1 (Weak.pick q2 (Weak.pick q3 (Weak.refl C0)))) hs) h

theorem Ops.callQ3 (hT : TabOk P T) {l : List Operand} {vs : List Value} {ts : Array TypeId} {f : FuncId} {v : Value} {c1 c2 c3 : List Blk} {C1 C2 C0 : Heap} (hk : notPure (klass cf ⟨some d, .call { callee := .value (.func f), args := l.toArray, argTypes := ts }, ty, p, af, none⟩) = true) (hl : Looks e l vs) (hc : callable P f = true) (hs : Gives W0 P f vs.toArray (c1 :: c2 :: c3 :: C0) v) (q1 : Pick c1 C C1) (q2 : Pick c2 C1 C2) (q3 : Pick c3 C2 C0)
    (h : Eng.pex T rest ((d, true, v) :: e) (fun l e => Ops W0 P cf arr k l e C)) : Ops W0 P cf arr k (⟨some d, .call { callee := .value (.func f), args := l.toArray, argTypes := ts }, ty, p, af, none⟩ :: rest) e C :=
  Ops.callQ hT hk hl hc (hs.mono (Weak.pick q1 (Weak.pick q2 (Weak.pick q3 (Weak.refl C0))))) h

theorem Ops.callV3 (hT : TabOk P T) {x : Nat} {l : List Operand} {vs as : List Value} {ts : Array TypeId} {f : FuncId} {fs as' : List Value} {R : Value → Heap → Prop} {c1 c2 c3 : List Blk} {C1 C2 C0 : Heap} (hk : isM (klass cf ⟨some d, .call { callee := .value (.tmp x), args := l.toArray, argTypes := ts }, ty, p, af, none⟩) = true)
    (hx : look e (.tmp x) = some (true, .func (.func f) fs.toArray as'.toArray)) (hl : Looks e l vs) (ha : fs ++ vs ++ as' = as) (hc : callable P f = true) (hs : Does W0 P f as.toArray (c1 :: c2 :: c3 :: C0) R) (q1 : Pick c1 C C1) (q2 : Pick c2 C1 C2) (q3 : Pick c3 C2 C0)
    (h : ∀ v C', R v C' → Weak C' cf.D ∧ Eng.pex T rest ((d, true, v) :: e) (fun l e => Ops W0 P cf arr k l e C')) : Ops W0 P cf arr k (⟨some d, .call { callee := .value (.tmp x), args := l.toArray, argTypes := ts }, ty, p, af, none⟩ :: rest) e C :=
  Ops.callV hT hk hx hl ha hc (Does.weak (Weak.pick q1 (Weak.pick q2 (Weak.pick q3 (Weak.refl C0)))) hs) h

theorem Ops.callVQ3 (hT : TabOk P T) {x : Nat} {l : List Operand} {vs as : List Value} {ts : Array TypeId} {f : FuncId} {fs as' : List Value} {v : Value} {c1 c2 c3 : List Blk} {C1 C2 C0 : Heap} (hk : notPure (klass cf ⟨some d, .call { callee := .value (.tmp x), args := l.toArray, argTypes := ts }, ty, p, af, none⟩) = true)
    (hx : look e (.tmp x) = some (true, .func (.func f) fs.toArray as'.toArray)) (hl : Looks e l vs) (ha : fs ++ vs ++ as' = as) (hc : callable P f = true) (hs : Gives W0 P f as.toArray (c1 :: c2 :: c3 :: C0) v) (q1 : Pick c1 C C1) (q2 : Pick c2 C1 C2) (q3 : Pick c3 C2 C0)
    (h : Eng.pex T rest ((d, true, v) :: e) (fun l e => Ops W0 P cf arr k l e C)) : Ops W0 P cf arr k (⟨some d, .call { callee := .value (.tmp x), args := l.toArray, argTypes := ts }, ty, p, af, none⟩ :: rest) e C :=
  Ops.callVQ hT hk hx hl ha hc (hs.mono (Weak.pick q1 (Weak.pick q2 (Weak.pick q3 (Weak.refl C0))))) h

theorem Ops.gcall3 (hT : TabOk P T) {l : List Operand} {vs : List Value} {ts : Array TypeId} {f : FuncId} {j : Nat} {want G : Bool} {R : Value → Heap → Prop} {c1 c2 c3 : List Blk} {C1 C2 C0 : Heap} (hk : isM (klass cf ⟨some d, .call { callee := .value (.func f), args := l.toArray, argTypes := ts }, ty, p, af, some (j, want)⟩) = true)
    (hg : guardOk arr e (some (j, want)) G) (hl : Looks e l vs) (hc : callable P f = true) (hs : G = true → Does W0 P f vs.toArray (c1 :: c2 :: c3 :: C0) R) (q1 : Pick c1 C C1) (q2 : Pick c2 C1 C2) (q3 : Pick c3 C2 C0)
    (h : G = true → ∀ v C', R v C' → Weak C' cf.D ∧ Eng.pex T rest ((d, true, v) :: e) (fun l e => Ops W0 P cf arr k l e C')) (h' : G = false → Eng.pex T rest ((d, true, undef) :: e) (fun l e => Ops W0 P cf arr k l e C)) : Ops W0 P cf arr k (⟨some d, .call { callee := .value (.func f), args := l.toArray, argTypes := ts }, ty, p, af, some (j, want)⟩ :: rest) e C :=
  Ops.gcall hT hk hg hl hc (fun hG => Does.weak (Weak.pick q1 (Weak.pick q2 (Weak.pick q3 (Weak.refl C0)))) (hs hG)) h h'

theorem Ops.call4 (hT : TabOk P T) {l : List Operand} {vs : List Value} {ts : Array TypeId} {f : FuncId} {R : Value → Heap → Prop} {c1 c2 c3 c4 : List Blk} {C1 C2 C3 C0 : Heap} (hk : isM (klass cf ⟨some d, .call { callee := .value (.func f), args := l.toArray, argTypes := ts }, ty, p, af, none⟩) = true)
    (hl : Looks e l vs) (hc : callable P f = true) (hs : Does W0 P f vs.toArray (c1 :: c2 :: c3 :: c4 :: C0) R) (q1 : Pick c1 C C1) (q2 : Pick c2 C1 C2) (q3 : Pick c3 C2 C3) (q4 : Pick c4 C3 C0)
    (h : ∀ v C', R v C' → Weak C' cf.D ∧ Eng.pex T rest ((d, true, v) :: e) (fun l e => Ops W0 P cf arr k l e C')) : Ops W0 P cf arr k (⟨some d, .call { callee := .value (.func f), args := l.toArray, argTypes := ts }, ty, p, af, none⟩ :: rest) e C :=
  Ops.call hT hk hl hc (Does.weak (Weak.pick q1 (Weak.pick q2 (Weak.pick q3 (Weak.pick q4 (Weak.refl C0))))) hs) h

theorem Ops.callQ4 (hT : TabOk P T) {l : List Operand} {vs : List Value} {ts : Array TypeId} {f : FuncId} {v : Value} {c1 c2 c3 c4 : List Blk} {C1 C2 C3 C0 : Heap} (hk : notPure (klass cf ⟨some d, .call { callee := .value (.func f), args := l.toArray, argTypes := ts }, ty, p, af, none⟩) = true) (hl : Looks e l vs) (hc : callable P f = true) (hs : Gives W0 P f vs.toArray (c1 :: c2 :: c3 :: c4 :: C0) v) (q1 : Pick c1 C C1) (q2 : Pick c2 C1 C2) (q3 : Pick c3 C2 C3) (q4 : Pick c4 C3 C0)
    (h : Eng.pex T rest ((d, true, v) :: e) (fun l e => Ops W0 P cf arr k l e C)) : Ops W0 P cf arr k (⟨some d, .call { callee := .value (.func f), args := l.toArray, argTypes := ts }, ty, p, af, none⟩ :: rest) e C :=
  Ops.callQ hT hk hl hc (hs.mono (Weak.pick q1 (Weak.pick q2 (Weak.pick q3 (Weak.pick q4 (Weak.refl C0)))))) h

theorem Ops.callV4 (hT : TabOk P T) {x : Nat} {l : List Operand} {vs as : List Value} {ts : Array TypeId} {f : FuncId} {fs as' : List Value} {R : Value → Heap → Prop} {c1 c2 c3 c4 : List Blk} {C1 C2 C3 C0 : Heap} (hk : isM (klass cf ⟨some d, .call { callee := .value (.tmp x), args := l.toArray, argTypes := ts }, ty, p, af, none⟩) = true)
    (hx : look e (.tmp x) = some (true, .func (.func f) fs.toArray as'.toArray)) (hl : Looks e l vs) (ha : fs ++ vs ++ as' = as) (hc : callable P f = true) (hs : Does W0 P f as.toArray (c1 :: c2 :: c3 :: c4 :: C0) R) (q1 : Pick c1 C C1) (q2 : Pick c2 C1 C2) (q3 : Pick c3 C2 C3) (q4 : Pick c4 C3 C0)
    (h : ∀ v C', R v C' → Weak C' cf.D ∧ Eng.pex T rest ((d, true, v) :: e) (fun l e => Ops W0 P cf arr k l e C')) : Ops W0 P cf arr k (⟨some d, .call { callee := .value (.tmp x), args := l.toArray, argTypes := ts }, ty, p, af, none⟩ :: rest) e C :=
  Ops.callV hT hk hx hl ha hc (Does.weak (Weak.pick q1 (Weak.pick q2 (Weak.pick q3 (Weak.pick q4 (Weak.refl C0))))) hs) h

theorem Ops.callVQ4 (hT : TabOk P T) {x : Nat} {l : List Operand} {vs as : List Value} {ts : Array TypeId} {f : FuncId} {fs as' : List Value} {v : Value} {c1 c2 c3 c4 : List Blk} {C1 C2 C3 C0 : Heap} (hk : notPure (klass cf ⟨some d, .call { callee := .value (.tmp x), args := l.toArray, argTypes := ts }, ty, p, af, none⟩) = true)
    (hx : look e (.tmp x) = some (true, .func (.func f) fs.toArray as'.toArray)) (hl : Looks e l vs) (ha : fs ++ vs ++ as' = as) (hc : callable P f = true) (hs : Gives W0 P f as.toArray (c1 :: c2 :: c3 :: c4 :: C0) v) (q1 : Pick c1 C C1) (q2 : Pick c2 C1 C2) (q3 : Pick c3 C2 C3) (q4 : Pick c4 C3 C0)
    (h : Eng.pex T rest ((d, true, v) :: e) (fun l e => Ops W0 P cf arr k l e C)) : Ops W0 P cf arr k (⟨some d, .call { callee := .value (.tmp x), args := l.toArray, argTypes := ts }, ty, p, af, none⟩ :: rest) e C :=
  Ops.callVQ hT hk hx hl ha hc (hs.mono (Weak.pick q1 (Weak.pick q2 (Weak.pick q3 (Weak.pick q4 (Weak.refl C0)))))) h

theorem Ops.gcall4 (hT : TabOk P T) {l : List Operand} {vs : List Value} {ts : Array TypeId} {f : FuncId} {j : Nat} {want G : Bool} {R : Value → Heap → Prop} {c1 c2 c3 c4 : List Blk} {C1 C2 C3 C0 : Heap} (hk : isM (klass cf ⟨some d, .call { callee := .value (.func f), args := l.toArray, argTypes := ts }, ty, p, af, some (j, want)⟩) = true)
    (hg : guardOk arr e (some (j, want)) G) (hl : Looks e l vs) (hc : callable P f = true) (hs : G = true → Does W0 P f vs.toArray (c1 :: c2 :: c3 :: c4 :: C0) R) (q1 : Pick c1 C C1) (q2 : Pick c2 C1 C2) (q3 : Pick c3 C2 C3) (q4 : Pick c4 C3 C0)
    (h : G = true → ∀ v C', R v C' → Weak C' cf.D ∧ Eng.pex T rest ((d, true, v) :: e) (fun l e => Ops W0 P cf arr k l e C')) (h' : G = false → Eng.pex T rest ((d, true, undef) :: e) (fun l e => Ops W0 P cf arr k l e C)) : Ops W0 P cf arr k (⟨some d, .call { callee := .value (.func f), args := l.toArray, argTypes := ts }, ty, p, af, some (j, want)⟩ :: rest) e C :=
  Ops.gcall hT hk hg hl hc (fun hG => Does.weak (Weak.pick q1 (Weak.pick q2 (Weak.pick q3 (Weak.pick q4 (Weak.refl C0))))) (hs hG)) h h'

end
end Eng
