/-
  An interpreter: regions, code, calls; the translation. No conditions but those that each theorem names.
-/
import Derived.Test.YtfmjehkohlbebaaGreatDoorD2
import Derived.Test.YtfmjehkohlbebaaGreatDoorE4
set_option linter.unusedVariables false
namespace Den
open Go Eng
inductive Y where
  | p (y : Y1)
  | ld (x : X) (sz : Nat) (agg : Bool)
  | st (x y : X) (sz : Nat)
  | al (t : Nat) (zs : List VV)
  | bx (t : Nat) (x : X)
  | bsl (t sz n : Nat) (zs : List VV) (ps : List (Nat × Nat × X))
  | mks (t sz by_ : Nat) (zs : List VV) (x y : X)
  | app (t sz by_ : Nat) (x y : X)
  | cpy (sz : Nat) (x y : X)
  | mkm
  | lku (z : VV) (ok : Bool) (x y : X)
  | mup (x y z : X)
  | mdl (x y : X)
  | call (f : P) (xs : List X)
  | cv (x : X) (xs : List X)
  | peq (n : Bool) (x y : X)
  | cvs (t : Nat) (x : X)
  | inv (tbl : List (Nat × P × Bool)) (x : X) (xs : List X)
  | cvb (x : X)
  | req (n : Bool) (x y : X)
inductive Z where
  | d (p : P) (y : Y)
  | u (y : Y)
  | gd (j : P) (w : Bool) (p : P) (y : Y)
  | gu (j : P) (w : Bool) (y : Y)
  | s (p : P) (x : X) (sz : Nat) (agg : Bool)
  | gs (j : P) (w : Bool) (p : P) (x : X) (sz : Nat) (agg : Bool)
  | c (p : P) (x : X)
inductive Ex where
  | n | r | x (id : Nat)
inductive I where
  | i0 | i1 | i2 | i3 | i4 | i5 | i6 | i7 | nx (i : I)
inductive En where
  | nl | nd (a0 a1 a2 a3 a4 a5 a6 a7 : VV) (r : En)
inductive XI where
  | t (i : I) | c (v : VV)
inductive SpR where
  | no
  | some (v : VV) (M : Tr OB) (nx : P)
abbrev Mem := Tr OB
abbrev Kv := VV → Mem → P → Bool
abbrev Call := P → List VV → Mem → P → Kv → Bool
abbrev K2 := Ex → En → Mem → P → Bool
abbrev Step := Call → En → Mem → P → K2 → Bool
abbrev RegF := Call → En → Mem → P → (En → Mem → P → Bool) → Bool
inductive C2 where
  | skip
  | fn (f : RegF)
  | seq (a b : C2)
  | cond (x : XI) (a b : C2)
  | blk (id : Nat) (c : C2)
  | loop (c : C2)
  | exit (id : Nat)
  | ret
  | bad
inductive RV where
  | t (i : I)
  | c (i : I) (sz : Nat) (agg : Bool)
inductive F2 where
  | no
  | mk (body : Step) (rs : List RV) (ps : List I)
  | spec (g : List VV → Tr OB → P → SpR)
section
noncomputable def P.succK (p : P) (k : P → Bool) : Bool := P.rec (motive := fun _ => (P → Bool) → Bool) (fun k => k (.a .z)) (fun p _ k => k (.b p)) (fun p _ k => k (.c p)) (fun p _ k => k (.d p)) (fun _ ih k => ih fun q => k (.a q)) p k
theorem P.succK_eq : ∀ (p : P) (k : P → Bool), p.succK k = k p.succ
  | .z, k => rfl
  | .a p, k => rfl
  | .b p, k => rfl
  | .c p, k => rfl
  | .d p, k => P.succK_eq p fun q => k (.a q)
noncomputable def OB.onC (o : OB) (k : Nat → Nat → List VV → Nat → Bool) : Bool := OB.rec (motive := fun _ => (Nat → Nat → List VV → Nat → Bool) → Bool) (fun _ => false) (fun t s l v k => k t s l v) (fun _ _ _ _ => false) (fun _ _ _ => false) (fun _ _ _ _ _ _ => false) (fun _ _ _ _ _ => false) (fun _ _ _ _ => false) (fun _ _ _ _ => false) (fun _ _ _ _ _ _ _ _ => false) o k
noncomputable def OB.onR (o : OB) (k : List VV → Bool) : Bool := OB.rec (motive := fun _ => (List VV → Bool) → Bool) (fun _ => false) (fun _ _ l _ k => k l) (fun _ _ _ _ => false) (fun _ l k => k l) (fun _ _ _ _ _ _ => false) (fun _ _ _ _ _ => false) (fun _ _ _ _ => false) (fun _ _ _ _ => false) (fun _ _ _ _ _ _ _ _ => false) o k
noncomputable def OB.onV (o : OB) (k : Nat → Bool) : Bool := OB.rec (motive := fun _ => (Nat → Bool) → Bool) (fun _ => false) (fun _ _ _ v k => k v) (fun _ _ _ _ => false) (fun _ _ k => k 0) (fun _ _ _ _ _ _ => false) (fun _ _ _ _ _ => false) (fun _ _ _ _ => false) (fun _ _ _ _ => false) (fun _ _ _ _ _ _ _ _ => false) o k
noncomputable def OB.onBs (o : OB) (k : List VV → Bool) : Bool := OB.rec (motive := fun _ => (List VV → Bool) → Bool) (fun _ => false) (fun _ _ _ _ _ => false) (fun _ _ _ _ => false) (fun _ _ _ => false) (fun _ _ _ _ _ _ => false) (fun _ _ _ _ _ => false) (fun _ l _ k => k l) (fun _ _ _ _ => false) (fun _ _ _ _ _ _ _ _ => false) o k
noncomputable def OB.onBb (o : OB) (k : Nat → P → P → Bool) : Bool := OB.rec (motive := fun _ => (Nat → P → P → Bool) → Bool) (fun _ => false) (fun _ _ _ _ _ => false) (fun _ _ _ _ => false) (fun _ _ _ => false) (fun _ _ _ _ _ _ => false) (fun _ _ _ _ _ => false) (fun _ _ _ _ => false) (fun t q ql k => k t q ql) (fun _ _ _ _ _ _ _ _ => false) o k
abbrev Atoms := List (P × P × Nat × Nat)
noncomputable def OB.onRw (o : OB) (k : Nat → Nat → P → P → Nat → Nat → Option Atoms → Bool) : Bool := OB.rec (motive := fun _ => (Nat → Nat → P → P → Nat → Nat → Option Atoms → Bool) → Bool) (fun _ => false) (fun _ _ _ _ _ => false) (fun _ _ _ _ => false) (fun _ _ _ => false) (fun _ _ _ _ _ _ => false) (fun _ _ _ _ _ => false) (fun _ _ _ _ => false) (fun _ _ _ _ => false) (fun t sz q s hs hc W k => k t sz q s hs hc W) o k
noncomputable def OB.onM (o : OB) (k : List (Int × VV × Nat) → Nat → Nat → Bool) : Bool := OB.rec (motive := fun _ => (List (Int × VV × Nat) → Nat → Nat → Bool) → Bool) (fun _ => false) (fun _ _ _ _ _ => false) (fun E c v k => k E c v) (fun _ _ _ => false) (fun _ _ _ _ _ _ => false) (fun _ _ _ _ _ => false) (fun _ _ _ _ => false) (fun _ _ _ _ => false) (fun _ _ _ _ _ _ _ _ => false) o k
noncomputable def takeX {α : Type} (n : Nat) (l : List α) (k : List α → Bool) : Bool :=
  Nat.rec (motive := fun _ => List α → (List α → Bool) → Bool) (fun _ k => k []) (fun _ ih l k => List.rec (motive := fun _ => (List α → (List α → Bool) → Bool) → (List α → Bool) → Bool) (fun _ _ => false) (fun x r _ ih k => ih r fun r => k (x :: r)) l ih k) n l k
noncomputable def overX {α : Type} (vs l : List α) (k : List α → Bool) : Bool :=
  List.rec (motive := fun _ => List α → (List α → Bool) → Bool) (fun l k => k l) (fun v _ ih l k => List.rec (motive := fun _ => (List α → (List α → Bool) → Bool) → α → (List α → Bool) → Bool) (fun _ _ _ => false) (fun _ r _ ih v k => ih r fun r => k (v :: r)) l ih v k) vs l k
noncomputable def putX {α : Type} (n : Nat) (vs l : List α) (k : List α → Bool) : Bool :=
  Nat.rec (motive := fun _ => List α → List α → (List α → Bool) → Bool) (fun vs l k => overX vs l k) (fun _ ih vs l k => List.rec (motive := fun _ => (List α → List α → (List α → Bool) → Bool) → List α → (List α → Bool) → Bool) (fun _ _ _ => false) (fun x r _ ih vs k => ih vs r fun r => k (x :: r)) l ih vs k) n vs l k
noncomputable def cutK (o sz : Nat) (agg : Bool) (l : List VV) (k : VV → Bool) : Bool :=
  Bool.rec (motive := fun _ => Nat → Nat → List VV → (VV → Bool) → Bool) (fun o _ l k => nthK l o k) (fun o sz l k => dropK o l fun l => takeX sz l fun l => k (.agg l)) agg o sz l k
noncomputable abbrev ldK (e : Tr VV) (M : Mem) (x : X) (sz : Nat) (agg : Bool) (k : P → VV → Bool) : Bool :=
  x.getK e fun v => v.onP fun b o => Tr.getK .dead M b fun ob => ob.onR fun l => cutK o sz agg l fun v => k b v
noncomputable def wrK (M : Mem) (b : P) (o : Nat) (vs : List VV) (k : Mem → Bool) : Bool :=
  Tr.getK .dead M b fun ob => ob.onC fun t s l ver => putX o vs l fun l => forceN (Nat.succ ver) fun ver => Tr.setK .dead M b (.cells t s l ver) k
noncomputable abbrev stK (e : Tr VV) (M : Mem) (x y : X) (sz : Nat) (k : Mem → Bool) : Bool :=
  x.getK e fun p => p.onP fun b o => y.getK e fun v => v.onC (Bool.rec false (wrK M b o [v] k) (Nat.beq sz 1)) fun m => Bool.rec false (wrK M b o m k) (Nat.beq (lenN m) sz)
noncomputable def mkK (M : Mem) (nx : P) (ob : OB) (k : Mem → P → Bool) : Bool := Tr.setK .dead M nx ob fun M => nx.succK fun nx' => k M nx'
noncomputable def repK (zs : List VV) (n : Nat) (k : List VV → Bool) : Bool := Nat.rec (motive := fun _ => List VV → (List VV → Bool) → Bool) (fun _ k => k []) (fun _ ih zs k => ih zs fun r => appK zs r k) n zs k
noncomputable def rowE (M : Mem) (sz : Nat) (v : VV) (k : Nat → List VV → Bool) : Bool :=
  v.onE (k 0 []) fun b o n => Tr.getK .dead M b fun ob => ob.onR fun l => dropK o l fun l => takeX (Nat.mul n sz) l fun l => k n l
noncomputable def appendV0 (M : Mem) (nx : P) (t sz by_ : Nat) (v w : VV) (k : Kv) : Bool :=
  rowE M sz w fun m ys =>
    Bool.rec
      (v.onS
        (Bool.rec false (mkK M nx (.cells t sz ys 0) fun M nx' => k (.slc nx 0 m 0 false) M nx') (Nat.ble (Nat.mul m by_) 140737488355328))
        fun b o n c kn => Tr.getK .dead M b fun ob => ob.onC fun t' s' l ver => dropK o l fun l' => takeX (Nat.mul n sz) l' fun xs => appK xs ys fun r => forceN (Nat.add n m) fun nm =>
          Bool.rec false
            (Bool.rec
              (Bool.rec false (Tr.setK .dead M b .dead fun M => mkK M nx (.cells t sz r 0) fun M nx' => k (.slc nx 0 nm 0 false) M nx') (Bool.rec false (Bool.rec false (Bool.rec false (Nat.beq sz s') (Nat.beq t t')) (Nat.beq c 0)) (Nat.beq o 0)))
              (Bool.rec (mkK M nx (.cells t sz r 0) fun M nx' => k (.slc nx 0 nm 0 false) M nx') false (Nat.ble nm c))
              kn) (Nat.ble (Nat.mul nm by_) 140737488355328))
      (v.onS (k .nils M nx) fun _ _ _ _ _ => k v M nx) (Nat.beq m 0)
noncomputable def noteK (ys : List VV) (w : Atoms) (k : Atoms → Bool) : Bool := match ys with
  | [tk, .i th, kd, .i sys, a, b, s, t, .i z, vl, d] => Bool.rec false (d.onSt (fun l => Bool.rec (k w) (Bool.rec false (k w) (nilB l)) (Bool.rec false (eqZ sys (.ofNat 3)) (eqZ th (.ofNat 0)))) fun l => Bool.rec (k w) (appK w l k) (Bool.rec false (eqZ sys (.ofNat 3)) (eqZ th (.ofNat 0)))) (eqZ z (.ofNat 0))
  | _ => false
noncomputable def rowsK (ys : List VV) (sz m : Nat) (W : Option Atoms) (k : Option Atoms → Bool) : Bool := match W with
  | none => k none
  | some w => Bool.rec false (noteK ys w fun w => k (some w)) (Nat.beq m 1 && Nat.beq sz 11)
noncomputable def appendL (M : Mem) (nx : P) (t sz by_ : Nat) (b q : P) (w : VV) (k : Kv) : Bool :=
  rowE M sz w fun m ys => Tr.getK .dead M b fun ob => ob.onRw fun t' s' q' sT hs hc W => forceN (Nat.add hc m) fun hm =>
    Bool.rec false (rowsK ys sz m W fun W => Tr.setK .dead M b .dead fun M => nx.succK fun n1 => mkK M n1 (.rows t sz nx sT hs hm W) fun M n2 => k (.lsl n1 nx) M n2)
      ((((Nat.ble 1 m && Nat.beq t' t) && (Nat.beq s' sz && q'.eqb q)) && Nat.ble (Nat.mul (Nat.add hs hm) by_) 140737488355328) && ys.all VV.one)
noncomputable def appendC (M : Mem) (nx : P) (t sz by_ : Nat) (v : VV) (b q : P) (k : Kv) : Bool :=
  v.onNil0 false (Tr.getK .dead M b fun ob => ob.onRw fun t' s' q' sT hs hc W => Bool.rec false (mkK M nx (.rows t sz q sT hs hc W) fun M nx' => k (.lsl nx q) M nx') (((Nat.beq t' t && Nat.beq s' sz) && q'.eqb q) && Nat.ble (Nat.mul (Nat.add hs hc) by_) 140737488355328))
noncomputable def appendB (M : Mem) (nx : P) (t sz by_ : Nat) (v : VV) (b ql : P) (lo hi : Nat) (k : Kv) : Bool :=
  v.onNil0 false (Tr.getK .dead M b fun ob => ob.onBb fun t' q ql' => Bool.rec false (mkK M nx (.byt t q ql) fun M nx' => k (.byv nx ql lo hi) M nx') ((((Nat.beq t' t && Nat.beq sz 1) && ql'.eqb ql) && Nat.ble 1 lo) && Nat.ble (Nat.mul hi by_) 140737488355328))
noncomputable def appendV (M : Mem) (nx : P) (t sz by_ : Nat) (v w : VV) (k : Kv) : Bool :=
  w.onBy (w.onLs (v.onLs (v.onE0 (appendV0 M nx t sz by_ v w k) (w.onE0 (w.onS (k .em0 M nx) fun _ _ _ _ _ => false) (k .em0 M nx))) fun b q => appendL M nx t sz by_ b q w k) fun b q => appendC M nx t sz by_ v b q k) fun b ql lo hi => appendB M nx t sz by_ v b ql lo hi k
noncomputable def copyV0 (M : Mem) (sz : Nat) (v w : VV) (k : VV → Mem → Bool) : Bool :=
  rowE M sz w fun m ys => v.onS false fun b o n c kn => Bool.rec false (wrK M b o ys fun M => k (.i (.ofNat m)) M) (Nat.ble m n)
noncomputable def copyV (M : Mem) (sz : Nat) (v w : VV) (k : VV → Mem → Bool) : Bool :=
  w.onBy (copyV0 M sz v w k) fun bs ql lo hi => v.onLs false fun bd qd => Tr.getK .dead M bs fun ob => ob.onBb fun _ q ql' => Tr.getK .dead M bd fun od => od.onRw fun t sd q' _ _ _ _ =>
    Bool.rec false (Tr.setK .dead M bd (.byt t q ql) fun M => k (.sy ql (.ofNat lo) (.ofNat hi) (.ofNat 0)) M) (((q.eqb q && ql'.eqb ql) && (qd.eqb ql && q'.eqb ql)) && (Nat.beq sz 1 && Nat.beq sd 1))
noncomputable def findK (q : Int) (E : List (Int × VV × Nat)) (no : Bool) (k : VV → Bool) : Bool :=
  List.rec (motive := fun _ => Int → Bool → (VV → Bool) → Bool) (fun _ no _ => no) (fun p _ ih q no k => Prod.rec (motive := fun _ => (Int → Bool → (VV → Bool) → Bool) → Int → Bool → (VV → Bool) → Bool) (fun key r ih q no k => Prod.rec (motive := fun _ => Int → (Int → Bool → (VV → Bool) → Bool) → Int → Bool → (VV → Bool) → Bool) (fun v _ key ih q no k => Bool.rec (ih q no k) (k v) (eqZ key q)) r key ih q no k) p ih q no k) E q no k
noncomputable def updK (q : Int) (v : VV) (clock : Nat) (E : List (Int × VV × Nat)) (k : List (Int × VV × Nat) → Nat → Bool) : Bool :=
  List.rec (motive := fun _ => (List (Int × VV × Nat) → Nat → Bool) → Bool) (fun k => forceN (Nat.succ clock) fun c => k [(q, v, clock)] c)
    (fun p r ih k => Prod.rec (fun key w => Prod.rec (fun _ born => Bool.rec (ih fun r c => k (p :: r) c) (k ((key, v, born) :: r) clock) (eqZ key q)) w) p) E k
noncomputable def delK (q : Int) (E : List (Int × VV × Nat)) (k : List (Int × VV × Nat) → Bool) : Bool :=
  List.rec (motive := fun _ => (List (Int × VV × Nat) → Bool) → Bool) (fun k => k []) (fun p r ih k => Prod.rec (fun key _ => Bool.rec (ih fun r => k (p :: r)) (k r) (eqZ key q)) p) E k
noncomputable def mupK (M : Mem) (b : P) (q : Int) (v : VV) (k : Mem → Bool) : Bool :=
  Tr.getK .dead M b fun ob => ob.onM fun E c ver => updK q v c E fun E c => forceN (Nat.succ ver) fun ver => Tr.setK .dead M b (.mp E c ver) k
noncomputable def lkuV (z : VV) (ok : Bool) (m q : VV) (M : Mem) (k : VV → Bool) : Bool :=
  q.onI fun q => m.onM false fun b => Tr.getK .dead M b fun ob => ob.onM fun E _ _ =>
    Bool.rec (findK q E (k z) fun v => k v) (findK q E (k (.tup [z, .bool false])) fun v => k (.tup [v, .bool true])) ok
noncomputable abbrev b_p (y : Y1) (call : Call) (e : Tr VV) (M : Mem) (nx : P) (k : Kv) : Bool := pureK e y fun v => k v M nx
noncomputable def ldW (M : Mem) (v : VV) (sz : Nat) (agg : Bool) (k : P → VV → Bool) : Bool :=
  v.onBp (v.onP fun b o => Tr.getK .dead M b fun ob => ob.onR fun l => cutK o sz agg l fun v => k b v) fun b j => Tr.getK .dead M b fun ob => ob.onBs fun l => cutK j sz agg l fun v => k b v
noncomputable abbrev b_ld (x : X) (sz : Nat) (agg : Bool) (call : Call) (e : Tr VV) (M : Mem) (nx : P) (k : Kv) : Bool := x.getK e fun v => ldW M v sz agg fun _ v => k v M nx
noncomputable abbrev b_st (x y : X) (sz : Nat) (call : Call) (e : Tr VV) (M : Mem) (nx : P) (k : Kv) : Bool := stK e M x y sz fun M => k .no M nx
noncomputable abbrev b_al (t : Nat) (zs : List VV) (call : Call) (e : Tr VV) (M : Mem) (nx : P) (k : Kv) : Bool := mkK M nx (.cells t 0 zs 0) fun M nx' => k (.ptr nx 0) M nx'
noncomputable abbrev b_bx (t : Nat) (x : X) (call : Call) (e : Tr VV) (M : Mem) (nx : P) (k : Kv) : Bool :=
  x.getK e fun v => v.onC (mkK M nx (.cells t 0 [v] 0) fun M nx' => k (.ptr nx 0) M nx') fun l => mkK M nx (.cells t 0 l 0) fun M nx' => k (.ptr nx 0) M nx'
noncomputable abbrev b_bsl (t sz n : Nat) (zs : List VV) (ps : List (Nat × Nat × X)) (call : Call) (e : Tr VV) (M : Mem) (nx : P) (k : Kv) : Bool :=
  bldK e ps zs fun l => mkK M nx (.cells t sz l 0) fun M nx' => k (.slc nx 0 n n true) M nx'
noncomputable def mksV (t sz by_ : Nat) (zs : List VV) (a b : VV) (M : Mem) (nx : P) (k : Kv) : Bool :=
  a.onY (fun a => natK a fun n => b.onI fun b => natK b fun c =>
    Bool.rec false (Bool.rec false (repK zs c fun l => mkK M nx (.cells t sz l 0) fun M nx' => k (.slc nx 0 n c true) M nx') (Nat.ble (Nat.mul by_ c) 140737488355328)) (Nat.ble n c))
    fun q lo hi c => b.onSy false fun q' _ _ c' => natK hi fun h => Bool.rec false (mkK M nx (.rows t sz q q h 0 none) fun M nx' => k (.lsl nx q) M nx') ((((q.eqb q' && eqZ c (.ofNat 0)) && eqZ c' (.ofNat 0)) && leZ (.ofNat 1) lo) && Nat.ble (Nat.mul by_ h) 140737488355328)
noncomputable abbrev b_mks (t sz by_ : Nat) (zs : List VV) (x y : X) (call : Call) (e : Tr VV) (M : Mem) (nx : P) (k : Kv) : Bool :=
  x.getK e fun a => y.getK e fun b => mksV t sz by_ zs a b M nx k
noncomputable abbrev b_app (t sz by_ : Nat) (x y : X) (call : Call) (e : Tr VV) (M : Mem) (nx : P) (k : Kv) : Bool := x.getK e fun v => y.getK e fun w => appendV M nx t sz by_ v w k
noncomputable abbrev b_cpy (sz : Nat) (x y : X) (call : Call) (e : Tr VV) (M : Mem) (nx : P) (k : Kv) : Bool := x.getK e fun v => y.getK e fun w => copyV M sz v w fun v M => k v M nx
noncomputable abbrev b_mkm (call : Call) (e : Tr VV) (M : Mem) (nx : P) (k : Kv) : Bool := mkK M nx (.mp [] 0 0) fun M nx' => k (.map nx) M nx'
noncomputable abbrev b_lku (z : VV) (ok : Bool) (x y : X) (call : Call) (e : Tr VV) (M : Mem) (nx : P) (k : Kv) : Bool :=
  x.getK e fun m => y.getK e fun q => lkuV z ok m q M fun v => k v M nx
noncomputable abbrev b_mup (x y z : X) (call : Call) (e : Tr VV) (M : Mem) (nx : P) (k : Kv) : Bool :=
  x.getK e fun m => m.onM false fun b => y.getK e fun q => q.onI fun q => z.getK e fun v => v.onC (mupK M b q v fun M => k .no M nx) fun _ => mupK M b q v fun M => k .no M nx
noncomputable abbrev b_mdl (x y : X) (call : Call) (e : Tr VV) (M : Mem) (nx : P) (k : Kv) : Bool :=
  x.getK e fun m => m.onM false fun b => y.getK e fun q => q.onI fun q =>
    Tr.getK .dead M b fun ob => ob.onM fun E c ver => delK q E fun E => forceN (Nat.succ ver) fun ver => Tr.setK .dead M b (.mp E c ver) fun M => k .no M nx
noncomputable abbrev b_call (f : P) (xs : List X) (call : Call) (e : Tr VV) (M : Mem) (nx : P) (k : Kv) : Bool := xsK e xs fun vs => call f vs M nx k
noncomputable abbrev b_cv (x : X) (xs : List X) (call : Call) (e : Tr VV) (M : Mem) (nx : P) (k : Kv) : Bool :=
  x.getK e fun v => v.onF fun f as cs => xsK e xs fun vs => appK vs cs fun r => appK as r fun vs => call f vs M nx k
noncomputable def peqV (n : Bool) (v w : VV) (M : Mem) (k : VV → Bool) : Bool :=
  v.onQ (w.onQ (boolK (notB n) k) fun _ _ => boolK n k) fun b o => w.onQ (boolK n k) fun b' o' =>
    Tr.getK .dead M b fun ob => ob.onC fun _ _ _ _ => Tr.getK .dead M b' fun ob' => ob'.onC fun _ _ _ _ => Bool.rec (boolK n k) (boolK (negIf n (Nat.beq o o')) k) (b.eqb b')
noncomputable abbrev b_peq (n : Bool) (x y : X) (call : Call) (e : Tr VV) (M : Mem) (nx : P) (k : Kv) : Bool :=
  x.getK e fun v => y.getK e fun w => peqV n v w M fun v => k v M nx
noncomputable def bytesK (l : List Nat) (k : List VV → Bool) : Bool := List.rec (motive := fun _ => (List VV → Bool) → Bool) (fun k => k []) (fun n _ ih k => ih fun r => k (.int .u8 (.ofNat n) :: r)) l k
noncomputable def cvsV (t : Nat) (v : VV) (M : Mem) (nx : P) (k : Kv) : Bool :=
  v.onSt (fun l => forceN (lenN l) fun n => Bool.rec false (bytesK l fun r => mkK M nx (.ro t r) fun M nx' => k (.slc nx 0 n 0 false) M nx') (Nat.ble n 140737488355328))
    fun l => atomK l fun q ql lo hi => Bool.rec false (mkK M nx (.byt t q ql) fun M nx' => k (.byv nx ql lo hi) M nx') (Nat.ble hi 140737488355328)
noncomputable abbrev b_cvs (t : Nat) (x : X) (call : Call) (e : Tr VV) (M : Mem) (nx : P) (k : Kv) : Bool := x.getK e fun v => cvsV t v M nx k
noncomputable def cvbV (v : VV) (M : Mem) (k : VV → Bool) : Bool :=
  v.onBy (v.onS (k (.str [])) fun _ _ _ _ _ => false) fun b ql lo hi => Tr.getK .dead M b fun ob => ob.onBb fun _ q ql' => Bool.rec false (k (.tx [(q, ql, lo, hi)])) (ql'.eqb ql)
noncomputable def reqV (n : Bool) (a b : VV) (k : VV → Bool) : Bool := a.onA fun l => b.onA fun m => Bool.rec false (eqLK [(0, .i), (1, .i)] l m fun c => boolK (negIf n c) k) (Nat.beq (lenN l) 2 && Nat.beq (lenN m) 2)
noncomputable abbrev b_req (n : Bool) (x y : X) (call : Call) (e : Tr VV) (M : Mem) (nx : P) (k : Kv) : Bool := x.getK e fun a => y.getK e fun b => reqV n a b fun v => k v M nx
noncomputable abbrev b_cvb (x : X) (call : Call) (e : Tr VV) (M : Mem) (nx : P) (k : Kv) : Bool := x.getK e fun v => cvbV v M fun v => k v M nx
noncomputable def meK (tbl : List (Nat × P × Bool)) (t : Nat) (k : P → Bool → Bool) : Bool :=
  List.rec (motive := fun _ => Nat → (P → Bool → Bool) → Bool) (fun _ _ => false) (fun q _ ih t k => Prod.rec (motive := fun _ => (Nat → (P → Bool → Bool) → Bool) → Nat → (P → Bool → Bool) → Bool) (fun t' r ih t k => Prod.rec (motive := fun _ => Nat → (Nat → (P → Bool → Bool) → Bool) → Nat → (P → Bool → Bool) → Bool) (fun f ld t' ih t k => Bool.rec (ih t k) (k f ld) (Nat.beq t' t)) r t' ih t k) q ih t k) tbl t k
noncomputable def invV (call : Call) (tbl : List (Nat × P × Bool)) (v : VV) (vs : List VV) (M : Mem) (nx : P) (k : Kv) : Bool :=
  v.onIf fun t w => meK tbl t fun f ld => w.onP fun b o => Bool.rec (call f (w :: vs) M nx k) (Tr.getK .dead M b fun ob => ob.onR fun l => nthK l o fun u => u.onOne (call f (u :: vs) M nx k)) ld
noncomputable abbrev b_inv (tbl : List (Nat × P × Bool)) (x : X) (xs : List X) (call : Call) (e : Tr VV) (M : Mem) (nx : P) (k : Kv) : Bool := x.getK e fun v => xsK e xs fun vs => invV call tbl v vs M nx k
noncomputable abbrev doK (call : Call) (e : Tr VV) (M : Mem) (nx : P) (y : Y) (k : Kv) : Bool :=
  Y.rec (motive := fun _ => Call → Tr VV → Mem → P → Kv → Bool) b_p b_ld b_st b_al b_bx b_bsl b_mks b_app b_cpy b_mkm b_lku b_mup b_mdl b_call b_cv b_peq b_cvs b_inv b_cvb b_req y call e M nx k
abbrev Kr := Tr VV → Mem → P → List P → Bool
abbrev Rest := Call → Tr VV → Mem → P → List P → Kr → Bool
noncomputable def gdK (g : VV) (w : Bool) (v0 : VV) (M : Mem) (nx : P) (t : Kv → Bool) (j : Kv) : Bool := g.onG (j v0 M nx) fun b => Bool.rec (j v0 M nx) (t j) (Bool.rec (notB w) w b)
noncomputable def guK (g : VV) (w : Bool) (M : Mem) (nx : P) (t : (Mem → P → Bool) → Bool) (j : Mem → P → Bool) : Bool := g.onG (j M nx) fun b => Bool.rec (j M nx) (t j) (Bool.rec (notB w) w b)
noncomputable def gsK (g : VV) (w : Bool) (acc : List P) (t : (VV → List P → Bool) → Bool) (j : VV → List P → Bool) : Bool := g.onG (j .off acc) fun b => Bool.rec (j .off acc) (t j) (Bool.rec (notB w) w b)
noncomputable abbrev z_d (p : P) (y : Y) (ih : Rest) (call : Call) (e : Tr VV) (M : Mem) (nx : P) (acc : List P) (k : Kr) : Bool :=
  doK call e M nx y fun v M nx => Tr.setK .no e p v fun e => ih call e M nx acc k
noncomputable abbrev z_u (y : Y) (ih : Rest) (call : Call) (e : Tr VV) (M : Mem) (nx : P) (acc : List P) (k : Kr) : Bool :=
  doK call e M nx y fun _ M nx => ih call e M nx acc k
noncomputable def Y.off (y : Y) : VV := Y.rec (fun _ => .off) (fun _ _ _ => .off) (fun _ _ _ => .no) (fun _ _ => .no) (fun _ _ => .no) (fun _ _ _ _ _ => .no) (fun _ _ _ _ _ _ => .no) (fun _ _ _ _ _ => .no) (fun _ _ _ => .no) .no (fun _ _ _ _ => .no) (fun _ _ _ => .no) (fun _ _ => .no) (fun _ _ => .no) (fun _ _ => .no) (fun _ _ _ => .off) (fun _ _ => .no) (fun _ _ _ => .no) (fun _ => .no) (fun _ _ _ => .off) y
noncomputable abbrev z_gd (j : P) (w : Bool) (p : P) (y : Y) (ih : Rest) (call : Call) (e : Tr VV) (M : Mem) (nx : P) (acc : List P) (k : Kr) : Bool :=
  Tr.getK .no e j fun g => gdK g w y.off M nx (fun j => doK call e M nx y j) fun v M nx => Tr.setK .no e p v fun e => ih call e M nx acc k
noncomputable abbrev z_gu (j : P) (w : Bool) (y : Y) (ih : Rest) (call : Call) (e : Tr VV) (M : Mem) (nx : P) (acc : List P) (k : Kr) : Bool :=
  Tr.getK .no e j fun g => guK g w M nx (fun j => doK call e M nx y fun _ M nx => j M nx) fun M nx => ih call e M nx acc k
noncomputable abbrev z_s (p : P) (x : X) (sz : Nat) (agg : Bool) (ih : Rest) (call : Call) (e : Tr VV) (M : Mem) (nx : P) (acc : List P) (k : Kr) : Bool :=
  ldK e M x sz agg fun b v => Tr.setK .no e p v fun e => ih call e M nx (b :: acc) k
noncomputable abbrev z_gs (j : P) (w : Bool) (p : P) (x : X) (sz : Nat) (agg : Bool) (ih : Rest) (call : Call) (e : Tr VV) (M : Mem) (nx : P) (acc : List P) (k : Kr) : Bool :=
  Tr.getK .no e j fun g => gsK g w acc (fun j => ldK e M x sz agg fun b v => j v (b :: acc)) fun v acc => Tr.setK .no e p v fun e => ih call e M nx acc k
noncomputable abbrev z_c (p : P) (x : X) (ih : Rest) (call : Call) (e : Tr VV) (M : Mem) (nx : P) (acc : List P) (k : Kr) : Bool :=
  x.getK e fun v => v.onAny (Tr.setK .no e p v fun e => ih call e M nx acc k)
noncomputable abbrev regK (call : Call) (l : List Z) (e : Tr VV) (M : Mem) (nx : P) (acc : List P) (k : Kr) : Bool :=
  List.rec (motive := fun _ => Rest) (fun _ e M nx acc k => k e M nx acc) (fun z _ ih => Z.rec (motive := fun _ => Rest → Rest) z_d z_u z_gd z_gu z_s z_gs z_c z ih) l call e M nx acc k
noncomputable def keptB (M M' : Mem) (acc : List P) : Bool :=
  List.rec (motive := fun _ => Mem → Mem → Bool) (fun _ _ => true) (fun b _ ih M M' => Tr.getK .dead M b fun o => Tr.getK .dead M' b fun o' => o.onV fun v => o'.onV fun v' => Bool.rec false (ih M M') (Nat.beq v v')) acc M M'
noncomputable def En.get (e : En) (i : I) : VV := I.rec (motive := fun _ => En → VV) (fun e => En.rec .no (fun a0 a1 a2 a3 a4 a5 a6 a7 _ _ => a0) e) (fun e => En.rec .no (fun a0 a1 a2 a3 a4 a5 a6 a7 _ _ => a1) e) (fun e => En.rec .no (fun a0 a1 a2 a3 a4 a5 a6 a7 _ _ => a2) e) (fun e => En.rec .no (fun a0 a1 a2 a3 a4 a5 a6 a7 _ _ => a3) e) (fun e => En.rec .no (fun a0 a1 a2 a3 a4 a5 a6 a7 _ _ => a4) e) (fun e => En.rec .no (fun a0 a1 a2 a3 a4 a5 a6 a7 _ _ => a5) e) (fun e => En.rec .no (fun a0 a1 a2 a3 a4 a5 a6 a7 _ _ => a6) e) (fun e => En.rec .no (fun a0 a1 a2 a3 a4 a5 a6 a7 _ _ => a7) e) (fun _ ih e => En.rec .no (fun a0 a1 a2 a3 a4 a5 a6 a7 r _ => ih r) e) i e
noncomputable def En.set (e : En) (i : I) (v : VV) : En := I.rec (motive := fun _ => En → En) (fun e => En.rec (.nd v .no .no .no .no .no .no .no .nl) (fun a0 a1 a2 a3 a4 a5 a6 a7 r _ => .nd v a1 a2 a3 a4 a5 a6 a7 r) e) (fun e => En.rec (.nd .no v .no .no .no .no .no .no .nl) (fun a0 a1 a2 a3 a4 a5 a6 a7 r _ => .nd a0 v a2 a3 a4 a5 a6 a7 r) e) (fun e => En.rec (.nd .no .no v .no .no .no .no .no .nl) (fun a0 a1 a2 a3 a4 a5 a6 a7 r _ => .nd a0 a1 v a3 a4 a5 a6 a7 r) e) (fun e => En.rec (.nd .no .no .no v .no .no .no .no .nl) (fun a0 a1 a2 a3 a4 a5 a6 a7 r _ => .nd a0 a1 a2 v a4 a5 a6 a7 r) e) (fun e => En.rec (.nd .no .no .no .no v .no .no .no .nl) (fun a0 a1 a2 a3 a4 a5 a6 a7 r _ => .nd a0 a1 a2 a3 v a5 a6 a7 r) e) (fun e => En.rec (.nd .no .no .no .no .no v .no .no .nl) (fun a0 a1 a2 a3 a4 a5 a6 a7 r _ => .nd a0 a1 a2 a3 a4 v a6 a7 r) e) (fun e => En.rec (.nd .no .no .no .no .no .no v .no .nl) (fun a0 a1 a2 a3 a4 a5 a6 a7 r _ => .nd a0 a1 a2 a3 a4 a5 v a7 r) e) (fun e => En.rec (.nd .no .no .no .no .no .no .no v .nl) (fun a0 a1 a2 a3 a4 a5 a6 a7 r _ => .nd a0 a1 a2 a3 a4 a5 a6 v r) e) (fun _ ih e => En.rec (.nd .no .no .no .no .no .no .no .no (ih .nl)) (fun a0 a1 a2 a3 a4 a5 a6 a7 r _ => .nd a0 a1 a2 a3 a4 a5 a6 a7 (ih r)) e) i e
noncomputable def En.getK (e : En) (i : I) (k : VV → Bool) : Bool :=
  I.rec (motive := fun _ => En → (VV → Bool) → Bool) (fun e k => En.rec (motive := fun _ => (VV → Bool) → Bool) (fun k => k .no) (fun a0 a1 a2 a3 a4 a5 a6 a7 _ _ k => k a0) e k) (fun e k => En.rec (motive := fun _ => (VV → Bool) → Bool) (fun k => k .no) (fun a0 a1 a2 a3 a4 a5 a6 a7 _ _ k => k a1) e k) (fun e k => En.rec (motive := fun _ => (VV → Bool) → Bool) (fun k => k .no) (fun a0 a1 a2 a3 a4 a5 a6 a7 _ _ k => k a2) e k) (fun e k => En.rec (motive := fun _ => (VV → Bool) → Bool) (fun k => k .no) (fun a0 a1 a2 a3 a4 a5 a6 a7 _ _ k => k a3) e k) (fun e k => En.rec (motive := fun _ => (VV → Bool) → Bool) (fun k => k .no) (fun a0 a1 a2 a3 a4 a5 a6 a7 _ _ k => k a4) e k) (fun e k => En.rec (motive := fun _ => (VV → Bool) → Bool) (fun k => k .no) (fun a0 a1 a2 a3 a4 a5 a6 a7 _ _ k => k a5) e k) (fun e k => En.rec (motive := fun _ => (VV → Bool) → Bool) (fun k => k .no) (fun a0 a1 a2 a3 a4 a5 a6 a7 _ _ k => k a6) e k) (fun e k => En.rec (motive := fun _ => (VV → Bool) → Bool) (fun k => k .no) (fun a0 a1 a2 a3 a4 a5 a6 a7 _ _ k => k a7) e k)
    (fun _ ih e k => En.rec (motive := fun _ => (En → (VV → Bool) → Bool) → (VV → Bool) → Bool) (fun _ k => k .no) (fun a0 a1 a2 a3 a4 a5 a6 a7 r _ ih k => ih r k) e ih k) i e k
noncomputable def En.setK (e : En) (i : I) (v : VV) (k : En → Bool) : Bool :=
  I.rec (motive := fun _ => En → VV → (En → Bool) → Bool) (fun e v k => En.rec (motive := fun _ => VV → (En → Bool) → Bool) (fun v k => k (.nd v .no .no .no .no .no .no .no .nl)) (fun a0 a1 a2 a3 a4 a5 a6 a7 r _ v k => k (.nd v a1 a2 a3 a4 a5 a6 a7 r)) e v k) (fun e v k => En.rec (motive := fun _ => VV → (En → Bool) → Bool) (fun v k => k (.nd .no v .no .no .no .no .no .no .nl)) (fun a0 a1 a2 a3 a4 a5 a6 a7 r _ v k => k (.nd a0 v a2 a3 a4 a5 a6 a7 r)) e v k) (fun e v k => En.rec (motive := fun _ => VV → (En → Bool) → Bool) (fun v k => k (.nd .no .no v .no .no .no .no .no .nl)) (fun a0 a1 a2 a3 a4 a5 a6 a7 r _ v k => k (.nd a0 a1 v a3 a4 a5 a6 a7 r)) e v k) (fun e v k => En.rec (motive := fun _ => VV → (En → Bool) → Bool) (fun v k => k (.nd .no .no .no v .no .no .no .no .nl)) (fun a0 a1 a2 a3 a4 a5 a6 a7 r _ v k => k (.nd a0 a1 a2 v a4 a5 a6 a7 r)) e v k) (fun e v k => En.rec (motive := fun _ => VV → (En → Bool) → Bool) (fun v k => k (.nd .no .no .no .no v .no .no .no .nl)) (fun a0 a1 a2 a3 a4 a5 a6 a7 r _ v k => k (.nd a0 a1 a2 a3 v a5 a6 a7 r)) e v k) (fun e v k => En.rec (motive := fun _ => VV → (En → Bool) → Bool) (fun v k => k (.nd .no .no .no .no .no v .no .no .nl)) (fun a0 a1 a2 a3 a4 a5 a6 a7 r _ v k => k (.nd a0 a1 a2 a3 a4 v a6 a7 r)) e v k) (fun e v k => En.rec (motive := fun _ => VV → (En → Bool) → Bool) (fun v k => k (.nd .no .no .no .no .no .no v .no .nl)) (fun a0 a1 a2 a3 a4 a5 a6 a7 r _ v k => k (.nd a0 a1 a2 a3 a4 a5 v a7 r)) e v k) (fun e v k => En.rec (motive := fun _ => VV → (En → Bool) → Bool) (fun v k => k (.nd .no .no .no .no .no .no .no v .nl)) (fun a0 a1 a2 a3 a4 a5 a6 a7 r _ v k => k (.nd a0 a1 a2 a3 a4 a5 a6 v r)) e v k)
    (fun _ ih e v k => En.rec (motive := fun _ => (En → VV → (En → Bool) → Bool) → VV → (En → Bool) → Bool) (fun ih v k => ih .nl v fun r => k (.nd .no .no .no .no .no .no .no .no r)) (fun a0 a1 a2 a3 a4 a5 a6 a7 r _ ih v k => ih r v fun r => k (.nd a0 a1 a2 a3 a4 a5 a6 a7 r)) e ih v k) i e v k
theorem En.getK_eq (k : VV → Bool) : ∀ (i : I) (e : En), e.getK i k = k (e.get i) := by
  intro i
  induction i with
  | nx i ih => intro e; cases e with
    | nl => rfl
    | nd a0 a1 a2 a3 a4 a5 a6 a7 r => exact ih r
  | _ => intro e; cases e <;> rfl
theorem En.setK_eq (v : VV) : ∀ (i : I) (e : En) (k : En → Bool), e.setK i v k = k (e.set i v) := by
  intro i
  induction i with
  | nx i ih => intro e k; cases e with
    | nl => exact ih .nl _
    | nd a0 a1 a2 a3 a4 a5 a6 a7 r => exact ih r _
  | _ => intro e k; cases e <;> rfl
theorem En.get_nl (i : I) : En.get .nl i = .no := by cases i <;> rfl
theorem En.get_set (v : VV) : ∀ (i : I) (e : En), (e.set i v).get i = v := by
  intro i
  induction i with
  | nx i ih => intro e; cases e with
    | nl => exact ih .nl
    | nd a0 a1 a2 a3 a4 a5 a6 a7 r => exact ih r
  | _ => intro e; cases e <;> rfl
theorem En.get_set_ne (v : VV) : ∀ (i j : I) (e : En), j ≠ i → (e.set i v).get j = e.get j := by
  intro i
  induction i with
  | nx i ih =>
    intro j e h
    cases j with
    | nx j => cases e with
      | nl => exact (ih j .nl (fun q => h (by rw [q]))).trans (En.get_nl j)
      | nd a0 a1 a2 a3 a4 a5 a6 a7 r => exact ih j r (fun q => h (by rw [q]))
    | _ => cases e <;> rfl
  | _ =>
    intro j e h
    cases j <;> first | exact absurd rfl h | (cases e <;> first | rfl | exact En.get_nl _)
noncomputable def XI.getK (e : En) (x : XI) (k : VV → Bool) : Bool := XI.rec (motive := fun _ => En → (VV → Bool) → Bool) (fun i e k => e.getK i k) (fun v _ k => k v) x e k
noncomputable def XI.get (e : En) (x : XI) : VV := XI.rec (fun i => e.get i) (fun v => v) x
theorem XI.getK_eq (e : En) (x : XI) (k : VV → Bool) : x.getK e k = k (x.get e) := by
  cases x with
  | t i => exact En.getK_eq _ _ _
  | c v => rfl
noncomputable abbrev insK (ins : List (I × P × Bool)) (e : En) (e0 : Tr VV) (k : Tr VV → Bool) : Bool :=
  List.rec (motive := fun _ => Tr VV → Bool) (fun e0 => k e0) (fun q _ ih e0 => e.getK q.1 fun v => Bool.rec (Tr.setK .no e0 q.2.1 v fun e0 => ih e0) (v.onAny (Tr.setK .no e0 q.2.1 v fun e0 => ih e0)) q.2.2) ins e0
noncomputable abbrev outsK (outs : List (I × P)) (e1 : Tr VV) (e : En) (k : En → Bool) : Bool :=
  List.rec (motive := fun _ => En → Bool) (fun e => k e) (fun q _ ih e => Tr.getK .no e1 q.2 fun v => e.setK q.1 v fun e => ih e) outs e
noncomputable def regS (l : List Z) (ins : List (I × P × Bool)) (outs : List (I × P)) : RegF := fun call e M nx k =>
  insK ins e .lf fun e0 => regK call l e0 M nx [] fun e1 M nx _ => outsK outs e1 e fun e => k e M nx
noncomputable def regD (l m : List Z) (ins : List (I × P × Bool)) (outs : List (I × P)) : RegF := fun call e M nx k =>
  insK ins e .lf fun e0 => regK call l e0 M nx [] fun e1 M' nx acc => Bool.rec false (regK call m e1 M' nx [] fun e1 M nx _ => outsK outs e1 e fun e => k e M nx) (keptB M M' acc)
noncomputable def ldE (e : En) (M : Mem) (i : I) (sz : Nat) (agg : Bool) (k : VV → Bool) : Bool :=
  e.getK i fun v => v.onP fun b o => Tr.getK .dead M b fun ob => ob.onC fun _ _ l _ => cutK o sz agg l k
noncomputable def resK (e : En) (M : Mem) (rs : List RV) (k : List VV → Bool) : Bool :=
  List.rec (motive := fun _ => En → Mem → (List VV → Bool) → Bool) (fun _ _ k => k []) (fun r _ ih e M k => RV.rec (motive := fun _ => (En → Mem → (List VV → Bool) → Bool) → En → Mem → (List VV → Bool) → Bool)
    (fun i ih e M k => e.getK i fun v => v.onAny (ih e M fun l => k (v :: l))) (fun i sz agg ih e M k => ldE e M i sz agg fun v => ih e M fun l => k (v :: l)) r ih e M k) rs e M k
noncomputable def tupK (l : List VV) (k : VV → Bool) : Bool :=
  List.rec (motive := fun _ => (VV → Bool) → Bool) (fun k => k (.tup [])) (fun v r _ k => List.rec (motive := fun _ => VV → (VV → Bool) → Bool) (fun v k => k v) (fun w s _ v k => k (.tup (v :: w :: s))) r v k) l k
noncomputable def enterK (vs : List VV) (ps : List I) (k : En → Bool) : Bool :=
  List.rec (motive := fun _ => List I → En → (En → Bool) → Bool) (fun _ e k => k e) (fun v _ ih ps e k => List.rec (motive := fun _ => (List I → En → (En → Bool) → Bool) → VV → En → (En → Bool) → Bool) (fun _ _ _ _ => false) (fun i r _ ih v e k => e.setK i v fun e => ih r e k) ps ih v e k) vs ps .nl k
noncomputable def f_mk (body : Step) (rs : List RV) (ps : List I) (call : Call) (vs : List VV) (M : Mem) (nx : P) (k : Kv) : Bool :=
  enterK vs ps fun e => body call e M nx fun ex e M nx => Ex.rec (resK e M rs fun l => tupK l fun v => k v M nx) (resK e M rs fun l => tupK l fun v => k v M nx) (fun _ => false) ex
noncomputable def f_spec (g : List VV → Mem → P → SpR) (call : Call) (vs : List VV) (M : Mem) (nx : P) (k : Kv) : Bool :=
  SpR.rec (motive := fun _ => Kv → Bool) (fun _ => false) (fun v M nx k => k v M nx) (g vs M nx) k
noncomputable def callStep (FT : Tr F2) (ih : Call) (f : P) (vs : List VV) (M : Mem) (nx : P) (k : Kv) : Bool :=
  Tr.getK .no FT f fun F => F2.rec (motive := fun _ => Call → List VV → Mem → P → Kv → Bool) (fun _ _ _ _ _ => false) f_mk f_spec F ih vs M nx k
noncomputable def callF (FT : Tr F2) (fuel : Nat) : Call := Nat.rec (motive := fun _ => Tr F2 → Call) (fun _ _ _ _ _ _ => false) (fun _ ih FT => callStep FT (ih FT)) fuel FT
noncomputable def loopN (n : Nat) (s : Step) : Step :=
  Nat.rec (motive := fun _ => Step → Step) (fun _ _ _ _ _ _ => false) (fun _ ih s call e M nx k => s call e M nx fun ex e M nx => Ex.rec (ih s call e M nx k) (k .r e M nx) (fun id => k (.x id) e M nx) ex) n s
noncomputable def loopK (s : Step) : Step := loopN 100000 s
noncomputable def c_skip : Step := fun _ e M nx k => k .n e M nx
noncomputable def c_fn (f : RegF) : Step := fun call e M nx k => f call e M nx fun e M nx => k .n e M nx
noncomputable def c_seq (a b : Step) : Step := fun call e M nx k => a call e M nx fun ex e M nx => Ex.rec (b call e M nx k) (k .r e M nx) (fun id => k (.x id) e M nx) ex
noncomputable def c_cond (x : XI) (a b : Step) : Step := fun call e M nx k => x.getK e fun v => v.onB fun c => Bool.rec (b call e M nx k) (a call e M nx k) c
noncomputable def c_blk (id : Nat) (c : Step) : Step := fun call e M nx k => c call e M nx fun ex e M nx => Ex.rec (k .n e M nx) (k .r e M nx) (fun id' => Bool.rec (k (.x id') e M nx) (k .n e M nx) (Nat.beq id' id)) ex
noncomputable def c_exit (id : Nat) : Step := fun _ e M nx k => k (.x id) e M nx
noncomputable def c_ret : Step := fun _ e M nx k => k .r e M nx
noncomputable def c_bad : Step := fun _ _ _ _ _ => false
noncomputable def stepC (c : C2) : Step := C2.rec (motive := fun _ => Step) c_skip c_fn (fun _ _ a b => c_seq a b) (fun x _ _ a b => c_cond x a b) (fun id _ c => c_blk id c) (fun _ c => loopK c) c_exit c_ret c_bad c
end
end Den
set_option linter.unusedVariables false
namespace Den
open Go Eng
def pOfF : Nat → Nat → P
  | 0, _ => .z
  | f + 1, n => match n % 4 with
    | 1 => .a (pOfF f ((n - 1) / 4))
    | 2 => .b (pOfF f ((n - 2) / 4))
    | 3 => .c (pOfF f ((n - 3) / 4))
    | _ => bif Nat.beq n 0 then .z else .d (pOfF f ((n - 4) / 4))
def pOf (n : Nat) : P := pOfF (n + 1) n
def bytesL (b : ByteArray) : List Nat := b.data.toList.map UInt8.toNat
def vvC : Value → Option VV
  | .int .i64 n => some (.i n)
  | .int k n => some (.int k n)
  | .bool b => some (.bool b)
  | .string s => some (.str (bytesL s))
  | .pointer none => some .nil
  | .slice none 0 0 => some .nils
  | .map none => some .nilm
  | .nilFunc => some .nilf
  | .nilIface => none
  | .agg cs => none
  | _ => none
def vvA : Value → Option VV
  | .agg cs => match cs.toList.mapM vvC with
    | some l => some (.agg l)
    | none => none
  | v => vvC v
def trX : Operand → Option X
  | .tmp t => some (.t (pOf t))
  | .const v => (vvA v).map .c
  | .func f => some (.c (.fn (pOf f) [] []))
  | .global _ => none
def trXs (l : List Operand) : Option (List X) := l.mapM trX
def trXo : Option Operand → Option (Option X)
  | none => some none
  | some o => (trX o).map some
def zeroV (T : Tab) (t : Nat) : Option (List VV) := match zeroC T zeroFuel t with
  | some zs => zs.mapM vvC
  | none => none
def trParts (place : Nat → Option (Nat × Nat)) (n : Nat) : List (Nat × Operand) → Option (List (Nat × Nat × X))
  | [] => some []
  | (i, x) :: r => match place i, trX x, trParts place n r with
    | some (o, sz), some x, some ps => bif Nat.ble (o + sz) n then some ((o, sz, x) :: ps) else none
    | _, _, _ => none
def trBin (T : Tab) (op : BinOp) (t : Nat) (x y : Operand) : Option Y1 :=
  match T.find t, trX x, trX y with
  | some ⟨.int .i64, _, _⟩, some x, some y => match op with
    | .add => some (.add x y)
    | .sub => some (.sub x y)
    | .mul => some (.mul x y)
    | .quo => some (.quo x y)
    | .rem => some (.rem x y)
    | .eql => some (.eq x y)
    | .neq => some (.ne x y)
    | .lss => some (.lt x y)
    | .leq => some (.le x y)
    | .gtr => some (.lt y x)
    | .geq => some (.le y x)
    | op => some (.kop op x y)
  | some ⟨.int _, _, _⟩, some x, some y => match op with
    | .eql | .neq | .lss | .leq | .gtr | .geq => some (.kcmp op x y)
    | op => some (.kop op x y)
  | some ⟨.bool, _, _⟩, some x, some y => match op with
    | .eql => some (.beq false x y)
    | .neq => some (.beq true x y)
    | _ => none
  | some ⟨.str, _, _⟩, some x, some y => match op with
    | .eql => some (.seq false x y)
    | .neq => some (.seq true x y)
    | .add => some (.cat x y)
    | _ => none
  | some ⟨.struct _, _, _⟩, some x, some y => bif eqAt T 9 t then match eqOffs T 9 t 0, op with
      | some cs, .eql => some (.aeq false cs x y)
      | some cs, .neq => some (.aeq true cs x y)
      | _, _ => none
    else none
  | some ⟨.ptr _, _, _⟩, some x, some (.c .nil) => match op with
    | .eql => some (.nqP false x)
    | .neq => some (.nqP true x)
    | _ => none
  | some ⟨.slice _, _, _⟩, some x, some (.c .nils) => match op with
    | .eql => some (.nqS false x)
    | .neq => some (.nqS true x)
    | _ => none
  | some ⟨.func, _, _⟩, some x, some (.c .nilf) => match op with
    | .eql => some (.nqF false x)
    | .neq => some (.nqF true x)
    | _ => none
  | _, _, _ => none
def tr1 (T : Tab) : Op → Option Y1
  | .makeInterface t x => match T.find t, trX x with
    | some i, some x => bif i.d.known then some (.mki t x) else none
    | _, _ => none
  | .typeAssert x _ t ok => match T.find t, trX x with
    | some i, some x => bif i.d.known then some (.tas t ok x) else none
    | _, _ => none
  | .move o | .assign o => (trX o).map .mv
  | .nilCheck o => (trX o).map .nck
  | .extract o j => (trX o).map fun x => .ext x j
  | .unOp .not _ o => (trX o).map .not
  | .pick c a b => match trX c, trX a, trX b with
    | some c, some a, some b => some (.pick c a b)
    | _, _, _ => none
  | .binOp op t x y _ => trBin T op t x y
  | .convert src dst x => match T.find src, T.find dst, trX x with
    | some _, some ⟨.int k, _, _⟩, some x => some (.conv k x)
    | _, _, _ => none
  | .fieldAddr t x f => match T.find t, trX x with
    | some ⟨.struct l, _, _⟩, some x => match l[f]? with
      | some (fo, ft) => match T.find ft with
        | some i => bif Nat.beq i.size 0 then none else some (.fa x fo)
        | none => none
      | none => none
    | _, _ => none
  | .indexAddr t x i => match T.find t, trX x, trX i with
    | some ⟨.slice el, _, _⟩, some x, some i => (T.find el).map fun ie => .ixS x i ie.size
    | some ⟨.arr n el, _, _⟩, some x, some i => (T.find el).map fun ie => .ixA x i n ie.size
    | _, _, _ => none
  | .field t x f => match T.find t, trX x with
    | some ⟨.struct l, _, _⟩, some x => match l[f]? with
      | some (fo, ft) => match T.find ft with
        | some i => bif i.d.known then some (.fd x fo i.size i.d.agg) else none
        | none => none
      | none => none
    | _, _ => none
  | .index t x i => match T.find t, trX x, trX i with
    | some ⟨.str, _, _⟩, some x, some i => some (.six x i)
    | some ⟨.arr n el, _, _⟩, some x, some i => match T.find el with
      | some ie => bif ie.d.known then some (.aix x i n ie.size ie.d.agg) else none
      | none => none
    | _, _, _ => none
  | .build t parts => match T.find t, zeroV T t with
    | some ⟨.struct l, _, _⟩, some zs => bif l.all (fun p => (T.find p.2).isSome) then (trParts (placeS T l) zs.length parts.toList).map fun ps => .bld zs ps else none
    | some ⟨.arr _ el, _, _⟩, some zs => match T.find el with
      | some ie => (trParts (fun i => some (i * ie.size, ie.size)) zs.length parts.toList).map fun ps => .bld zs ps
      | none => none
    | _, _ => none
  | .slice t x lo hi mx => match T.find t, trX x with
    | some ⟨.slice el, _, _⟩, some x => match T.find el with
      | some i => match lo, hi, mx with
        | none, some y, none => (trX y).map fun y => .slH x y
        | some y, none, none => (trX y).map fun y => .slL x y i.size
        | some y, some z, none => match trX y, trX z with
          | some y, some z => some (.slLH x y z i.size)
          | _, _ => none
        | some y, some z, some u => match trX y, trX z, trX u with
          | some y, some z, some u => some (.sl3 x y z u i.size)
          | _, _, _ => none
        | none, some z, some u => match trX z, trX u with
          | some z, some u => some (.sl3 x (.c (.i (.ofNat 0))) z u i.size)
          | _, _ => none
        | _, _, _ => none
      | none => none
    | some ⟨.arr n el, _, _⟩, some x => match T.find el with
      | some i => match lo, hi, mx with
        | some y, none, none => (trX y).map fun y => .saL x y n i.size
        | some y, some z, none => match trX y, trX z with
          | some y, some z => some (.saLH x y z n i.size)
          | _, _ => none
        | none, none, none => some (.saA x n)
        | _, _, _ => none
      | none => none
    | some ⟨.str, _, _⟩, some x => match trXo lo, trXo hi, mx with
      | some y, some z, none => some (.ssl x y z)
      | _, _, _ => none
    | _, _ => none
  | .makeFunc (.func f) l1 l2 => match trXs l1.toList, trXs l2.toList with
    | some xs, some ys => some (.mkf (pOf f) xs ys)
    | _, _ => none
  | .call { callee := .builtin .len, args := l, argTypes := ts } => match l.toList, ts.toList with
    | [x], [t] => match T.find t, trX x with
      | some ⟨.slice _, _, _⟩, some x => some (.lenS x)
      | some ⟨.str, _, _⟩, some x => some (.lenT x)
      | some ⟨.arr n _, _, _⟩, _ => some (.lenC n)
      | _, _ => none
    | _, _ => none
  | .call { callee := .builtin .max, args := l, .. } => match l.toList with
    | [x, y] => match trX x, trX y with
      | some x, some y => some (.max x y)
      | _, _ => none
    | _ => none
  | .call { callee := .builtin .min, args := l, .. } => match l.toList with
    | [x, y] => match trX x, trX y with
      | some x, some y => some (.min x y)
      | _, _ => none
    | _ => none
  | _ => none
def trPeq (T : Tab) (op : BinOp) (t : Nat) : Operand → Operand → Option Y
  | .tmp x, .tmp y => match T.find t with
    | some ⟨.arr n el, _, _⟩ => match T.find el, op with
      | some ⟨.int .i64, sz, _⟩, .eql => bif Nat.beq n 2 && Nat.beq sz 1 then some (.req false (.t (pOf x)) (.t (pOf y))) else none
      | some ⟨.int .i64, sz, _⟩, .neq => bif Nat.beq n 2 && Nat.beq sz 1 then some (.req true (.t (pOf x)) (.t (pOf y))) else none
      | _, _ => none
    | some ⟨.ptr el, _, _⟩ => match T.find el, op with
      | some ie, .eql => bif Nat.beq ie.size 0 then none else some (.peq false (.t (pOf x)) (.t (pOf y)))
      | some ie, .neq => bif Nat.beq ie.size 0 then none else some (.peq true (.t (pOf x)) (.t (pOf y)))
      | _, _ => none
    | _ => none
  | _, _ => none
def trCvs (T : Tab) (src dst : Nat) (x : Operand) : Option Y := match T.find src, T.find dst, trX x with
  | some ⟨.slice el, _, _⟩, some ⟨.str, _, _⟩, some x => match T.find el with
    | some ⟨.int .u8, _, _⟩ => some (.cvb x)
    | _ => none
  | some ⟨.str, _, _⟩, some ⟨.slice el, _, _⟩, some x => match T.find el with
    | some ⟨.int .u8, _, _⟩ => some (.cvs el x)
    | _ => none
  | _, _, _ => none
abbrev Mt := List (String × Nat × Nat × Bool)
def mtSel (mt : Mt) (name : String) : List (Nat × P × Bool) := mt.filterMap fun q => bif q.1 == name then some (q.2.1, pOf q.2.2.1, q.2.2.2) else none
def trY (T : Tab) (mt : Mt) : Op → Option Y
  | .call { callee := .invoke (.tmp x) name, args := l, .. } => (trXs l.toList).map fun xs => .inv (mtSel mt name) (.t (pOf x)) xs
  | .convert src dst x => match trCvs T src dst x with
    | some w => some w
    | none => (tr1 T (.convert src dst x)).map .p
  | .binOp op t x y _ => match trBin T op t x y with
    | some w => some (.p w)
    | none => trPeq T op t x y
  | .load t x => match T.find t, trX x with
    | some i, some x => bif i.d.known then some (.ld x i.size i.d.agg) else none
    | _, _ => none
  | .store t x y => match T.find t, trX x, trX y with
    | some i, some x, some y => some (.st x y i.size)
    | _, _, _ => none
  | .alloc t => (zeroV T t).map fun zs => .al t zs
  | .box t x => (trX x).map fun x => .bx t x
  | .buildSlice t n parts => match T.find t with
    | some ⟨.slice el, _, _⟩ => match T.find el, zeroV T el with
      | some ie, some zs => bif Nat.beq zs.length ie.size && (Nat.ble (n * ie.size) 16777216 && Nat.ble n maxLen) then
          (trParts (fun i => some (i * ie.size, ie.size)) (n * ie.size) parts.toList).map fun ps => .bsl el ie.size n (List.replicate n zs).flatten ps
        else none
      | _, _ => none
    | _ => none
  | .makeSlice t x y => match T.find t, trX x, trX y with
    | some ⟨.slice el, _, _⟩, some x, some y => match T.find el, zeroV T el with
      | some ie, some zs => bif Nat.beq zs.length ie.size && Nat.ble 1 ie.bytes then some (.mks el ie.size ie.bytes zs x y) else none
      | _, _ => none
    | _, _, _ => none
  | .makeMap _ none => some .mkm
  | .lookup t x y ok => match T.find t, trX x, trX y with
    | some ⟨.map k el, _, _⟩, some x, some y => match T.find k, T.find el, zeroV T el with
      | some ⟨.int .i64, _, _⟩, some ie, some zs => bif ie.d.agg then some (.lku (.agg zs) ok x y) else match zs with
        | [z] => some (.lku z ok x y)
        | _ => none
      | _, _, _ => none
    | _, _, _ => none
  | .mapUpdate t x y z => match T.find t, trX x, trX y, trX z with
    | some ⟨.map k _, _, _⟩, some x, some y, some z => match T.find k with
      | some ⟨.int .i64, _, _⟩ => some (.mup x y z)
      | _ => none
    | _, _, _, _ => none
  | .insert t x y z => match T.find t, trX x, trX y, trX z with
    | some ⟨.map k _, _, _⟩, some x, some y, some z => match T.find k with
      | some ⟨.int .i64, _, _⟩ => some (.mup x y z)
      | _ => none
    | _, _, _, _ => none
  | .call { callee := .builtin .append, args := l, argTypes := ts } => match l.toList, ts.toList with
    | [x, y], [t, u] => match T.find t, trX x, trX y with
      | some ⟨.slice el, _, _⟩, some x, some y => match T.find el with
        | some ie => match zeroC T zeroFuel el with
          | some zs => bif Nat.beq t u && (Nat.beq zs.length ie.size && (Nat.ble 1 ie.bytes && Nat.ble 1 ie.size)) then some (.app el ie.size ie.bytes x y) else none
          | none => none
        | none => none
      | _, _, _ => none
    | _, _ => none
  | .call { callee := .builtin .copy, args := l, argTypes := ts } => match l.toList, ts.toList with
    | [x, y], [t, u] => match T.find t, trX x, trX y with
      | some ⟨.slice el, _, _⟩, some x, some y => match T.find el with
        | some ie => bif Nat.beq t u then some (.cpy ie.size x y) else none
        | none => none
      | _, _, _ => none
    | _, _ => none
  | .call { callee := .builtin .delete, args := l, argTypes := ts } => match l.toList, ts.toList with
    | [x, y], [t, _] => match T.find t, trX x, trX y with
      | some ⟨.map k _, _, _⟩, some x, some y => match T.find k with
        | some ⟨.int .i64, _, _⟩ => some (.mdl x y)
        | _ => none
      | _, _, _ => none
    | _, _ => none
  | .call { callee := .value (.func f), args := l, .. } => (trXs l.toList).map fun xs => .call (pOf f) xs
  | .call { callee := .value (.tmp x), args := l, .. } => (trXs l.toList).map fun xs => .cv (.t (pOf x)) xs
  | op => (tr1 T op).map .p
def badY : Y := .p (.mv (.c .no))
def okY1 : Y1 → Bool
  | .nqM .. => false
  | _ => true
def okY : Y → Bool
  | .p y => okY1 y
  | _ => true
def trYB (T : Tab) (mt : Mt) (o : Op) : Y := match trY T mt o with
  | some y => bif okY y then y else badY
  | none => badY
def slotOf : Operand → Option Nat
  | .tmp t => some t
  | _ => none
def copyOf (bad : List Nat) : Op → Option X
  | .move o | .assign o => bif (match slotOf o with | some t => bad.any (Nat.beq t) | none => false) then none else trX o
  | _ => none
def offB : Y → Bool
  | .p _ | .ld .. | .peq .. | .req .. => true
  | _ => false
def dstB : Y → Bool
  | .st .. | .mup .. => false
  | _ => true
def zS (d : Nat) : Y → Option Z
  | .ld x sz agg => some (.s (pOf d) x sz agg)
  | _ => none
def zGS (t : Nat) (w : Bool) (d : Nat) : Y → Option Z
  | .ld x sz agg => some (.gs (pOf t) w (pOf d) x sz agg)
  | _ => none
def trZ (T : Tab) (mt : Mt) (ops : Array Oper) (sb bad : List Nat) (o : Oper) : Option Z :=
  match o.guard, o.dst with
  | none, some d => bif sb.any (Nat.beq d) then zS d (trYB T mt o.op) else match copyOf bad o.op with
    | some x => some (.c (pOf d) x)
    | none => bif dstB (trYB T mt o.op) then some (.d (pOf d) (trYB T mt o.op)) else none
  | none, none => some (.u (trYB T mt o.op))
  | some (j, w), some d => match gslot ops j with
    | some t => bif sb.any (Nat.beq d) then zGS t w d (trYB T mt o.op) else
        bif dstB (trYB T mt o.op) && !(offB (trYB T mt o.op) && isMF (klassOp cfg0 o.op)) then some (.gd (pOf t) w (pOf d) (trYB T mt o.op)) else none
    | none => none
  | some (j, w), none => match gslot ops j with
    | some t => some (.gu (pOf t) w (trYB T mt o.op))
    | none => none
def badNext (bad : List Nat) (o : Oper) : List Nat := match o.guard, o.dst with
  | none, some d => bad.filter fun x => !Nat.beq x d
  | some _, some d => d :: bad
  | _, none => bad
def trZs (T : Tab) (mt : Mt) (ops : Array Oper) (sb : List Nat) : List Nat → List Oper → Option (List Z)
  | _, [] => some []
  | bad, o :: r => match trZ T mt ops sb bad o, trZs T mt ops sb (badNext bad o) r with
    | some z, some zs => some (z :: zs)
    | _, _ => none
def badAll (bad : List Nat) : List Oper → List Nat
  | [] => bad
  | o :: r => badAll (badNext bad o) r
def looseAt (ops : Array Oper) (i x : Nat) : List Nat :=
  match ops[i]?, ops[x]? with
  | some oi, some ox =>
    bif oi.after.toList.any (fun e => Region.binds .any e && Nat.beq e.on x) || indep (klass cfg0 ox) (klass cfg0 oi) || before ops 12 x i then [] else
      (match ox.op, ox.dst with | .load .., some d => [d] | _, _ => []) ++ (match oi.op, oi.dst with | .load .., some d => [d] | _, _ => [])
  | _, _ => []
def loose (ops : Array Oper) : List Nat := (List.range ops.size).flatMap fun i => (List.range i).flatMap fun x => looseAt ops i x
def isStore : Op → Bool
  | .store .. => true
  | _ => false
def rdX : X → List P
  | .t q => [q]
  | _ => []
def rd1 : Y1 → List P
  | .mv a | .nck a | .ext a _ | .not a | .conv _ a | .nqP _ a | .nqS _ a | .nqF _ a | .nqM _ a | .fa a _ | .fd a _ _ _ | .saA a _ | .lenS a | .lenT a => rdX a
  | .pick a b c | .slLH a b c _ | .saLH a b c _ _ => rdX a ++ rdX b ++ rdX c
  | .add a b | .sub a b | .mul a b | .quo a b | .rem a b | .eq a b | .ne a b | .lt a b | .le a b | .kop _ a b | .kcmp _ a b | .beq _ a b | .seq _ a b | .aeq _ _ a b | .ixS a b _ | .ixA a b _ _ | .slH a b | .slL a b _ | .saL a b _ _ | .max a b | .min a b | .six a b | .cat a b | .aix a b _ _ _ => rdX a ++ rdX b
  | .sl3 a b c d _ => rdX a ++ rdX b ++ rdX c ++ rdX d
  | .bld _ ps => ps.flatMap fun q => rdX q.2.2
  | .mkf _ xs ys => (xs ++ ys).flatMap rdX
  | .lenC _ => []
  | .mki _ a | .tas _ _ a => rdX a
  | .ssl a b c => rdX a ++ (b.map rdX).getD [] ++ (c.map rdX).getD []
def rdY : Y → List P
  | .p a => rd1 a
  | .ld a _ _ | .bx _ a => rdX a
  | .st a b _ | .mks _ _ _ _ a b | .app _ _ _ a b | .cpy _ a b | .lku _ _ a b | .mdl a b => rdX a ++ rdX b
  | .mup a b c => rdX a ++ rdX b ++ rdX c
  | .al _ _ | .mkm => []
  | .bsl _ _ _ _ ps => ps.flatMap fun q => rdX q.2.2
  | .call _ xs => xs.flatMap rdX
  | .cv a xs => rdX a ++ xs.flatMap rdX
  | .peq _ a b => rdX a ++ rdX b
  | .cvs _ a => rdX a
  | .cvb a => rdX a
  | .req _ a b => rdX a ++ rdX b
  | .inv _ a xs => rdX a ++ xs.flatMap rdX
def rdZ : Z → List P × List P × List P
  | .d q a => (rdY a, [q], [])
  | .u a => (rdY a, [], [])
  | .gd j _ q a => (j :: rdY a, [q], [])
  | .gu j _ a => (j :: rdY a, [], [])
  | .s q a _ _ => (rdX a, [q], [])
  | .gs j _ q a _ _ => (j :: rdX a, [q], [])
  | .c q a => (rdX a, [q], rdX a)
def P.eqc : P → P → Bool
  | .z, .z => true
  | .a p, .a q | .b p, .b q | .c p, .c q | .d p, .d q => p.eqc q
  | _, _ => false
def hasP (l : List P) (p : P) : Bool := l.any (P.eqc p)
def addP (l : List P) (p : P) : List P := bif hasP l p then l else p :: l
def scan : List Z → List P → List P → List P → List P × List P × List P
  | [], i, a, c => (i.reverse, a.reverse, c)
  | z :: r, i, a, c => match rdZ z with
    | (rd, wr, cp) => scan r (rd.foldl (fun i p => bif hasP a p then i else addP i p) i) (wr.foldl addP a) (cp.foldl (fun c p => bif hasP a p then c else addP c p) c)
def placeIn (S : List (P × I)) (p : P) : Option I := match S with
  | [] => none
  | (q, i) :: r => bif P.eqc q p then some i else placeIn r p
def insOf (S : List (P × I)) (l : List Z) : List (I × P × Bool) := match scan l [] [] [] with
  | (rd, _, cp) => rd.filterMap fun p => (placeIn S p).map fun i => (i, p, false)
def outsOf (S : List (P × I)) (l : List Z) : List (I × P) := match scan l [] [] [] with
  | (_, wr, _) => wr.filterMap fun p => (placeIn S p).map fun i => (i, p)
inductive C1 where
  | skip
  | reg (l : List Z) (ins : List (I × P × Bool)) (outs : List (I × P))
  | drw (l m : List Z) (ins : List (I × P × Bool)) (outs : List (I × P))
  | seq (a b : C1)
  | cond (x : XI) (a b : C1)
  | blk (id : Nat) (c : C1)
  | loop (c : C1)
  | exit (id : Nat)
  | ret
  | bad
noncomputable def C1.toC2 (c : C1) : C2 := C1.rec (motive := fun _ => C2) .skip (fun l i o => .fn (regS l i o)) (fun l m i o => .fn (regD l m i o)) (fun _ _ a b => .seq a b) (fun x _ _ a b => .cond x a b) (fun id _ c => .blk id c) (fun _ c => .loop c) .exit .ret .bad c
def trXI (S : List (P × I)) : Operand → Option XI
  | .tmp t => (placeIn S (pOf t)).map .t
  | o => match trX o with
    | some (.c v) => some (.c v)
    | _ => none
def mkReg (S : List (P × I)) (l : List Z) : C1 := .reg l (insOf S l) (outsOf S l)
def mkDrw (S : List (P × I)) (l m : List Z) : C1 := .drw l m (insOf S (l ++ m)) (outsOf S (l ++ m))
def trC (T : Tab) (mt : Mt) (n : Nat) (S : List (P × I)) : Code → C1
  | .skip => .skip
  | .region _ ops false => bif dstOk n ops.toList then match trZs T mt ops [] [] ops.toList with
      | some l => mkReg S l
      | none => .bad
    else .bad
  | .region _ ops true =>
    bif chk n (ops.toList.map (klass ⟨[], loose ops, []⟩)) ops then
      bif lastOk ops && (match ops.toList.getLast? with | some o => isStore o.op | none => false) then
        match trZs T mt ops (loose ops) [] ops.toList.dropLast, trZs T mt ops [] (badAll [] ops.toList.dropLast) (ops.toList.drop (ops.size - 1)) with
        | some l, some m => mkDrw S l m
        | _, _ => .bad
      else match trZs T mt ops (loose ops) [] ops.toList with
        | some l => mkDrw S l []
        | none => .bad
    else .bad
  | .seq a b => .seq (trC T mt n S a) (trC T mt n S b)
  | .cond c a b => match trXI S c with
    | some x => .cond x (trC T mt n S a) (trC T mt n S b)
    | none => .bad
  | .block id c => .blk id (trC T mt n S c)
  | .loop c => .loop (trC T mt n S c)
  | .exit id => .exit id
  | .ret => .ret
  | _ => .bad
def trR (T : Tab) (S : List (P × I)) : ResultVar → Option RV
  | .tmp t => (placeIn S (pOf t)).map .t
  | .cell a t => match T.find t, placeIn S (pOf a) with
    | some i, some p => bif i.d.known then some (.c p i.size i.d.agg) else none
    | _, _ => none
end Den
set_option linter.unusedVariables false
namespace Den
open Go Eng
def pairsB (m : Int) : List VV → Option Bool
  | [] => some false
  | .i x :: _ :: r => match pairsB m r with
    | some b => some (decide (x = m) || b)
    | none => none
  | _ => none
noncomputable def rowB (M : Tr OB) (m : Int) : VV → Option Bool
  | .nils | .emp => some false
  | .slc b o n _ _ => match Tr.get .dead M b with
    | .cells _ _ l _ => bif Nat.beq ((l.drop o).take (n * 2)).length (n * 2) && Nat.ble n 1000000 then pairsB m ((l.drop o).take (n * 2)) else none
    | _ => none
  | _ => none
noncomputable def rowsB (M : Tr OB) (m : Int) : List (Int × VV × Nat) → Option (List Bool)
  | [] => some []
  | (_, v, _) :: r => match rowB M m v, rowsB M m r with
    | some b, some bs => some (b :: bs)
    | _, _ => none
def keysT : List (Int × VV × Nat) → List Bool → List Int
  | (k, _, _) :: E, b :: bs => bif b then k :: keysT E bs else keysT E bs
  | _, _ => []
def bornsB (c : Nat) : List (Int × VV × Nat) → Bool
  | [] => true
  | (_, _, b) :: r => (Nat.blt b c && !(r.any fun q => Nat.beq q.2.2 b)) && bornsB c r
noncomputable def ownerS : List VV → Tr OB → P → SpR
  | [.ptr l 0, .i m], M, nx => match Tr.get .dead M l with
    | .cells _ _ (_ :: .map h :: _) _ => match Tr.get .dead M h with
      | .mp E clock _ => match rowsB M m E, bornsB clock E with
        | some bs, true => match keysT E bs with
          | [] => .some (.i (-1)) M nx
          | [k] => .some (.i k) M nx
          | _ => .no
        | _, _ => .no
      | _ => .no
    | _ => .no
  | _, _, _ => .no
def ins (x : Int) : List Int → List Int
  | [] => [x]
  | y :: r => if x ≤ y then x :: y :: r else y :: ins x r
def sortI : List Int → List Int
  | [] => []
  | x :: r => ins x (sortI r)
noncomputable def keysB : List (Int × VV × Nat) → Bool
  | [] => true
  | (k, _, _) :: r => (fitZ k && !(r.any fun q => eqZ q.1 k)) && keysB r
noncomputable def sortedS (t : Nat) (gs : List P) : List VV → Tr OB → P → SpR
  | [.fn g [] [.ptr c 0]], M, nx => bif gs.any (fun q => q.eqb g) then match Tr.get .dead M c with
    | .cells _ _ [.map h] _ => match Tr.get .dead M h with
      | .mp E clock _ => bif (bornsB clock E && keysB E) && Nat.ble E.length 1000000 then match E with
        | [] => .some .nils M nx
        | E => .some (.slc nx 0 E.length 0 false) (Tr.set .dead M nx (.cells t 1 ((sortI (E.map (·.1))).map .i) 0)) nx.succ
        else .no
      | _ => .no
    | _ => .no
    else .no
  | _, _, _ => .no
noncomputable def lowS : List VV → Tr OB → P → SpR
  | [.lc m x, .i (.ofNat n)], M, nx => bif Nat.beq m n && Nat.ble 1 m && Nat.ble m 9223372036854775807 then .some (.i x) M nx else .no
  | [.ls m q, .i (.ofNat n)], M, nx => bif Nat.beq m n && Nat.ble 1 m && Nat.ble m 9223372036854775807 then .some (.sy q 0 (subZ m 1) 0) M nx else .no
  | _, _, _ => .no
noncomputable def nilsB (n : Nat) (l : List VV) : Bool := Nat.rec (motive := fun _ => List VV → Bool) (fun _ => true) (fun _ ih l => List.rec false (fun v r _ => v.onS (ih r) fun _ _ _ _ _ => false) l) n l
noncomputable def wtickS (ty : Nat) : List VV → Tr OB → P → SpR
  | [.ptr b 0], M, nx => match Tr.get .dead M b with
    | .cells t s (v :: r) ver => bif (Nat.beq t ty && Nat.beq (lenN r) 257) && nilsB 256 r then match v with
        | .i n => bif leZ (.ofNat 0) n && leZ n (.ofNat 16777214) then .some (.tup [.nils, .i (.ofNat 0)]) (Tr.set .dead M b (.cells t s (.i (addZ n (.ofNat 1)) :: r) (Nat.succ ver))) nx else .no
        | .sy q lo hi c => bif leZ (.ofNat 0) (addZ lo c) && leZ (addZ hi c) (.ofNat 16777214) then .some (.tup [.nils, .i (.ofNat 0)]) (Tr.set .dead M b (.cells t s (.sy q lo hi (addZ c (.ofNat 1)) :: r) (Nat.succ ver))) nx else .no
        | _ => .no
      else .no
    | _ => .no
  | _, _, _ => .no
noncomputable def awakeS : List VV → Tr OB → P → SpR
  | [], M, nx => .some (.bool true) M nx
  | _, _, _ => .no
end Den
set_option linter.unusedVariables false
namespace Den
open Go Eng
noncomputable def v_nck (x : VV) (k : VV → Bool) : Bool :=
  x.onN (k x)
noncomputable def v_ext (x : VV) (j : Nat) (k : VV → Bool) : Bool :=
  x.onT fun l => nthK l j fun v => v.onAny (k v)
noncomputable def v_mul (x : VV) (y : VV) (k : VV → Bool) : Bool :=
  x.onI fun a => y.onI fun b => fitK (mulZ a b) k
noncomputable def v_kop (op : BinOp) (x : VV) (y : VV) (k : VV → Bool) : Bool :=
  x.onK fun kd a => y.onK fun kd' b => Bool.rec
      (Bool.rec false (optK (kopZ op kd a b) fun z => forceZ z fun z => k (intV kd z)) (kEq kd kd')) (optK (shfZ op kd a b) fun z => forceZ z fun z => k (intV kd z)) (isShf op)
noncomputable def v_kcmp (op : BinOp) (x : VV) (y : VV) (k : VV → Bool) : Bool :=
  x.onK fun kd a => y.onK fun kd' b => Bool.rec false (optK (cmpI op a b) fun c => boolK c k) (kEq kd kd')
noncomputable def v_conv (kd : IntKind) (x : VV) (k : VV → Bool) : Bool :=
  x.onK fun _ a => forceZ (kd.wrap a) fun z => k (intV kd z)
noncomputable def v_aeq (n : Bool) (cs : List (Nat × Tag)) (x : VV) (y : VV) (k : VV → Bool) : Bool :=
  x.onA fun a => y.onA fun b => eqLK cs a b fun c => boolK (negIf n c) k
noncomputable def v_nqP (n : Bool) (x : VV) (k : VV → Bool) : Bool :=
  x.onNP (boolK (notB n) k) (boolK n k)
noncomputable def v_nqS (n : Bool) (x : VV) (k : VV → Bool) : Bool :=
  x.onNS (boolK (notB n) k) (boolK n k)
noncomputable def v_nqF (n : Bool) (x : VV) (k : VV → Bool) : Bool :=
  x.onNF (boolK (notB n) k) (boolK n k)
noncomputable def v_fa (x : VV) (o : Nat) (k : VV → Bool) : Bool :=
  x.onP fun b o' => forceN (Nat.add o' o) fun o => k (.ptr b o)
noncomputable def v_ixS (x : VV) (i : VV) (sz : Nat) (k : VV → Bool) : Bool :=
  i.onI fun j => x.onX (fun b o n => Bool.rec false (forceN (offN o j sz) fun o => k (.ptr b o)) (inN j n)) fun b m => Bool.rec false (forceN (offN 0 j sz) fun o => k (.bpt b o)) (inN j m)
noncomputable def v_ixA (x : VV) (i : VV) (n : Nat) (sz : Nat) (k : VV → Bool) : Bool :=
  i.onI fun j => x.onP fun b o => Bool.rec false (forceN (offN o j sz) fun o => k (.ptr b o)) (inN j n)
noncomputable def v_fd (x : VV) (o : Nat) (sz : Nat) (agg : Bool) (k : VV → Bool) : Bool :=
  x.onA fun l => Bool.rec (nthK l o fun v => v.onOne (k v)) (dropK o l fun l => takeK sz l fun l => k (.agg l)) agg
noncomputable def v_saA (x : VV) (n : Nat) (k : VV → Bool) : Bool :=
  x.onP fun b o => k (.slc b o n n true)
noncomputable def v_lenS (x : VV) (k : VV → Bool) : Bool :=
  x.onLn k
noncomputable def v_six (x : VV) (i : VV) (k : VV → Bool) : Bool :=
  i.onK fun _ j => natK j fun j => x.onStr fun l => nthK l j fun n => k (.int .u8 (.ofNat n))
noncomputable def xsV (l : List VV) (k : List VV → Bool) : Bool := List.rec (motive := fun _ => (List VV → Bool) → Bool) (fun k => k []) (fun v _ ih k => v.onAny (ih fun r => k (v :: r))) l k
noncomputable def bldV (ps : List (Nat × Nat × VV)) (zs : List VV) (k : List VV → Bool) : Bool :=
  List.rec (motive := fun _ => List VV → (List VV → Bool) → Bool) (fun zs k => k zs) (fun q _ ih zs k => Prod.rec (motive := fun _ => (List VV → (List VV → Bool) → Bool) → List VV → (List VV → Bool) → Bool) (fun o r ih zs k => Prod.rec (motive := fun _ => Nat → (List VV → (List VV → Bool) → Bool) → List VV → (List VV → Bool) → Bool) (fun sz v o ih zs k =>
    v.onC (Bool.rec false (setLK o v zs fun zs => ih zs k) (Nat.beq sz 1)) fun l => Bool.rec false (putK o l zs fun zs => ih zs k) (Nat.beq (lenN l) sz)) r o ih zs k) q ih zs k) ps zs k
noncomputable def v_bld (zs : List VV) (ps : List (Nat × Nat × VV)) (k : VV → Bool) : Bool := bldV ps zs fun l => k (.agg l)
noncomputable def ldV (M : Mem) (v : VV) (sz : Nat) (agg : Bool) (k : P → VV → Bool) : Bool :=
  v.onP fun b o => Tr.getK .dead M b fun ob => ob.onR fun l => cutK o sz agg l fun v => k b v
noncomputable def stV (M : Mem) (p v : VV) (sz : Nat) (k : Mem → Bool) : Bool :=
  p.onP fun b o => v.onC (Bool.rec false (wrK M b o [v] k) (Nat.beq sz 1)) fun m => Bool.rec false (wrK M b o m k) (Nat.beq (lenN m) sz)
noncomputable def alV (t : Nat) (zs : List VV) (M : Mem) (nx : P) (k : Kv) : Bool := mkK M nx (.cells t 0 zs 0) fun M nx' => k (.ptr nx 0) M nx'
noncomputable def bxV (t : Nat) (v : VV) (M : Mem) (nx : P) (k : Kv) : Bool :=
  v.onC (mkK M nx (.cells t 0 [v] 0) fun M nx' => k (.ptr nx 0) M nx') fun l => mkK M nx (.cells t 0 l 0) fun M nx' => k (.ptr nx 0) M nx'
noncomputable def bslV (t sz n : Nat) (zs : List VV) (ps : List (Nat × Nat × VV)) (M : Mem) (nx : P) (k : Kv) : Bool :=
  bldV ps zs fun l => mkK M nx (.cells t sz l 0) fun M nx' => k (.slc nx 0 n n true) M nx'
noncomputable def appV (t sz by_ : Nat) (v w : VV) (M : Mem) (nx : P) (k : Kv) : Bool := appendV M nx t sz by_ v w k
noncomputable def cpyV (sz : Nat) (v w : VV) (M : Mem) (nx : P) (k : Kv) : Bool := copyV M sz v w fun v M => k v M nx
noncomputable def mkmV (M : Mem) (nx : P) (k : Kv) : Bool := mkK M nx (.mp [] 0 0) fun M nx' => k (.map nx) M nx'
noncomputable def mupV (m q v : VV) (M : Mem) (k : Mem → Bool) : Bool :=
  m.onM false fun b => q.onI fun q => v.onC (mupK M b q v fun M => k M) fun _ => mupK M b q v fun M => k M
noncomputable def mdlV (m q : VV) (M : Mem) (k : Mem → Bool) : Bool :=
  m.onM false fun b => q.onI fun q =>
    Tr.getK .dead M b fun ob => ob.onM fun E c ver => delK q E fun E => forceN (Nat.succ ver) fun ver => Tr.setK .dead M b (.mp E c ver) k
noncomputable def cvV (call : Call) (v : VV) (vs : List VV) (M : Mem) (nx : P) (k : Kv) : Bool :=
  v.onF fun f as cs => xsV vs fun vs => appK vs cs fun r => appK as r fun vs => call f vs M nx k
noncomputable def v_mv (x : VV) (k : VV → Bool) : Bool := x.onAny (k x)
noncomputable def v_mkf (f : P) (xs ys : List VV) (k : VV → Bool) : Bool := xsV xs fun xs => xsV ys fun ys => k (.fn f xs ys)
noncomputable def callV (call : Call) (f : P) (vs : List VV) (M : Mem) (nx : P) (k : Kv) : Bool := xsV vs fun vs => call f vs M nx k
end Den
