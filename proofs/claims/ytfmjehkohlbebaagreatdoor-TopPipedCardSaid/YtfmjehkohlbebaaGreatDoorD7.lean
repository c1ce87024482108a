/-
  An interpreter: runs that part, runs merged. No conditions but those that each theorem names.
-/
import Derived.Test.YtfmjehkohlbebaaGreatDoorD5
set_option linter.unusedVariables false
namespace Den
open Go Eng
def Tel (V : Rho → Prop) (v w : VV) : Prop := w = v ∨ v.one = true ∧ w.one = true ∧ ∀ ρ u, V ρ → Rl ρ v u → Rl ρ w u
section
variable {V : Rho → Prop} {q : P} {g : Int → Int → Int → (VV → Bool) → Bool}
theorem Tel.rl {v w : VV} (h : Tel V v w) {ρ : Rho} (hV : V ρ) {u : Value} (k : Rl ρ v u) : Rl ρ w u := by
  rcases h with rfl | ⟨_, _, h⟩
  · exact k
  · exact h ρ u hV k
theorem Tel.one {v w : VV} (h : Tel V v w) (k : v.one = true) : w.one = true := by
  rcases h with rfl | ⟨_, h, _⟩
  · exact k
  · exact h
inductive Tels (V : Rho → Prop) : List VV → List VV → Prop
  | nil : Tels V [] []
  | cons {v w l m} : Tel V v w → Tels V l m → Tels V (v :: l) (w :: m)
theorem Tels.refl : ∀ l, Tels V l l
  | [] => .nil
  | v :: l => .cons (.inl rfl) (Tels.refl l)
theorem Tels.rls {l m : List VV} (h : Tels V l m) {ρ : Rho} (hV : V ρ) : ∀ {us : List Value}, Rls ρ l us → Rls ρ m us := by
  induction h with
  | nil => exact fun k => k
  | cons h _ ih => exact fun ⟨u, r, h1, h2, h3⟩ => ⟨u, r, h1, h.rl hV h2, ih h3⟩
theorem Tels.one {l m : List VV} (h : Tels V l m) (k : l.all VV.one = true) : m.all VV.one = true := by
  induction h with
  | nil => rfl
  | cons h _ ih =>
    simp only [List.all_cons, Bool.and_eq_true] at k ⊢
    exact ⟨h.one k.1, ih k.2⟩
inductive TelO (V : Rho → Prop) : OB → OB → Prop
  | refl {o} : TelO V o o
  | cells {t s l m v} : Tels V l m → TelO V (.cells t s l v) (.cells t s m v)
  | bs {t l F F'} : (∀ ρ, V ρ → OrdR ρ F → OrdR ρ F') → TelO V (.bs t l F) (.bs t l F')
  | ev {ty q lo hi lo' hi'} : (∀ ρ r s, V ρ → ρ q = some (r, s) → lo ≤ r → r ≤ hi → lo' ≤ r ∧ r ≤ hi') → TelO V (.ev ty q lo hi) (.ev ty q lo' hi')
theorem TelO.obr {o o' : OB} (h : TelO V o o') {ρ : Rho} (hV : V ρ) {c : Nat} {ro : Obj} (k : ObR ρ c o ro) : ObR ρ c o' ro := by
  cases h with
  | refl => exact k
  | cells h => obtain ⟨us, rest, h1, h2, h3, h4⟩ := k; exact ⟨us, rest, h1, h.rls hV h2, h.one h3, h4⟩
  | ev h =>
    obtain ⟨r, s, rest, fz, h1, h2, h3, h4, h5, h6⟩ := k
    obtain ⟨g1, g2⟩ := h ρ r s hV h1 h5 h6
    exact ⟨r, s, rest, fz, h1, h2, h3, h4, g1, g2⟩
  | bs h => exact k.elim
end
section
variable {V : Rho → Prop} {q : P} {g : Int → Int → Int → (VV → Bool) → Bool}
end
section
variable {W0 : World} {Q : Program} {T : Tab} {call : Call} {n : Nat} {S : List (P × I)} {A : Rho → Prop}
def StepP (W0 : World) (Q : Program) (n : Nat) (S : List (P × I)) (call : Call) (A : Rho → Prop) (c : Code) (s : Step) : Prop := ∀ (ve : En) (M : Mem) (nx : P) (k : KS), s call ve M nx k = true →
  ∀ (K : Kont) ρ e C, A ρ → ENR S ρ ve e → MR W0 ρ M nx C → (∀ ex ve' M' nx' ρ' e' C', k ex ve' M' nx' = true → A ρ' → ENR S ρ' ve' e' → MR W0 ρ' M' nx' C' → K ex.out e' C') → V W0 Q n K c e C
def Stays (A : Rho → Prop) : Prop := ∀ ρ ρ', Ext ρ ρ' → A ρ → A ρ'
theorem StepP.base {c : Code} {s : Step} (hA : Stays A) (h : StepOk W0 Q n S call c s) : StepP W0 Q n S call A c s := fun ve M nx k hk K ρ e C hρ he hM hK => by
  obtain ⟨ex, ve', M', nx', h1, _, h2⟩ := h ve M nx k hk
  exact h2 K ρ e C he hM fun ρ' e' C' hx h3 h4 _ => hK ex ve' M' nx' ρ' e' C' h1 (hA ρ ρ' hx hρ) h3 h4
theorem StepP.seq {a b : Code} {s t : Step} (ha : StepP W0 Q n S call A a s) (hb : StepP W0 Q n S call A b t) : StepP W0 Q n S call A (.seq a b) (c_seq s t) := fun ve M nx k hk K ρ e C hρ he hM hK => by
  have hk : s call ve M nx (fun ex e M nx => Ex.rec (t call e M nx k) (k .r e M nx) (fun id => k (.x id) e M nx) ex) = true := hk
  refine V.seq (ha ve M nx _ hk _ ρ e C hρ he hM fun ex ve1 M1 nx1 ρ1 e1 C1 h1 hA1 h2 h3 => ?_)
  cases ex with
  | n => exact hb ve1 M1 nx1 k h1 K ρ1 e1 C1 hA1 h2 h3 hK
  | r => exact hK .r ve1 M1 nx1 ρ1 e1 C1 h1 hA1 h2 h3
  | x id => exact hK (.x id) ve1 M1 nx1 ρ1 e1 C1 h1 hA1 h2 h3
theorem StepP.blk {id : Nat} {c : Code} {s : Step} (h : StepP W0 Q n S call A c s) : StepP W0 Q n S call A (.block id c) (c_blk id s) := fun ve M nx k hk K ρ e C hρ he hM hK => by
  have hk : s call ve M nx (fun ex e M nx => Ex.rec (k .n e M nx) (k .r e M nx) (fun id' => Bool.rec (k (.x id') e M nx) (k .n e M nx) (Nat.beq id' id)) ex) = true := hk
  refine V.block (h ve M nx _ hk _ ρ e C hρ he hM fun ex ve1 M1 nx1 ρ1 e1 C1 h1 hA1 h2 h3 => ?_)
  cases ex with
  | n => exact hK .n ve1 M1 nx1 ρ1 e1 C1 h1 hA1 h2 h3
  | r => exact hK .r ve1 M1 nx1 ρ1 e1 C1 h1 hA1 h2 h3
  | x id' =>
    have h1 : (Bool.rec (k (.x id') ve1 M1 nx1) (k .n ve1 M1 nx1) (Nat.beq id' id) : Bool) = true := h1
    show (bif Nat.beq id' id then K .normal e1 C1 else K (.exit id') e1 C1)
    cases hb : Nat.beq id' id with
    | true => rw [hb] at h1; exact hK .n ve1 M1 nx1 ρ1 e1 C1 h1 hA1 h2 h3
    | false => rw [hb] at h1; exact hK (.x id') ve1 M1 nx1 ρ1 e1 C1 h1 hA1 h2 h3
theorem StepP.loop {c : Code} {s : Step} (h : StepP W0 Q n S call A c s) : StepP W0 Q n S call A (.loop c) (loopK s) := fun ve M nx k hk K ρ e C hρ he hM hK => by
  have key : ∀ (m : Nat) (ve : En) (M : Mem) (nx : P) ρ e C, loopN m s call ve M nx k = true → A ρ → ENR S ρ ve e → MR W0 ρ M nx C → LoopG W0 Q n K c m e C := by
    intro m
    induction m with
    | zero => intro ve M nx ρ e C h; cases h
    | succ m ih =>
      intro ve M nx ρ e C hm hρ he hM
      have hm : s call ve M nx (fun ex e M nx => Ex.rec (loopN m s call e M nx k) (k .r e M nx) (fun id => k (.x id) e M nx) ex) = true := hm
      refine h ve M nx _ hm _ ρ e C hρ he hM fun ex ve1 M1 nx1 ρ1 e1 C1 h1 hA1 h2 h3 => ?_
      cases ex with
      | n => exact ih ve1 M1 nx1 ρ1 e1 C1 h1 hA1 h2 h3
      | r => exact hK .r ve1 M1 nx1 ρ1 e1 C1 h1 hA1 h2 h3
      | x id => exact hK (.x id) ve1 M1 nx1 ρ1 e1 C1 h1 hA1 h2 h3
  exact V.loopG (key 100000 ve M nx ρ e C hk hρ he hM)
noncomputable def withC (call2 : Call) (s : Step) : Step := fun _ e M nx k => s call2 e M nx k
theorem StepP.withC {call2 : Call} {c : Code} {s : Step} (h : StepP W0 Q n S call2 A c s) : StepP W0 Q n S call A c (withC call2 s) := fun ve M nx k hk => h ve M nx k hk
theorem law_ok (hT : TabOk Q T) {f : Nat} {fn : Func} {c : Code} {rs : List ResultVar} {rv : List RV} {ps : List I} {body : Step} (hf : Q.funcs[f]? = some fn) (hb : fn.body = some c) (hr : fn.results = rs.toArray) (hE : EntOk S ps) (hpl : Nat.ble ps.length fn.ntmps = true) (hrl : Nat.ble rs.length 4 = true) (hrv : RVR T S rs rv)
    (hbody : StepP W0 Q fn.ntmps S call A c body) {vs : List VV} {M : Mem} {nx : P} {k : Kv} (h : f_mk body rv ps call vs M nx k = true) {ρ : Rho} {C : Eng.Heap} {us : List Value} (hρ : A ρ) (hu : Rls ρ vs us) (hM : MR W0 ρ M nx C) :
    Does W0 Q f us.toArray C fun u C' => ∃ v M' nx' ρ', k v M' nx' = true ∧ Rl ρ' v u := by
  obtain ⟨h1, ve, h2, h3⟩ := enterK_true hE h
  have hul : us.length ≤ fn.ntmps := by rw [hu.length]; exact Nat.le_trans h1 (Nat.le_of_ble_eq_true hpl)
  refine Does.enter hf hb hr rfl (Nat.ble_eq_true_of_le hul) hrl (hbody ve M nx _ h2 _ ρ _ C hρ (h3 ρ us hu) hM fun ex ve' M' nx' ρ' e' C' h4 _ he' hM' => ?_)
  have fin : (resK ve' M' rv fun l => tupK l fun v => k v M' nx') = true → ∃ v us', k v M' nx' = true ∧ Rl ρ' v (tup us') ∧ Res T W0 e' C' rs us' := fun h4 => by
    obtain ⟨ws, h5, h6⟩ := resK_true (W0 := W0) (nx := nx') hT hrv h4
    obtain ⟨v, h7, h8⟩ := tupK_true h5
    obtain ⟨us', h9, h10⟩ := h6 ρ' e' C' he' hM'
    exact ⟨v, us', h7, h8 ρ' us' h9, h10⟩
  cases ex with
  | n =>
    obtain ⟨v, us', h5, h6, h7⟩ := fin h4
    exact retR_end hT h7 (Weak.refl C') ⟨v, M', nx', ρ', h5, h6⟩
  | r =>
    obtain ⟨v, us', h5, h6, h7⟩ := fin h4
    exact retR_ret hT h7 (Weak.refl C') ⟨v, M', nx', ρ', h5, h6⟩
  | x id => cases h4
end
end Den
set_option linter.unusedVariables false
namespace Den
open Go Eng
section
variable {W0 : World} {P : Program} {T : Tab} {call : Call} {A : Rho → Prop}
def CallP (W0 : World) (P : Program) (A : Rho → Prop) (call : Call) : Prop := ∀ f vs M nx (k : Kv), call f vs M nx k = true → ∀ ρ C us, A ρ → Rls ρ vs us → MR W0 ρ M nx C → DoesC W0 P f.num us.toArray C fun u C' => ∃ v M' nx' ρ', k v M' nx' = true ∧ Ext ρ ρ' ∧ MR W0 ρ' M' nx' C' ∧ Rl ρ' v u
theorem CallP.of (h : CallOk W0 P call) : CallP W0 P A call := fun f vs M nx k hk ρ C us _ hu hM => by
  obtain ⟨v, M', nx', h1, _, h2⟩ := h f vs M nx k hk
  rcases h2 ρ C us hu hM with ⟨hc, hd⟩ | ⟨u, h3, ρ', h4, h5, _, h6⟩
  · exact .inl ⟨hc, hd.mono fun u C' ⟨ρ', h4, h5, _, h6⟩ => ⟨v, M', nx', ρ', h1, h4, h5, h6⟩⟩
  · exact .inr ⟨u, h3, v, M', nx', ρ', h1, h4, h5, h6⟩
noncomputable def noCall : Call := fun _ _ _ _ _ => false
theorem noCall_ok : CallOk W0 P noCall := fun f vs M nx k h => by cases h
theorem opP (hT : TabOk P T) (hc : CallP W0 P A call) (hA : Stays A) {arr : Array Oper} {kont : Env → Heap → Prop} {o : Oper} {y : Y} {rest : List (Kind × Oper)} {ve : Tr VV} {M : Mem} {nx : Den.P} {K : Kv} {ρ : Rho} {e : Env} {C : Heap}
    (hg : guardOk arr e o.guard true) (hy : TrY T P o y) (hni : ∀ tbl x xs, y ≠ .inv tbl x xs) (h : doK call ve M nx y K = true) (hρ : A ρ) (he : ERl ρ ve e) (hM : MR W0 ρ M nx C)
    (cont : ∀ v M' nx' ρ' u C', K v M' nx' = true → Ext ρ ρ' → MR W0 ρ' M' nx' C' → (Rl ρ' v u ∨ v = .no) → Run W0 P [] arr kont rest (ext o.dst true u e) C') :
    Run W0 P [] arr kont ((klass ⟨[], [], []⟩ o, o) :: rest) e C := by
  have det : doK noCall ve M nx y K = true → Run W0 P [] arr kont ((klass ⟨[], [], []⟩ o, o) :: rest) e C := fun h => by
    obtain ⟨v, M', nx', h1, hf⟩ := doK_ok (W0 := W0) hT noCall_ok hy h
    refine Run.fact (sb := []) (D := []) (by cases o.dst <;> rfl) hg (fun _ => hf) he hM (by simp) (by simp) (by simp) (fun _ ρ' u C' hx hu hM' _ _ => cont v M' nx' ρ' u C' h1 hx hM' hu) (fun h => by cases h)
  have cal : ∀ {f : Den.P} {x : Operand} {l : List Operand} {vs fs cs : List Value} {us : List VV} {ts : Array TypeId} {d ty q af g}, o = ⟨d, .call { callee := .value x, args := l.toArray, argTypes := ts }, ty, q, af, g⟩ → klassOp cfg0 o.op = .m → look e x = some (true, .func (.func f.num) fs.toArray cs.toArray) → Looks e l vs →
      call f us M nx K = true → Rls ρ us (fs ++ vs ++ cs) → Run W0 P [] arr kont ((klass ⟨[], [], []⟩ o, o) :: rest) e C := fun {f x l vs fs cs us ts d ty q af g} ho hk hx hl hcall hr => by
    have hkl : klass ⟨[], [], []⟩ o = .m := by
      rw [show klass ⟨[], [], []⟩ o = klassOp cfg0 o.op by unfold klass; cases o.dst <;> rfl, hk]
    rw [hkl]
    subst ho
    have hd := hc f us M nx K hcall ρ C _ hρ hr hM
    refine .m true _ hg (fun _ => m_callC hx hl hd) (fun _ v' C' _ => ⟨C'.flatten, by simp⟩) (fun _ u C' hr _ => ?_) (fun h => by cases h)
    obtain ⟨v, M', nx', ρ', h1, h2, h3, h4⟩ := hr
    exact cont v M' nx' ρ' u C' h1 h2 h3 (.inl h4)
  cases hy with
  | @call d ty q af g ts f l xs hx =>
    have h : (xsK ve xs fun vs => call f vs M nx K) = true := h
    obtain ⟨vs, h, h1, h2⟩ := xsK_true h
    obtain ⟨us, h3, _, h5⟩ := hx.looks he h1 h2
    exact cal (fs := []) (cs := []) rfl rfl rfl h5 h (by simpa using h3)
  | @cv d ty q af g ts x x' l xs hx' hx =>
    have h : (x'.getK ve fun v => v.onF fun f as cs => xsK ve xs fun vs => appK vs cs fun r => appK as r fun vs => call f vs M nx K) = true := h
    rw [X.getK_eq] at h
    obtain ⟨f, as, cs, hf, h⟩ := VV.onF_true h
    obtain ⟨vs, h, h1, h2⟩ := xsK_true h
    rw [appK_eq, appK_eq] at h
    obtain ⟨us, h3, _, h5⟩ := hx.looks he h1 h2
    obtain ⟨u, hu, fs, ws, rfl, h6, h7⟩ := hx'.look he hf rfl
    exact cal rfl rfl hu h5 h (by simpa only [List.append_assoc] using h6.append (h3.append h7))
  | @inv d ty q af g ts tbl name x x' l xs hme hx' hx =>
    exact absurd rfl (hni tbl x' xs)
  | p h1 => exact det h
  | ld h1 h2 h3 => exact det h
  | st h1 h2 h3 => exact det h
  | al h1 h2 h3 => exact det h
  | bx h1 => exact det h
  | bsl h1 h2 h3 h4 h5 h6 h7 h8 h9 h10 => exact det h
  | mks h1 h2 h3 h4 h5 h6 h7 h8 h9 => exact det h
  | app h1 h2 h3 h4 h5 h6 h7 h8 => exact det h
  | cpy h1 h2 h3 h4 => exact det h
  | mkm => exact det h
  | lku h1 h2 h3 h4 h5 h6 => exact det h
  | mup h1 h2 h3 h4 h5 => exact det h
  | ins h1 h2 h3 h4 h5 => exact det h
  | mdl h1 h2 h3 h4 => exact det h
  | peq h1 h2 h3 h4 => exact det h
  | cvs h1 h2 h3 h4 => exact det h
  | cvb h1 h2 h3 h4 => exact det h
  | req h1 h2 h3 h4 => exact det h
  | bad => exact det h
theorem offP {arr : Array Oper} {kont : Env → Heap → Prop} {o : Oper} {rest : List (Kind × Oper)} {ve ve2 : Tr VV} {M : Mem} {nx : Den.P} {ρ : Rho} {e : Env} {C : Heap} (hg : guardOk arr e o.guard false) (he : ERl ρ ve e) (hM : MR W0 ρ M nx C)
    (h0 : isMF (klassOp cfg0 o.op) = false → ∀ u, ERl ρ ve2 (ext o.dst false u e)) (h1 : isMF (klassOp cfg0 o.op) = true → ERl ρ ve2 (ext o.dst true undef e)) (cont : ∀ g u, ERl ρ ve2 (ext o.dst g u e) → Run W0 P [] arr kont rest (ext o.dst g u e) C) :
    Run W0 P [] arr kont ((klass ⟨[], [], []⟩ o, o) :: rest) e C :=
  Run.fact (v := .no) (M' := M) (nx' := nx) (sb := []) (D := []) (by cases o.dst <;> rfl) hg (fun h => by cases h) he hM (by simp) (by simp) (by simp) (fun h => by cases h) (fun _ => ⟨fun h u => cont _ _ (h0 h u), fun h => cont _ _ (h1 h)⟩)
def noInv1 : Y → Bool
  | .inv .. => false
  | _ => true
def noInv : Z → Bool
  | .d _ y | .u y | .gd _ _ _ y | .gu _ _ y => noInv1 y
  | _ => true
theorem noInv1_ok {y : Y} (h : noInv1 y = true) : ∀ tbl x xs, y ≠ .inv tbl x xs := fun tbl x xs e => by rw [e] at h; cases h
theorem regP_ok (hT : TabOk P T) (hc : CallP W0 P A call) (hA : Stays A) {arr : Array Oper} {k : Kr} {kont : Env → Heap → Prop} : ∀ {l : List Oper} {zs : List Z}, ZRs T P arr [] l zs → zs.all noInv = true → ∀ {ve : Tr VV} {M : Mem} {nx : Den.P} {acc : List Den.P} {ρ : Rho} {e : Env} {C : Heap}, regK call zs ve M nx acc k = true → A ρ → ERl ρ ve e → MR W0 ρ M nx C →
    (∀ ve1 M1 nx1 acc1 ρ1 e1 C1, k ve1 M1 nx1 acc1 = true → Ext ρ ρ1 → ERl ρ1 ve1 e1 → MR W0 ρ1 M1 nx1 C1 → (∀ n, (∀ o ∈ l, o.dst ≠ some n) → Eng.get e1 n = Eng.get e n) → kont e1 C1) → Run W0 P [] arr kont (l.map fun o => (klass ⟨[], [], []⟩ o, o)) e C
  | _, _, .nil, _, ve, M, nx, acc, ρ, e, C, h, hρ, he, hM, hk => .nil (hk ve M nx acc ρ e C h (Ext.refl ρ) he hM fun _ _ => rfl)
  | o :: l, z :: zs, .cons hz hzs, hni, ve, M, nx, acc, ρ, e, C, h, hρ, he, hM, hk => by
    obtain ⟨hn1, hn2⟩ : noInv z = true ∧ zs.all noInv = true := by simpa using hni
    have next : ∀ {ve2 : Tr VV} {M2 : Mem} {nx2 : Den.P} {acc2 : List Den.P} {ρ2 : Rho} {g : Bool} {u : Value} {C2 : Heap}, regK call zs ve2 M2 nx2 acc2 k = true → Ext ρ ρ2 → ERl ρ2 ve2 (ext o.dst g u e) → MR W0 ρ2 M2 nx2 C2 → Run W0 P [] arr kont (l.map fun o => (klass ⟨[], [], []⟩ o, o)) (ext o.dst g u e) C2 := fun {ve2 M2 nx2 acc2 ρ2 g u C2} h hx he2 hM2 =>
      regP_ok hT hc hA hzs hn2 h (hA ρ ρ2 hx hρ) he2 hM2 fun ve1 M1 nx1 acc1 ρ1 e1 C1 a1 a2 a3 a4 a5 => hk ve1 M1 nx1 acc1 ρ1 e1 C1 a1 (hx.trans a2) a3 a4 fun n hn => by
        rw [a5 n fun o ho => hn o (List.mem_cons_of_mem _ ho), get_ext (hn o (List.mem_cons_self ..))]
    have onD : ∀ {p : Den.P} {y : Y}, o.dst = some p.num → TrY T P o y → noInv1 y = true → guardOk arr e o.guard true → doK call ve M nx y (fun v M nx => Tr.setK .no ve p v fun e => regK call zs e M nx acc k) = true → Run W0 P [] arr kont ((o :: l).map fun o => (klass ⟨[], [], []⟩ o, o)) e C := fun {p y} hd hy hy1 hg h =>
      opP hT hc hA hg hy (noInv1_ok hy1) h hρ he hM fun v M' nx' ρ' u C' a1 a2 a3 a4 => by
        rw [Tr.setK_eq] at a1
        exact next a1 a2 (set_on hd (he.ext a2) a4) a3
    have onU : ∀ {y : Y}, o.dst = none → TrY T P o y → noInv1 y = true → guardOk arr e o.guard true → doK call ve M nx y (fun _ M nx => regK call zs ve M nx acc k) = true → Run W0 P [] arr kont ((o :: l).map fun o => (klass ⟨[], [], []⟩ o, o)) e C := fun {y} hd hy hy1 hg h =>
      opP hT hc hA hg hy (noInv1_ok hy1) h hρ he hM fun v M' nx' ρ' u C' a1 a2 a3 a4 => next a1 a2 (set_u hd (he.ext a2)) a3
    have offD : ∀ {p : Den.P} {w : VV}, o.dst = some p.num → (w = .no ∨ isMF (klassOp cfg0 o.op) = false ∧ w = .off) → guardOk arr e o.guard false → (Tr.setK .no ve p w fun e => regK call zs e M nx acc k) = true → Run W0 P [] arr kont ((o :: l).map fun o => (klass ⟨[], [], []⟩ o, o)) e C := fun {p w} hd hw hg h => by
      rw [Tr.setK_eq] at h
      refine offP (ve2 := Tr.set .no ve p w) hg he hM (fun _ u => ?_) (fun hm => ?_) fun g u he2 => next h (Ext.refl ρ) he2 hM
      · rw [hd]
        rcases hw with rfl | ⟨_, rfl⟩
        · exact he.setNo
        · exact he.setOff
      · rw [hd]
        rcases hw with rfl | ⟨hn, _⟩
        · exact he.setNo
        · rw [hn] at hm; cases hm
    have offU : o.dst = none → guardOk arr e o.guard false → regK call zs ve M nx acc k = true → Run W0 P [] arr kont ((o :: l).map fun o => (klass ⟨[], [], []⟩ o, o)) e C := fun hd hg h =>
      offP (ve2 := ve) hg he hM (fun _ u => set_u hd he) (fun _ => set_u hd he) fun g u he2 => next h (Ext.refl ρ) he2 hM
    cases hz with
    | d hg hd hs hy => exact onD hd hy hn1 (guard_none hg) h
    | u hg hd hy => exact onU hd hy hn1 (guard_none hg) h
    | @gd j w q p y hg hj hd hs hy hoff =>
      have h : (Tr.getK .no ve q fun g => g.onG (Tr.setK .no ve p y.off fun e => regK call zs e M nx acc k) fun b => Bool.rec (Tr.setK .no ve p y.off fun e => regK call zs e M nx acc k) (doK call ve M nx y fun v M nx => Tr.setK .no ve p v fun e => regK call zs e M nx acc k) (Bool.rec (notB w) w b)) = true := h
      rw [Tr.getK_eq] at h
      rcases VV.onG_true h with ⟨hq, h⟩ | ⟨b, hq, h⟩
      · exact offD hd hoff (guard_off he hg hj hq) h
      · rw [wantB] at h
        have hgo := guard_on he hg hj hq
        cases hb : (b == w) with
        | true => rw [hb] at h hgo; exact onD hd hy hn1 hgo h
        | false => rw [hb] at h hgo; exact offD hd hoff hgo h
    | @gu j w q y hg hj hd hy =>
      have h : (Tr.getK .no ve q fun g => g.onG (regK call zs ve M nx acc k) fun b => Bool.rec (regK call zs ve M nx acc k) (doK call ve M nx y fun _ M nx => regK call zs ve M nx acc k) (Bool.rec (notB w) w b)) = true := h
      rw [Tr.getK_eq] at h
      rcases VV.onG_true h with ⟨hq, h⟩ | ⟨b, hq, h⟩
      · exact offU hd (guard_off he hg hj hq) h
      · rw [wantB] at h
        have hgo := guard_on he hg hj hq
        cases hb : (b == w) with
        | true => rw [hb] at h hgo; exact onU hd hy hn1 hgo h
        | false => rw [hb] at h hgo; exact offU hd hgo h
    | s _ _ hs => cases hs
    | gs _ _ _ hs => cases hs
    | @c p x x' hg hd hs ho hx =>
      have h : (x'.getK ve fun v => v.onAny (Tr.setK .no ve p v fun e => regK call zs e M nx acc k)) = true := h
      rw [X.getK_eq] at h
      obtain ⟨hok, h⟩ := VV.onAny_true h
      rw [Tr.setK_eq] at h
      refine Run.fact (v := x'.get ve) (M' := M) (nx' := nx) (sb := []) (D := []) (by cases o.dst <;> rfl) (guard_none hg) (fun _ => .pure ?_ fun ρ e he => ?_) he hM (by simp) (by simp) (by simp) (fun _ ρ' u C' hx' hu hM' _ _ => next h hx' (set_on hd (he.ext hx') hu) hM') (fun h => by cases h)
      · rcases ho with ho | ho <;> (rw [ho]; rfl)
      · obtain ⟨u, h5, h6⟩ := hx.look he rfl hok
        obtain ⟨d, op, ty, q, af, g⟩ := o
        rcases ho with ho | ho <;> cases ho
        · exact ⟨u, h6, pure_move h5⟩
        · exact ⟨u, h6, pure_assign h5⟩
end
section
variable {W0 : World} {Q : Program} {T : Tab} {call : Call} {n : Nat} {S : List (P × I)} {A : Rho → Prop}
theorem StepP.regS (hT : TabOk Q T) (hc : CallP W0 Q A call) (hA : Stays A) (hS : Inj S) {id : Nat} {l : List Oper} {zs : List Z} {ins outs} (hz : ZRs T Q l.toArray [] l zs) (hd : dstOk n l = true) (hi : InsOk S ins) (ho : OutsOk S l outs) (hni : zs.all noInv = true) :
    StepP W0 Q n S call A (.region id l.toArray false) (c_fn (Den.regS zs ins outs)) := fun ve M nx k hk K ρ e C hρ he hM hK => by
  have hk : Den.regS zs ins outs call ve M nx (fun e M nx => k .n e M nx) = true := hk
  obtain ⟨e0, h, hin⟩ := insK_true hi hk
  refine V.region hd ⟨fun _ => ?_⟩
  refine regP_ok hT hc hA hz hni (kont := fun e C => K .normal e C) h hρ (hin ρ e he ERl.lf) hM fun ve1 M1 nx1 acc1 ρ1 e1 C1 h1 hx h2 h3 h4 => ?_
  obtain ⟨ve', h5, hout⟩ := outs_ok hS ho h1
  exact hK .n ve' M1 nx1 ρ1 e1 C1 h5 (hA ρ ρ1 hx hρ) (hout ρ ρ1 e e1 he hx h2 h4) h3
end
section
variable {W0 : World} {Q : Program} {T : Tab} {call : Call} {S : List (P × I)}
theorem run_ok (hT : TabOk Q T) {f : Nat} {fn : Func} {c : Code} {rs : List ResultVar} {rv : List RV} {ps : List I} {body : Step} (hf : Q.funcs[f]? = some fn) (hb : fn.body = some c) (hr : fn.results = rs.toArray) (hE : EntOk S ps) (hpl : Nat.ble ps.length fn.ntmps = true) (hrl : Nat.ble rs.length 4 = true) (hrv : RVR T S rs rv)
    {B : Rho → Prop} (hB : Stays B) (hbody : ∀ A, Stays A → (∀ ρ, A ρ → B ρ) → StepP W0 Q fn.ntmps S call A c body) {vs : List VV} {M : Mem} {nx : P} {k : Kv} (h : f_mk body rv ps call vs M nx k = true) {ρ : Rho} {C : Eng.Heap} {us : List Value} (hBρ : B ρ) (hu : Rls ρ vs us) (hM : MR W0 ρ M nx C) :
    Does W0 Q f us.toArray C fun u C' => ∃ v M' nx' ρ', k v M' nx' = true ∧ Ext ρ ρ' ∧ MR W0 ρ' M' nx' C' ∧ Rl ρ' v u := by
  obtain ⟨h1, ve, h2, h3⟩ := enterK_true hE h
  have hul : us.length ≤ fn.ntmps := by rw [hu.length]; exact Nat.le_trans h1 (Nat.le_of_ble_eq_true hpl)
  refine Does.enter hf hb hr rfl (Nat.ble_eq_true_of_le hul) hrl (hbody (fun ρ' => B ρ' ∧ Ext ρ ρ') (fun ρ1 ρ2 h k => ⟨hB ρ1 ρ2 h k.1, k.2.trans h⟩) (fun _ h => h.1) ve M nx _ h2 _ ρ _ C ⟨hBρ, Ext.refl ρ⟩ (h3 ρ us hu) hM fun ex ve' M' nx' ρ' e' C' h4 hx he' hM' => ?_)
  have hx := hx.2
  have fin : (resK ve' M' rv fun l => tupK l fun v => k v M' nx') = true → ∃ v us', k v M' nx' = true ∧ Rl ρ' v (tup us') ∧ Res T W0 e' C' rs us' := fun h4 => by
    obtain ⟨ws, h5, h6⟩ := resK_true (W0 := W0) (nx := nx') hT hrv h4
    obtain ⟨v, h7, h8⟩ := tupK_true h5
    obtain ⟨us', h9, h10⟩ := h6 ρ' e' C' he' hM'
    exact ⟨v, us', h7, h8 ρ' us' h9, h10⟩
  cases ex with
  | n =>
    obtain ⟨v, us', h5, h6, h7⟩ := fin h4
    exact retR_end hT h7 (Weak.refl C') ⟨v, M', nx', ρ', h5, hx, hM', h6⟩
  | r =>
    obtain ⟨v, us', h5, h6, h7⟩ := fin h4
    exact retR_ret hT h7 (Weak.refl C') ⟨v, M', nx', ρ', h5, hx, hM', h6⟩
  | x id => cases h4
noncomputable def aheadC (f : P) (F : List VV → Mem → P → Kv → Bool) (c0 : Call) : Call := fun f' vs M nx k => Bool.rec (c0 f' vs M nx k) (F vs M nx k) (f'.eqb f)
theorem aheadC_ok (hT : TabOk Q T) {f : P} {fn : Func} {c : Code} {rs : List ResultVar} {rv : List RV} {ps : List I} {body : Step} (hcb : callable Q f.num = true) (hf : Q.funcs[f.num]? = some fn) (hb : fn.body = some c) (hr : fn.results = rs.toArray) (hE : EntOk S ps) (hpl : Nat.ble ps.length fn.ntmps = true) (hrl : Nat.ble rs.length 4 = true) (hrv : RVR T S rs rv)
    {B : Rho → Prop} (hB : Stays B) (hbody : ∀ A, Stays A → (∀ ρ, A ρ → B ρ) → StepP W0 Q fn.ntmps S call A c body) {c0 : Call} (h0 : ∀ A, (∀ ρ, A ρ → B ρ) → CallP W0 Q A c0) : ∀ A, (∀ ρ, A ρ → B ρ) → CallP W0 Q A (aheadC f (f_mk body rv ps call) c0) := fun A hA f' vs M nx k h ρ C us hρ hu hM => by
  unfold aheadC at h
  cases hb' : f'.eqb f with
  | false => rw [hb'] at h; exact h0 A hA f' vs M nx k h ρ C us hρ hu hM
  | true =>
    rw [hb'] at h
    have := P.eqb_eq.1 hb'
    subst this
    exact .inl ⟨hcb, run_ok hT hf hb hr hE hpl hrl hrv hB hbody h (hA ρ hρ) hu hM⟩
end
def noInvC : C1 → Bool
  | .reg zs _ _ => zs.all noInv
  | _ => false
theorem StepP.ofReg {W0 : World} {Q : Program} {T : Tab} {call : Call} {n : Nat} {S : List (P × I)} {A : Rho → Prop} (hT : TabOk Q T) (hc : CallP W0 Q A call) (hA : Stays A) (hS : Inj S) {c : Code} {c1 : C1} (h : CR T Q n S c c1) (hni : noInvC c1 = true) : StepP W0 Q n S call A c (stepC c1.toC2) := by
  cases h with
  | reg hz hd hi ho => exact .regS hT hc hA hS hz hd hi ho hni
  | _ => cases hni
end Den
set_option linter.unusedVariables false
namespace Den
open Go Eng
theorem bltT {a b : Nat} (h : Nat.blt a b = true) : a < b := Nat.le_of_ble_eq_true h
theorem bl {a b : Bool} (h : (a && b) = true) : a = true := by cases a with | true => rfl | false => cases h
theorem br {a b : Bool} (h : (a && b) = true) : b = true := by cases a with | true => exact h | false => cases h
noncomputable def eqBo (a b : Bool) : Bool := Bool.rec (notB b) b a
theorem recB {a b : Bool} (h : eqBo a b = true) : a = b := by cases a <;> cases b <;> first | rfl | cases h
abbrev Nms := Tr (Option P)
noncomputable def nm (σ : Nms) (a b : P) : Bool := Tr.getK none σ a fun o => Option.rec false (fun b' => b'.eqb b) o
theorem nm_true {σ : Nms} {a b : P} (h : nm σ a b = true) : Tr.get none σ a = some b := by
  unfold nm at h
  rw [Tr.getK_eq] at h
  cases ho : Tr.get none σ a with
  | none => rw [ho] at h; cases h
  | some b' =>
    rw [ho] at h
    rw [P.eqb_eq.1 h]
noncomputable def all2 {α : Type} (f : α → α → Bool) (l : List α) : List α → Bool := List.rec (motive := fun _ => List α → Bool) (fun m => List.rec true (fun _ _ _ => false) m) (fun a _ ih m => List.rec false (fun b r _ => f a b && ih r) m) l
theorem all2_nil {α : Type} {f : α → α → Bool} {m : List α} (h : all2 f [] m = true) : m = [] := by cases m with | nil => rfl | cons => cases h
theorem all2_cons {α : Type} {f : α → α → Bool} {a : α} {l m : List α} (h : all2 f (a :: l) m = true) : ∃ b r, m = b :: r ∧ f a b = true ∧ all2 f l r = true := by
  cases m with
  | nil => cases h
  | cons b r => exact ⟨b, r, rfl, bl h, br h⟩
noncomputable def atB (σ : Nms) (a b : P × P × Nat × Nat) : Bool := (nm σ a.1 b.1 && nm σ a.2.1 b.2.1) && (Nat.ble a.2.2.1 b.2.2.1 && Nat.ble b.2.2.2 a.2.2.2)
noncomputable def syB (σ : Nms) (ts : P) (c0 l0 h0 : Int) (q : P) (lo hi c : Int) (q2 : P) (lo2 hi2 c2 : Int) : Bool := Bool.rec (nm σ q q2 && ((leZ lo lo2 && leZ hi2 hi) && eqZ c c2)) (q2.eqb ts && ((leZ lo (addZ l0 c0) && leZ (addZ h0 c0) hi) && eqZ c2 (addZ c c0))) (q.eqb ts)
noncomputable def VV.onEmp (v : VV) (m k : Bool) : Bool := VV.rec (motive_1 := fun _ => Bool → Bool → Bool) (motive_2 := fun _ => Bool → Bool → Bool) (fun m _ => m) (fun m _ => m) (fun _ m _ => m) (fun _ _ m _ => m) (fun _ m _ => m) (fun _ m _ => m) (fun m _ => m) (fun _ _ m _ => m) (fun m _ => m) (fun _ _ _ _ _ m _ => m) (fun _ k => k) (fun m _ => m) (fun _ m _ => m) (fun m _ => m) (fun _ _ _ _ _ m _ => m) (fun _ _ m _ => m) (fun _ _ m _ => m) (fun _ _ _ _ m _ => m) (fun _ _ m _ => m) (fun _ _ m _ => m) (fun m _ => m) (fun _ _ _ m _ => m) (fun _ _ _ m _ => m) (fun _ _ _ _ _ m _ => m) (fun _ _ _ _ m _ => m) (fun _ _ m _ => m) (fun _ m _ => m) (fun _ _ m _ => m) (fun _ _ _ _ m _ => m) (fun m _ => m) (fun _ _ m _ => m) (fun _ _ => false) (fun _ _ _ _ _ _ => false) v m k
theorem VV.onEmp_true {v : VV} {m k : Bool} (h : v.onEmp m k = true) : m = true ∨ v = .emp ∧ k = true := by
  cases v <;> first | exact .inl h | exact .inr ⟨rfl, h⟩
noncomputable def mV (σ : Nms) (ts : P) (c0 l0 h0 : Int) (v : VV) : VV → Bool := VV.rec (motive_1 := fun _ => VV → Bool) (motive_2 := fun _ => List VV → Bool) (fun _ => false) (fun _ => false) (fun n w => w.onI fun m => eqZ n m) (fun kd n w => w.onK fun kd2 n2 => decide (kd = kd2) && eqZ n n2) (fun b w => w.onB fun c => eqBo b c) (fun l w => w.onStr fun m => eqNs l m) (fun w => w.onNP true false) (fun b o w => w.onP fun b2 o2 => nm σ b b2 && Nat.beq o o2) (fun w => w.onS true fun _ _ _ _ _ => false) (fun b o n c kn w => w.onS false fun b2 o2 n2 c2 kn2 => (nm σ b b2 && Nat.beq o o2) && ((Nat.beq n n2 && Nat.beq c c2) && eqBo kn kn2)) (fun w => w.onEmp false true) (fun w => w.onM true fun _ => false) (fun b w => w.onM false fun b2 => nm σ b b2) (fun w => w.onNF true false) (fun f xs ys ix iy w => w.onF fun f2 xs2 ys2 => f.eqb f2 && (ix xs2 && iy ys2)) (fun l il w => w.onA fun m => il m) (fun _ _ w => false) (fun q lo hi c w => w.onSy false fun q2 lo2 hi2 c2 => syB σ ts c0 l0 h0 q lo hi c q2 lo2 hi2 c2) (fun _ _ w => false) (fun _ _ w => false) (fun _ => false) (fun _ _ _ w => false) (fun _ _ _ w => false) (fun _ _ _ _ _ w => false) (fun _ _ _ _ w => false) (fun _ _ w => false) (fun l w => w.onTx false fun m => all2 (atB σ) l m) (fun _ _ w => false) (fun b q lo hi w => w.onBy false fun b2 q2 lo2 hi2 => (nm σ b b2 && nm σ q q2) && (Nat.ble lo lo2 && Nat.ble hi2 hi)) (fun w => w.onNil0 false true) (fun b q w => w.onLs false fun b2 q2 => nm σ b b2 && nm σ q q2) (fun l => List.rec true (fun _ _ _ => false) l) (fun _ _ iv ir l => List.rec false (fun w s _ => iv w && ir s) l) v
noncomputable def mVs (σ : Nms) (ts : P) (c0 l0 h0 : Int) (l : List VV) : List VV → Bool := VV.rec_1 (motive_1 := fun _ => VV → Bool) (motive_2 := fun _ => List VV → Bool) (fun _ => false) (fun _ => false) (fun n w => w.onI fun m => eqZ n m) (fun kd n w => w.onK fun kd2 n2 => decide (kd = kd2) && eqZ n n2) (fun b w => w.onB fun c => eqBo b c) (fun l w => w.onStr fun m => eqNs l m) (fun w => w.onNP true false) (fun b o w => w.onP fun b2 o2 => nm σ b b2 && Nat.beq o o2) (fun w => w.onS true fun _ _ _ _ _ => false) (fun b o n c kn w => w.onS false fun b2 o2 n2 c2 kn2 => (nm σ b b2 && Nat.beq o o2) && ((Nat.beq n n2 && Nat.beq c c2) && eqBo kn kn2)) (fun w => w.onEmp false true) (fun w => w.onM true fun _ => false) (fun b w => w.onM false fun b2 => nm σ b b2) (fun w => w.onNF true false) (fun f xs ys ix iy w => w.onF fun f2 xs2 ys2 => f.eqb f2 && (ix xs2 && iy ys2)) (fun l il w => w.onA fun m => il m) (fun _ _ w => false) (fun q lo hi c w => w.onSy false fun q2 lo2 hi2 c2 => syB σ ts c0 l0 h0 q lo hi c q2 lo2 hi2 c2) (fun _ _ w => false) (fun _ _ w => false) (fun _ => false) (fun _ _ _ w => false) (fun _ _ _ w => false) (fun _ _ _ _ _ w => false) (fun _ _ _ _ w => false) (fun _ _ w => false) (fun l w => w.onTx false fun m => all2 (atB σ) l m) (fun _ _ w => false) (fun b q lo hi w => w.onBy false fun b2 q2 lo2 hi2 => (nm σ b b2 && nm σ q q2) && (Nat.ble lo lo2 && Nat.ble hi2 hi)) (fun w => w.onNil0 false true) (fun b q w => w.onLs false fun b2 q2 => nm σ b b2 && nm σ q q2) (fun l => List.rec true (fun _ _ _ => false) l) (fun _ _ iv ir l => List.rec false (fun w s _ => iv w && ir s) l) l
structure Sub (ρ R : Rho) (σ : Nms) (ts : P) (c0 : Nat) (l0 h0 : Int) : Prop where
  nm : ∀ a b, Tr.get none σ a = some b → R a = ρ b
  ts : ∃ r s, ρ ts = some (r, s) ∧ R ts = some (r + c0, s) ∧ l0 ≤ (r : Int) ∧ (r : Int) ≤ h0
section
variable {ρ R : Rho} {σ : Nms} {ts : P} {c0 : Nat} {l0 h0 : Int}
theorem all2_at (hs : Sub ρ R σ ts c0 l0 h0) : ∀ {l m : List (P × P × Nat × Nat)}, all2 (atB σ) l m = true → ∀ {b : ByteArray}, TxR ρ m b → TxR R l b
  | [], m, h, b, k => by rw [all2_nil h] at k; exact k
  | (q, ql, lo, hi) :: l, m, h, b, k => by
    obtain ⟨⟨q2, ql2, lo2, hi2⟩, r, rfl, h1, h2⟩ := all2_cons h
    have e1 := hs.nm _ _ (nm_true (bl (bl h1)))
    have e2 := hs.nm _ _ (nm_true (br (bl h1)))
    have e3 : lo ≤ lo2 := Nat.le_of_ble_eq_true (bl (br h1))
    have e4 : hi2 ≤ hi := Nat.le_of_ble_eq_true (br (br h1))
    obtain ⟨x, s, s', b', k1, k2, k3, k4, k5, k6⟩ := k
    exact ⟨x, s, s', b', e1.trans k1, e2.trans k2, Nat.le_trans e3 k3, Nat.le_trans k4 e4, k5, all2_at hs h2 k6⟩
mutual
theorem mV_ok (hs : Sub ρ R σ ts c0 l0 h0) : ∀ (v w : VV), mV σ ts c0 l0 h0 v w = true → w.ok = true ∧ v.ok = true ∧ (w.one = true → v.one = true) ∧ ∀ u, Rl ρ w u → Rl R v u
  | .no, w, h => by cases h
  | .off, w, h => by cases h
  | .i n, w, h => by
    obtain ⟨m, rfl, h⟩ := VV.onI_true (k := fun m => eqZ n m) h
    have : n = m := of_decide_eq_true ((eqZ_eq _ _).symm.trans h)
    exact ⟨rfl, rfl, fun _ => rfl, fun u k => this ▸ k⟩
  | .int kd n, w, h => by
    obtain ⟨kd2, n2, h1, h2, h⟩ := VV.onK_true (k := fun kd2 n2 => decide (kd = kd2) && eqZ n n2) h
    have e1 : kd = kd2 := of_decide_eq_true (bl h)
    have e2 : n = n2 := of_decide_eq_true ((eqZ_eq _ _).symm.trans (br h))
    exact ⟨h1, rfl, fun _ => rfl, fun u k => by rw [h2 ρ u k, ← e1, ← e2]; rfl⟩
  | .bool b, w, h => by
    obtain ⟨c, rfl, h⟩ := VV.onB_true (k := fun c => eqBo b c) h
    exact ⟨rfl, rfl, fun _ => rfl, fun u k => recB h ▸ k⟩
  | .str l, w, h => by
    obtain ⟨m, rfl, h⟩ := VV.onStr_true (k := fun m => eqNs l m) h
    have : l = m := of_decide_eq_true ((eqNs_eq _ _).symm.trans h)
    exact ⟨rfl, rfl, fun _ => rfl, fun u k => this ▸ k⟩
  | .nil, w, h => by
    rcases VV.onNP_true (y := true) (n := false) h with ⟨rfl, _⟩ | ⟨_, h⟩
    · exact ⟨rfl, rfl, fun _ => rfl, fun u k => k⟩
    · cases h
  | .ptr b o, w, h => by
    obtain ⟨b2, o2, rfl, h⟩ := VV.onP_true (k := fun b2 o2 => nm σ b b2 && Nat.beq o o2) h
    have e1 := hs.nm _ _ (nm_true (bl h))
    have e2 := Nat.eq_of_beq_eq_true (br h)
    exact ⟨rfl, rfl, fun _ => rfl, fun u ⟨r, c, k1, k2⟩ => ⟨r, c, e1.trans k1, e2 ▸ k2⟩⟩
  | .nils, w, h => by
    rcases VV.onS_true (m := true) (k := fun _ _ _ _ _ => false) h with ⟨rfl, _⟩ | ⟨_, _, _, _, _, _, h⟩
    · exact ⟨rfl, rfl, fun _ => rfl, fun u k => k⟩
    · cases h
  | .slc b o n c kn, w, h => by
    rcases VV.onS_true (m := false) (k := fun b2 o2 n2 c2 kn2 => (nm σ b b2 && Nat.beq o o2) && ((Nat.beq n n2 && Nat.beq c c2) && eqBo kn kn2)) h with ⟨_, h⟩ | ⟨b2, o2, n2, c2, kn2, rfl, h⟩
    · cases h
    have e1 := hs.nm _ _ (nm_true (bl (bl h)))
    have e2 := Nat.eq_of_beq_eq_true (br (bl h))
    have e3 := Nat.eq_of_beq_eq_true (bl (bl (br h)))
    have e4 := Nat.eq_of_beq_eq_true (br (bl (br h)))
    have e5 := recB (br (br h))
    subst e2 e3 e4 e5
    exact ⟨rfl, rfl, fun _ => rfl, fun u ⟨r, m, cap, k1, k2⟩ => ⟨r, m, cap, e1.trans k1, k2⟩⟩
  | .emp, w, h => by
    rcases VV.onEmp_true (m := false) (k := true) h with h | ⟨rfl, _⟩
    · cases h
    · exact ⟨rfl, rfl, fun _ => rfl, fun u k => k⟩
  | .nilm, w, h => by
    rcases VV.onM_true (m := true) (k := fun _ => false) h with ⟨rfl, _⟩ | ⟨_, _, h⟩
    · exact ⟨rfl, rfl, fun _ => rfl, fun u k => k⟩
    · cases h
  | .map b, w, h => by
    rcases VV.onM_true (m := false) (k := fun b2 => nm σ b b2) h with ⟨_, h⟩ | ⟨b2, rfl, h⟩
    · cases h
    have e1 := hs.nm _ _ (nm_true h)
    exact ⟨rfl, rfl, fun _ => rfl, fun u ⟨r, c, k1, k2⟩ => ⟨r, c, e1.trans k1, k2⟩⟩
  | .nilf, w, h => by
    rcases VV.onNF_true (y := true) (n := false) h with ⟨rfl, _⟩ | ⟨_, h⟩
    · exact ⟨rfl, rfl, fun _ => rfl, fun u k => k⟩
    · cases h
  | .fn f xs ys, w, h => by
    obtain ⟨f2, xs2, ys2, rfl, h⟩ := VV.onF_true (k := fun f2 xs2 ys2 => f.eqb f2 && (mVs σ ts c0 l0 h0 xs xs2 && mVs σ ts c0 l0 h0 ys ys2)) h
    have e1 := P.eqb_eq.1 (bl h)
    have e2 := mVs_ok hs xs xs2 (bl (br h))
    have e3 := mVs_ok hs ys ys2 (br (br h))
    exact ⟨rfl, rfl, fun _ => rfl, fun u ⟨us, vs, k1, k2, k3⟩ => ⟨us, vs, e1 ▸ k1, e2.2 us k2, e3.2 vs k3⟩⟩
  | .agg l, w, h => by
    obtain ⟨m, rfl, h⟩ := VV.onA_true (k := fun m => mVs σ ts c0 l0 h0 l m) h
    obtain ⟨k1, k2⟩ := mVs_ok hs l m h
    exact ⟨rfl, rfl, fun h => (by cases h), fun u ⟨us, g1, g2, g3⟩ => ⟨us, g1, k2 us g2, k1 g3⟩⟩
  | .tup l, w, h => by cases h
  | .sy q lo hi c, w, h => by
    rcases VV.onSy_true (m := false) (k := fun q2 lo2 hi2 c2 => syB σ ts c0 l0 h0 q lo hi c q2 lo2 hi2 c2) h with h | ⟨q2, lo2, hi2, c2, rfl, hk⟩
    · cases h
    refine ⟨rfl, rfl, fun _ => rfl, fun u k => ?_⟩
    unfold syB at hk
    cases hq : q.eqb ts with
    | false =>
      rw [hq] at hk
      have e1 := hs.nm _ _ (nm_true (bl hk))
      have e2 : lo ≤ lo2 := of_decide_eq_true ((leZ_eq _ _).symm.trans (bl (bl (br hk))))
      have e3 : hi2 ≤ hi := of_decide_eq_true ((leZ_eq _ _).symm.trans (br (bl (br hk))))
      have e4 : c = c2 := of_decide_eq_true ((eqZ_eq _ _).symm.trans (br (br hk)))
      subst e4
      obtain ⟨r, s, k1, k2, k3, k4⟩ := k
      exact ⟨r, s, e1.trans k1, by omega, by omega, k4⟩
    | true =>
      rw [hq] at hk
      have e0 := P.eqb_eq.1 hq
      have e1 := P.eqb_eq.1 (bl hk)
      have e2 : lo ≤ addZ l0 c0 := of_decide_eq_true ((leZ_eq _ _).symm.trans (bl (bl (br hk))))
      have e3 : addZ h0 c0 ≤ hi := of_decide_eq_true ((leZ_eq _ _).symm.trans (br (bl (br hk))))
      have e4 : c2 = addZ c c0 := of_decide_eq_true ((eqZ_eq _ _).symm.trans (br (br hk)))
      rw [addZ_eq] at e2 e3 e4
      subst e0 e1 e4
      obtain ⟨r, s, k1, k2, k3, rfl⟩ := k
      obtain ⟨r', s', g1, g2, g3, g4⟩ := hs.ts
      rw [k1] at g1
      cases g1
      exact ⟨_, _, g2, by omega, by omega, by congr 1; omega⟩
  | .lc m x, w, h => by cases h
  | .ls m q, w, h => by cases h
  | .any, w, h => by cases h
  | .ifc t v, w, h => by cases h
  | .evs b q m, w, h => by cases h
  | .gt q p lo hi c, w, h => by cases h
  | .bsl b q m hi, w, h => by cases h
  | .bpt b j, w, h => by cases h
  | .tx l, w, h => by
    rcases VV.onTx_true (m := false) (k := fun m => all2 (atB σ) l m) h with h | ⟨m, rfl, h⟩
    · cases h
    exact ⟨rfl, rfl, fun _ => rfl, fun u ⟨b, k1, k2⟩ => ⟨b, k1, all2_at hs h k2⟩⟩
  | .txr q ql, w, h => by cases h
  | .byv b q lo hi, w, h => by
    rcases VV.onBy_true (m := false) (k := fun b2 q2 lo2 hi2 => (nm σ b b2 && nm σ q q2) && (Nat.ble lo lo2 && Nat.ble hi2 hi)) h with h | ⟨b2, q2, lo2, hi2, rfl, h⟩
    · cases h
    have e1 := hs.nm _ _ (nm_true (bl (bl h)))
    have e2 := hs.nm _ _ (nm_true (br (bl h)))
    have e3 : lo ≤ lo2 := Nat.le_of_ble_eq_true (bl (br h))
    have e4 : hi2 ≤ hi := Nat.le_of_ble_eq_true (br (br h))
    exact ⟨rfl, rfl, fun _ => rfl, fun u ⟨r, m, n, s', cap, k1, k2, k3, k4, k5⟩ => ⟨r, m, n, s', cap, e1.trans k1, e2.trans k2, by omega, by omega, k5⟩⟩
  | .em0, w, h => by
    rcases VV.onNil0_true (m := false) (k := true) h with h | ⟨h, _⟩
    · cases h
    refine ⟨?_, rfl, fun _ => rfl, fun u k => ?_⟩
    · rcases h with rfl | rfl | ⟨_, _, rfl⟩ <;> rfl
    · rcases h with rfl | rfl | ⟨b, o, rfl⟩
      · exact ⟨none, k⟩
      · exact k
      · obtain ⟨r, m, cap, _, rfl, _, h3, _⟩ := k
        rw [h3 rfl]
        exact ⟨_, rfl⟩
  | .lsl b q, w, h => by
    rcases VV.onLs_true (m := false) (k := fun b2 q2 => nm σ b b2 && nm σ q q2) h with h | ⟨b2, q2, rfl, h⟩
    · cases h
    have e1 := hs.nm _ _ (nm_true (bl h))
    have e2 := hs.nm _ _ (nm_true (br h))
    exact ⟨rfl, rfl, fun _ => rfl, fun u ⟨r, cap, n, s, k1, k2, k3⟩ => ⟨r, cap, n, s, e1.trans k1, e2.trans k2, k3⟩⟩
theorem mVs_ok (hs : Sub ρ R σ ts c0 l0 h0) : ∀ (l m : List VV), mVs σ ts c0 l0 h0 l m = true → (m.all VV.one = true → l.all VV.one = true) ∧ ∀ us, Rls ρ m us → Rls R l us
  | [], m, h => by
    cases m with
    | nil => exact ⟨fun _ => rfl, fun us k => k⟩
    | cons => cases h
  | v :: l, m, h => by
    cases m with
    | nil => cases h
    | cons w m =>
      obtain ⟨_, _, g1, g2⟩ := mV_ok hs v w (bl h)
      obtain ⟨g3, g4⟩ := mVs_ok hs l m (br h)
      refine ⟨fun ho => ?_, fun us ⟨u, r, k1, k2, k3⟩ => ⟨u, r, k1, g2 u k2, g4 r k3⟩⟩
      simp only [List.all_cons, Bool.and_eq_true] at ho ⊢
      exact ⟨g1 ho.1, g3 ho.2⟩
end
theorem all2_mV (hs : Sub ρ R σ ts c0 l0 h0) : ∀ {l m : List VV}, all2 (mV σ ts c0 l0 h0) l m = true → (m.all VV.one = true → l.all VV.one = true) ∧ ∀ {us : List Value}, Rls ρ m us → Rls R l us
  | [], m, h => by rw [all2_nil h]; exact ⟨fun _ => rfl, fun k => k⟩
  | v :: l, m, h => by
    obtain ⟨w, r, rfl, h1, h2⟩ := all2_cons h
    obtain ⟨_, _, k1, k2⟩ := mV_ok hs v w h1
    obtain ⟨k3, k4⟩ := all2_mV hs h2
    refine ⟨fun ho => ?_, fun ⟨u, r, g1, g2, g3⟩ => ⟨u, r, g1, k2 u g2, k4 g3⟩⟩
    simp only [List.all_cons, Bool.and_eq_true] at ho ⊢
    exact ⟨k1 ho.1, k3 ho.2⟩
noncomputable def entMB (σ : Nms) (ts : P) (c0 l0 h0 : Int) (x y : Int × VV × Nat) : Bool := (eqZ x.1 y.1 && Nat.beq x.2.2 y.2.2) && mV σ ts c0 l0 h0 x.2.1 y.2.1
theorem all2_ent (hs : Sub ρ R σ ts c0 l0 h0) : ∀ {l m : List (Int × VV × Nat)}, all2 (entMB σ ts c0 l0 h0) l m = true → ∀ {E : List Ent}, EnR ρ m E → EnR R l E
  | [], m, h, E, k => by rw [all2_nil h] at k; exact k
  | (i, v, b) :: l, m, h, E, k => by
    obtain ⟨⟨i2, w, b2⟩, r, rfl, h1, h2⟩ := all2_cons h
    have e1 : i = i2 := of_decide_eq_true ((eqZ_eq _ _).symm.trans (bl (bl h1)))
    have e2 : b = b2 := Nat.eq_of_beq_eq_true (br (bl h1))
    subst e1 e2
    obtain ⟨u, r, g1, g2, g3⟩ := k
    exact ⟨u, r, g1, (mV_ok hs v w (br h1)).2.2.2 u g2, all2_ent hs h2 g3⟩
noncomputable def OB.onRo (o : OB) (k : Nat → List VV → Bool) : Bool := OB.rec (motive := fun _ => Bool) false (fun _ _ _ _ => false) (fun _ _ _ => false) (fun t l => k t l) (fun _ _ _ _ _ => false) (fun _ _ _ _ => false) (fun _ _ _ => false) (fun _ _ _ => false) (fun _ _ _ _ _ _ _ => false) o
theorem OB.onRo_true {o : OB} {k : Nat → List VV → Bool} (h : o.onRo k = true) : ∃ t l, o = .ro t l ∧ k t l = true := by
  cases o with
  | ro t l => exact ⟨t, l, rfl, h⟩
  | _ => cases h
theorem OB.onBbM {o : OB} {k : Nat → P → P → Bool} (h : o.onBb k = true) : ∃ t q ql, o = .byt t q ql ∧ k t q ql = true := by
  cases o with
  | byt t q ql => exact ⟨t, q, ql, rfl, h⟩
  | _ => cases h
theorem OB.onRwM {o : OB} {k : Nat → Nat → P → P → Nat → Nat → Option Atoms → Bool} (h : o.onRw k = true) : ∃ t sz q s hs hc W, o = .rows t sz q s hs hc W ∧ k t sz q s hs hc W = true := by
  cases o with
  | rows t sz q s hs hc W => exact ⟨t, sz, q, s, hs, hc, W, rfl, h⟩
  | _ => cases h
theorem OB.onCM {o : OB} {k : Nat → Nat → List VV → Nat → Bool} (h : o.onC k = true) : ∃ t s l v, o = .cells t s l v ∧ k t s l v = true := by
  cases o with
  | cells t s l v => exact ⟨t, s, l, v, rfl, h⟩
  | _ => cases h
theorem OB.onMM {o : OB} {k : List (Int × VV × Nat) → Nat → Nat → Bool} (h : o.onM k = true) : ∃ E c v, o = .mp E c v ∧ k E c v = true := by
  cases o with
  | mp E c v => exact ⟨E, c, v, rfl, h⟩
  | _ => cases h
noncomputable def optB (σ : Nms) (W W2 : Option Atoms) : Bool := Option.rec true (fun w => Option.rec false (fun w2 => all2 (atB σ) w w2) W2) W
theorem optB_ok (hs : Sub ρ R σ ts c0 l0 h0) {W W2 : Option Atoms} (h : optB σ W W2 = true) {us : List Value} (k : ∀ w, W2 = some w → ∃ b, TxR ρ w b ∧ Notes us b) : ∀ w, W = some w → ∃ b, TxR R w b ∧ Notes us b := fun w hw => by
  subst hw
  cases W2 with
  | none => cases h
  | some w2 =>
    obtain ⟨b, k1, k2⟩ := k w2 rfl
    exact ⟨b, all2_at hs h k1, k2⟩
noncomputable def mO (σ : Nms) (ts : P) (c0 : Nat) (l0 h0 : Int) (o : OB) : OB → Bool := OB.rec (motive := fun _ => OB → Bool) (fun _ => false)
  (fun t s l _ o2 => o2.onC fun t2 s2 l2 _ => (Nat.beq t t2 && Nat.beq s s2) && all2 (mV σ ts c0 l0 h0) l l2)
  (fun E c _ o2 => o2.onM fun E2 c2 _ => Nat.beq c c2 && all2 (entMB σ ts c0 l0 h0) E E2)
  (fun t l o2 => o2.onRo fun t2 l2 => Nat.beq t t2 && all2 (mV σ ts c0 l0 h0) l l2)
  (fun _ _ _ _ _ _ => false) (fun _ _ _ _ _ => false) (fun _ _ _ _ => false)
  (fun t q ql o2 => o2.onBb fun t2 q2 ql2 => Nat.beq t t2 && (nm σ q q2 && nm σ ql ql2))
  (fun t sz q s hs hc W o2 => o2.onRw fun t2 sz2 q2 s2 hs2 hc2 W2 => (Nat.beq t t2 && Nat.beq sz sz2) && ((nm σ q q2 && (s.eqb ts && s2.eqb ts)) && ((leZ (addZ h0 c0) hs && Nat.ble hc2 (Nat.add hc c0)) && optB σ W W2))) o
def OB.own : OB → Prop
  | .dg .. | .bs .. => False
  | _ => True
theorem mO_ok (hs : Sub ρ R σ ts c0 l0 h0) {o o2 : OB} (h : mO σ ts c0 l0 h0 o o2 = true) : o2.live ∧ o.own ∧ ∀ cap ro, ObR ρ cap o2 ro → ObR R cap o ro := by
  cases o with
  | cells t s l v =>
    obtain ⟨t2, s2, l2, v2, rfl, h⟩ := OB.onCM (o := o2) (k := fun t2 s2 l2 _ => (Nat.beq t t2 && Nat.beq s s2) && all2 (mV σ ts c0 l0 h0) l l2) h
    have e1 := Nat.eq_of_beq_eq_true (bl (bl h))
    have e2 := Nat.eq_of_beq_eq_true (br (bl h))
    subst e1 e2
    obtain ⟨k1, k2⟩ := all2_mV hs (br h)
    exact ⟨trivial, trivial, fun cap ro ⟨us, rest, g1, g2, g3, g4⟩ => ⟨us, rest, g1, k2 g2, k1 g3, g4⟩⟩
  | mp E c v =>
    obtain ⟨E2, c2, v2, rfl, h⟩ := OB.onMM (o := o2) (k := fun E2 c2 _ => Nat.beq c c2 && all2 (entMB σ ts c0 l0 h0) E E2) h
    have e1 := Nat.eq_of_beq_eq_true (bl h)
    subst e1
    exact ⟨trivial, trivial, fun cap ro ⟨E', g1, g2⟩ => ⟨E', g1, all2_ent hs (br h) g2⟩⟩
  | ro t l =>
    obtain ⟨t2, l2, rfl, h⟩ := OB.onRo_true (o := o2) (k := fun t2 l2 => Nat.beq t t2 && all2 (mV σ ts c0 l0 h0) l l2) h
    have e1 := Nat.eq_of_beq_eq_true (bl h)
    subst e1
    obtain ⟨k1, k2⟩ := all2_mV hs (br h)
    exact ⟨trivial, trivial, fun cap ro ⟨us, rest, fz, g1, g2, g3⟩ => ⟨us, rest, fz, g1, k2 g2, k1 g3⟩⟩
  | byt t q ql =>
    obtain ⟨t2, q2, ql2, rfl, h⟩ := OB.onBbM (o := o2) (k := fun t2 q2 ql2 => Nat.beq t t2 && (nm σ q q2 && nm σ ql ql2)) h
    have e1 := Nat.eq_of_beq_eq_true (bl h)
    have e2 := hs.nm _ _ (nm_true (bl (br h)))
    have e3 := hs.nm _ _ (nm_true (br (br h)))
    subst e1
    exact ⟨trivial, trivial, fun cap ro ⟨r, s, s', rest, fz, g1, g2, g3⟩ => ⟨r, s, s', rest, fz, e2.trans g1, e3.trans g2, g3⟩⟩
  | rows t sz q s hs' hc W =>
    obtain ⟨t2, sz2, q2, s2, hs2, hc2, W2, rfl, h⟩ := OB.onRwM (o := o2) (k := fun t2 sz2 q2 s2 hs2 hc2 W2 => (Nat.beq t t2 && Nat.beq sz sz2) && ((nm σ q q2 && (s.eqb ts && s2.eqb ts)) && ((leZ (addZ h0 c0) hs' && Nat.ble hc2 (Nat.add hc c0)) && optB σ W W2))) h
    have e1 := Nat.eq_of_beq_eq_true (bl (bl h))
    have e2 := Nat.eq_of_beq_eq_true (br (bl h))
    have e3 := hs.nm _ _ (nm_true (bl (bl (br h))))
    have e4 := P.eqb_eq.1 (bl (br (bl (br h))))
    have e5 := P.eqb_eq.1 (br (br (bl (br h))))
    have e6 : addZ h0 c0 ≤ hs' := of_decide_eq_true ((leZ_eq _ _).symm.trans (bl (bl (br (br h)))))
    have e7 : hc2 ≤ hc + c0 := Nat.le_of_ble_eq_true (br (bl (br (br h))))
    have e8 := br (br (br h))
    rw [addZ_eq] at e6
    subst e1 e2 e4
    refine ⟨trivial, trivial, fun cap ro k => ?_⟩
    obtain ⟨n, s, us, rest, τ, s3, g1, g2, g3, g4, g5, g6, g7, g8, g9, g10, g11⟩ := k
    obtain ⟨r, s', k1, k2, k3, k4⟩ := hs.ts
    rw [e5, k1] at g2
    cases g2
    exact ⟨n, s, us, rest, _, _, e3.trans g1, k2, by omega, by omega, g5, g6, g7, g8, g9, g10, optB_ok hs e8 g11⟩
  | _ => cases h
end
noncomputable def sigK (l : List (P × P)) : Nms → (Nms → Bool) → Bool := List.rec (motive := fun _ => Nms → (Nms → Bool) → Bool) (fun σ k => k σ) (fun x _ ih σ k => Tr.setK none σ x.1 (some x.2) fun σ => ih σ k) l
noncomputable def tauK (l : List (P × P)) : Nms → (Nms → Bool) → Bool := List.rec (motive := fun _ => Nms → (Nms → Bool) → Bool) (fun σ k => k σ) (fun x _ ih σ k => Tr.setK none σ x.2 (some x.1) fun σ => ih σ k) l
theorem sigK_true {k : Nms → Bool} : ∀ {l : List (P × P)} {σ : Nms}, sigK l σ k = true → ∃ σ', k σ' = true ∧ ∀ a b, Tr.get none σ' a = some b → Tr.get none σ a = some b ∨ (a, b) ∈ l
  | [], σ, h => ⟨σ, h, fun a b hb => .inl hb⟩
  | x :: l, σ, h => by
    have h : (Tr.setK none σ x.1 (some x.2) fun σ => sigK l σ k) = true := h
    rw [Tr.setK_eq] at h
    obtain ⟨σ', h1, h2⟩ := sigK_true h
    refine ⟨σ', h1, fun a b hb => ?_⟩
    rcases h2 a b hb with h3 | h3
    · by_cases ha : a = x.1
      · subst ha
        rw [Tr.get_set] at h3
        cases h3
        exact .inr (by simp)
      · rw [Tr.get_set_ne _ _ _ _ _ ha] at h3
        exact .inl h3
    · exact .inr (by simp [h3])
theorem tauK_true {k : Nms → Bool} : ∀ {l : List (P × P)} {σ : Nms}, tauK l σ k = true → ∃ σ', k σ' = true
  | [], σ, h => ⟨σ, h⟩
  | x :: l, σ, h => by
    have h : (Tr.setK none σ x.2 (some x.1) fun σ => tauK l σ k) = true := h
    rw [Tr.setK_eq] at h
    exact tauK_true h
noncomputable def chkL {α : Type} (f : α → Bool) (l : List α) : Bool := List.rec true (fun x _ ih => f x && ih) l
theorem chkL_true {α : Type} {f : α → Bool} : ∀ {l : List α}, chkL f l = true → ∀ x ∈ l, f x = true
  | [], _, x, hx => by cases hx
  | y :: l, h, x, hx => by
    rcases List.mem_cons.1 hx with rfl | hx
    · exact bl h
    · exact chkL_true (br h) x hx
noncomputable def mkS (L : List (P × OB)) : Mem → Mem := List.rec (motive := fun _ => Mem → Mem) (fun M => M) (fun x _ ih M => ih (Tr.set .dead M x.1 x.2)) L
noncomputable def mkE (L : List (I × VV)) : En → En := List.rec (motive := fun _ => En → En) (fun e => e) (fun x _ ih e => ih (e.set x.1 x.2)) L
noncomputable def bldS (L : List (P × OB)) : Mem → (Mem → Bool) → Bool := List.rec (motive := fun _ => Mem → (Mem → Bool) → Bool) (fun M k => k M) (fun x _ ih M k => Tr.setK .dead M x.1 x.2 fun M => ih M k) L
noncomputable def bldE (L : List (I × VV)) : En → (En → Bool) → Bool := List.rec (motive := fun _ => En → (En → Bool) → Bool) (fun e k => k e) (fun x _ ih e k => e.setK x.1 x.2 fun e => ih e k) L
theorem bldS_eq (k : Mem → Bool) : ∀ (L : List (P × OB)) (M : Mem), bldS L M k = k (mkS L M)
  | [], M => rfl
  | x :: L, M => by
    show (Tr.setK .dead M x.1 x.2 fun M => bldS L M k) = _
    rw [Tr.setK_eq]
    exact bldS_eq k L _
theorem bldE_eq (k : En → Bool) : ∀ (L : List (I × VV)) (e : En), bldE L e k = k (mkE L e)
  | [], e => rfl
  | x :: L, e => by
    show (e.setK x.1 x.2 fun e => bldE L e k) = _
    rw [En.setK_eq]
    exact bldE_eq k L _
theorem mkS_at : ∀ (L : List (P × OB)) (M : Mem) (b : P), Mm.at (mkS L M) b = Mm.at M b ∨ (b, Mm.at (mkS L M) b) ∈ L
  | [], M, b => .inl rfl
  | x :: L, M, b => by
    have e : mkS (x :: L) M = mkS L (Tr.set .dead M x.1 x.2) := rfl
    rw [e]
    rcases mkS_at L (Tr.set .dead M x.1 x.2) b with h | h
    · rw [h]
      by_cases hb : b = x.1
      · subst hb; rw [at_set]; exact .inr (by simp)
      · rw [at_set_ne M _ hb]; exact .inl rfl
    · exact .inr (by simp [h])
theorem mkE_get : ∀ (L : List (I × VV)) (e : En) (i : I), (mkE L e).get i = e.get i ∨ (i, (mkE L e).get i) ∈ L
  | [], e, i => .inl rfl
  | x :: L, e, i => by
    have h0 : mkE (x :: L) e = mkE L (e.set x.1 x.2) := rfl
    rw [h0]
    rcases mkE_get L (e.set x.1 x.2) i with h | h
    · rw [h]
      by_cases hb : i = x.1
      · subst hb; rw [En.get_set]; exact .inr (by simp)
      · rw [En.get_set_ne _ _ _ _ hb]; exact .inl rfl
    · exact .inr (by simp [h])
noncomputable def mrho (ρ : Rho) (σ : Nms) (ts : P) (c0 : Nat) (n0 : P) : Rho := fun p => bif p.eqb ts then (ρ ts).map (fun x => (x.1 + c0, x.2)) else match Tr.get none σ p with
  | some b => ρ b
  | none => bif Nat.blt p.num n0.num then ρ p else none
noncomputable def pairB (τ : Nms) (ts n0 n1 : P) (x : P × P) : Bool := (notB (x.1.eqb ts) && Nat.blt x.1.num n1.num) && ((Nat.ble n0.num x.1.num || x.1.eqb x.2) && nm τ x.2 x.1)
noncomputable def blkB (σ : Nms) (ts : P) (c0 : Nat) (l0 h0 : Int) (M : Mem) (x : P × OB) : Bool := Tr.getK none σ x.1 fun o => Option.rec false (fun b2 => Tr.getK .dead M b2 fun o2 => mO σ ts c0 l0 h0 x.2 o2) o
noncomputable def envB (σ : Nms) (ts : P) (c0 l0 h0 : Int) (e : En) (x : I × VV) : Bool := e.getK x.1 fun w => mV σ ts c0 l0 h0 x.2 w
noncomputable def chkK (qc : I) (ts n0 n1 : P) (σl : List (P × P)) (EL : List (I × VV)) (L : List (P × OB)) (e : En) (M : Mem) : Bool :=
  e.getK qc fun vc => vc.onSy false fun q l h c => natK c fun c0 => (q.eqb ts && (Nat.blt ts.num n1.num && Nat.ble n0.num ts.num)) &&
    sigK σl .lf fun σ => tauK σl .lf fun τ => chkL (pairB τ ts n0 n1) σl && (chkL (blkB σ ts c0 l h M) L && chkL (envB σ ts c0 l h e) EL)
theorem chk_ok {W0 : World} {S : List (P × I)} {qc : I} {ts n0 n1 : P} {σl : List (P × P)} {EL : List (I × VV)} {L : List (P × OB)} {e : En} {M : Mem} {ρc : Rho} (hc0 : ∀ b x, ρc b = some x → b.num < n0.num) (hp : ∃ p, placeIn S p = some qc) (h : chkK qc ts n0 n1 σl EL L e M = true)
    {ρ : Rho} {nx : P} {C : Heap} {env : Env} (hx : Ext ρc ρ) (hM : MR W0 ρ M nx C) (he : ENR S ρ e env) : ∃ R, Ext ρc R ∧ MR W0 R (mkS L .lf) n1 C ∧ ENR S R (mkE EL .nl) env := by
  unfold chkK at h
  rw [En.getK_eq] at h
  rcases VV.onSy_true h with h | ⟨q, l, hh, c, hv, h⟩
  · cases h
  obtain ⟨c0, rfl, h⟩ := natK_true h
  have hq := P.eqb_eq.1 (bl (bl h))
  have hn1 : ts.num < n1.num := bltT (bl (br (bl h)))
  have hn0 : n0.num ≤ ts.num := Nat.le_of_ble_eq_true (br (br (bl h)))
  obtain ⟨σ, h1, hσ⟩ := sigK_true (br h)
  obtain ⟨τ, h1⟩ := tauK_true h1
  have hP := chkL_true (bl h1)
  have hB := chkL_true (bl (br h1))
  have hE := chkL_true (br (br h1))
  subst hq
  obtain ⟨p, hp⟩ := hp
  obtain ⟨u, _, ru⟩ := (he p qc hp).1 (by rw [hv]; rfl)
  rw [hv] at ru
  obtain ⟨r0, s0, k1, k2, k3, _⟩ := ru
  have hin : ∀ a b, Tr.get none σ a = some b → (a, b) ∈ σl := fun a b hb => by
    rcases hσ a b hb with h | h
    · rw [Tr.get_lf] at h; cases h
    · exact h
  have hne : ∀ a b, Tr.get none σ a = some b → a.eqb q = false := fun a b hb => by
    have := bl (bl (hP _ (hin a b hb)))
    cases hq : a.eqb q with
    | false => rfl
    | true => simp only [hq] at this; cases this
  have hsub : Sub ρ (mrho ρ σ q c0 n0) σ q c0 l hh := by
    refine ⟨fun a b hb => ?_, r0, s0, k1, ?_, k2, k3⟩
    · unfold mrho
      rw [hne a b hb, cond_false, hb]
    · unfold mrho
      rw [P.eqb_eq.2 rfl, cond_true, k1]
      rfl
  have hat : ∀ b, (Mm.at (mkS L .lf) b).live → (b, Mm.at (mkS L .lf) b) ∈ L := fun b hb => by
    rcases mkS_at L .lf b with h | h
    · rw [h] at hb; rw [show Mm.at .lf b = .dead from Tr.get_lf _ _] at hb; exact hb.elim
    · exact h
  have hblk : ∀ b o, (b, o) ∈ L → ∃ b2, Tr.get none σ b = some b2 ∧ mO σ q c0 l hh o (Mm.at M b2) = true := fun b o hb => by
    have := hB _ hb
    unfold blkB at this
    rw [Tr.getK_eq] at this
    cases hg : Tr.get none σ b with
    | none => simp only [hg] at this; cases this
    | some b2 =>
      simp only [hg] at this
      rw [getM_eq] at this
      exact ⟨b2, rfl, this⟩
  refine ⟨mrho ρ σ q c0 n0, fun b x hb => ?_, ⟨fun b x hb => ?_, fun b hb => ?_, fun b b' r c c' hb hb' g1 g2 => ?_, fun b ty ti t e q' hb => ?_, fun b b' hb => ?_, fun b t l F hb => ?_⟩, fun p i hpi => ?_⟩
  · have hb0 := hc0 b x hb
    have hbq : b.eqb q = false := by
      cases hq : b.eqb q with
      | false => rfl
      | true => have := P.eqb_eq.1 hq; subst this; omega
    unfold mrho
    rw [hbq, cond_false]
    cases hg : Tr.get none σ b with
    | none =>
      simp only
      rw [show Nat.blt b.num n0.num = true from Nat.ble_eq_true_of_le hb0, cond_true]
      exact hx b x hb
    | some b2 =>
      have hpb := bl (br (hP _ (hin b b2 hg)))
      have : b = b2 := by
        cases hle : Nat.ble n0.num b.num with
        | true => have := Nat.le_of_ble_eq_true hle; omega
        | false => simp only [hle, Bool.false_or] at hpb; exact P.eqb_eq.1 hpb
      subst this
      exact hx b x hb
  · unfold mrho at hb
    cases hbq : b.eqb q with
    | true => have := P.eqb_eq.1 hbq; subst this; exact hn1
    | false =>
      rw [hbq, cond_false] at hb
      cases hg : Tr.get none σ b with
      | none =>
        rw [hg] at hb
        simp only at hb
        cases hlt : Nat.blt b.num n0.num with
        | false => rw [hlt] at hb; cases hb
        | true => have := bltT hlt; omega
      | some b2 => exact bltT (br (bl (hP _ (hin b b2 hg))))
  · obtain ⟨b2, hg, hm⟩ := hblk b _ (hat b hb)
    obtain ⟨m1, m2, m3⟩ := mO_ok hsub hm
    obtain ⟨r, c, ro, g1, g2, g3⟩ := hM.live b2 m1
    exact ⟨r, c, ro, (hsub.nm b b2 hg).trans g1, g2, m3 c ro g3⟩
  · obtain ⟨b2, hg, hm⟩ := hblk b _ (hat b hb)
    obtain ⟨b2', hg', hm'⟩ := hblk b' _ (hat b' hb')
    have e1 := hM.inj b2 b2' r c c' (mO_ok hsub hm).1 (mO_ok hsub hm').1 ((hsub.nm b b2 hg).symm.trans g1) ((hsub.nm b' b2' hg').symm.trans g2)
    subst e1
    have t1 := nm_true (br (br (hP _ (hin b b2 hg))))
    have t2 := nm_true (br (br (hP _ (hin b' b2 hg'))))
    simp only at t1 t2
    rw [t1] at t2
    cases t2
    rfl
  · rcases mkS_at L .lf b with h | h
    · rw [h, show Mm.at .lf b = .dead from Tr.get_lf _ _] at hb; cases hb
    · obtain ⟨b2, _, hm⟩ := hblk b _ h
      have := (mO_ok hsub hm).2.1
      rw [hb] at this
      exact this.elim
  · rcases mkS_at L .lf b with h | h
    · rw [h, show Mm.at .lf b = .dead from Tr.get_lf _ _] at hb; exact hb.elim
    · obtain ⟨b2, _, hm⟩ := hblk b _ h
      have := (mO_ok hsub hm).2.1
      cases ho : Mm.at (mkS L .lf) b <;> rw [ho] at hb this <;> first | exact hb.elim | exact this.elim
  · rcases mkS_at L .lf b with h | h
    · rw [h, show Mm.at .lf b = .dead from Tr.get_lf _ _] at hb; cases hb
    · obtain ⟨b2, _, hm⟩ := hblk b _ h
      have := (mO_ok hsub hm).2.1
      rw [hb] at this
      exact this.elim
  · rcases mkE_get EL .nl i with h | h
    · rw [h, En.get_nl]
      unfold SlR
      exact ⟨fun h => (by cases h), fun h => (by cases h)⟩
    · have := hE _ h
      unfold envB at this
      rw [En.getK_eq] at this
      obtain ⟨w1, w2, _, w3⟩ := mV_ok hsub _ _ this
      obtain ⟨u, g1, g2⟩ := (he p i hpi).1 w1
      exact ⟨fun _ => ⟨u, g1, w3 u g2⟩, fun hoff => by simp only at w2; rw [hoff] at w2; cases w2⟩
end Den
set_option linter.unusedVariables false
namespace Den
open Go Eng
noncomputable def atsK (l : Atoms) : List P → (List P → Bool) → Bool := List.rec (motive := fun _ => List P → (List P → Bool) → Bool) (fun a k => k a) (fun x _ ih a k => ih (x.2.1 :: x.1 :: a) k) l
theorem atsK_ex : ∀ {l : Atoms} {a : List P} {k : List P → Bool}, atsK l a k = true → ∃ x, k x = true
  | [], a, k, h => ⟨a, h⟩
  | x :: l, a, k, h => atsK_ex (l := l) h
noncomputable def nmsV (v : VV) : List P → (List P → Bool) → Bool := VV.rec (motive_1 := fun _ => List P → (List P → Bool) → Bool) (motive_2 := fun _ => List P → (List P → Bool) → Bool) (fun a k => k a) (fun a k => k a) (fun _ a k => k a) (fun _ _ a k => k a) (fun _ a k => k a) (fun _ a k => k a) (fun a k => k a) (fun b _ a k => k (b :: a)) (fun a k => k a) (fun b _ _ _ _ a k => k (b :: a)) (fun a k => k a) (fun a k => k a) (fun b a k => k (b :: a)) (fun a k => k a) (fun _ _ _ ix iy a k => ix a fun a => iy a k) (fun _ il a k => il a k) (fun _ _ a k => k a) (fun q _ _ _ a k => k (q :: a)) (fun _ _ a k => k a) (fun _ _ a k => k a) (fun a k => k a) (fun _ _ _ a k => k a) (fun _ _ _ a k => k a) (fun _ _ _ _ _ a k => k a) (fun _ _ _ _ a k => k a) (fun _ _ a k => k a) (fun l a k => atsK l a k) (fun _ _ a k => k a) (fun b q _ _ a k => k (b :: q :: a)) (fun a k => k a) (fun b q a k => k (b :: q :: a)) (fun a k => k a) (fun _ _ iv ir a k => iv a fun a => ir a k) v
noncomputable def nmsL (l : List VV) : List P → (List P → Bool) → Bool := VV.rec_1 (motive_1 := fun _ => List P → (List P → Bool) → Bool) (motive_2 := fun _ => List P → (List P → Bool) → Bool) (fun a k => k a) (fun a k => k a) (fun _ a k => k a) (fun _ _ a k => k a) (fun _ a k => k a) (fun _ a k => k a) (fun a k => k a) (fun b _ a k => k (b :: a)) (fun a k => k a) (fun b _ _ _ _ a k => k (b :: a)) (fun a k => k a) (fun a k => k a) (fun b a k => k (b :: a)) (fun a k => k a) (fun _ _ _ ix iy a k => ix a fun a => iy a k) (fun _ il a k => il a k) (fun _ _ a k => k a) (fun q _ _ _ a k => k (q :: a)) (fun _ _ a k => k a) (fun _ _ a k => k a) (fun a k => k a) (fun _ _ _ a k => k a) (fun _ _ _ a k => k a) (fun _ _ _ _ _ a k => k a) (fun _ _ _ _ a k => k a) (fun _ _ a k => k a) (fun l a k => atsK l a k) (fun _ _ a k => k a) (fun b q _ _ a k => k (b :: q :: a)) (fun a k => k a) (fun b q a k => k (b :: q :: a)) (fun a k => k a) (fun _ _ iv ir a k => iv a fun a => ir a k) l
mutual
theorem nmsV_ex : ∀ (v : VV) {a : List P} {k : List P → Bool}, nmsV v a k = true → ∃ x, k x = true
  | .fn f xs ys, a, k, h => by
    have h : (nmsL xs a fun a => nmsL ys a k) = true := h
    obtain ⟨x, h⟩ := nmsL_ex xs h
    exact nmsL_ex ys h
  | .tx l, a, k, h => atsK_ex (l := l) h
  | .no, a, k, h => ⟨a, h⟩ | .off, a, k, h => ⟨a, h⟩ | .i _, a, k, h => ⟨a, h⟩ | .int _ _, a, k, h => ⟨a, h⟩ | .bool _, a, k, h => ⟨a, h⟩ | .str _, a, k, h => ⟨a, h⟩ | .nil, a, k, h => ⟨a, h⟩
  | .ptr b _, a, k, h => ⟨b :: a, h⟩ | .nils, a, k, h => ⟨a, h⟩ | .slc b _ _ _ _, a, k, h => ⟨b :: a, h⟩ | .emp, a, k, h => ⟨a, h⟩ | .nilm, a, k, h => ⟨a, h⟩ | .map b, a, k, h => ⟨b :: a, h⟩ | .nilf, a, k, h => ⟨a, h⟩
  | .agg l, a, k, h => nmsL_ex l h | .tup _, a, k, h => ⟨a, h⟩ | .sy q _ _ _, a, k, h => ⟨q :: a, h⟩ | .lc _ _, a, k, h => ⟨a, h⟩ | .ls _ _, a, k, h => ⟨a, h⟩ | .any, a, k, h => ⟨a, h⟩ | .ifc _ _, a, k, h => ⟨a, h⟩
  | .evs _ _ _, a, k, h => ⟨a, h⟩ | .gt _ _ _ _ _, a, k, h => ⟨a, h⟩ | .bsl _ _ _ _, a, k, h => ⟨a, h⟩ | .bpt _ _, a, k, h => ⟨a, h⟩ | .txr _ _, a, k, h => ⟨a, h⟩ | .byv b q _ _, a, k, h => ⟨b :: q :: a, h⟩ | .em0, a, k, h => ⟨a, h⟩ | .lsl b q, a, k, h => ⟨b :: q :: a, h⟩
theorem nmsL_ex : ∀ (l : List VV) {a : List P} {k : List P → Bool}, nmsL l a k = true → ∃ x, k x = true
  | [], a, k, h => ⟨a, h⟩
  | v :: l, a, k, h => by
    have h : (nmsV v a fun a => nmsL l a k) = true := h
    obtain ⟨x, h⟩ := nmsV_ex v h
    exact nmsL_ex l h
end
noncomputable def nmsE (E : List (Int × VV × Nat)) : List P → (List P → Bool) → Bool := List.rec (motive := fun _ => List P → (List P → Bool) → Bool) (fun a k => k a) (fun x _ ih a k => nmsV x.2.1 a fun a => ih a k) E
theorem nmsE_ex : ∀ {E : List (Int × VV × Nat)} {a : List P} {k : List P → Bool}, nmsE E a k = true → ∃ x, k x = true
  | [], a, k, h => ⟨a, h⟩
  | x :: E, a, k, h => by
    have h : (nmsV x.2.1 a fun a => nmsE E a k) = true := h
    obtain ⟨y, h⟩ := nmsV_ex _ h
    exact nmsE_ex h
noncomputable def nmsO (o : OB) (a : List P) (k : List P → Bool) : Bool := OB.rec (motive := fun _ => Bool) (k a) (fun _ _ l _ => nmsL l a k) (fun E _ _ => nmsE E a k) (fun _ l => nmsL l a k) (fun _ _ _ _ _ => k a) (fun _ _ _ _ => k a) (fun _ _ _ => k a) (fun _ q ql => k (q :: ql :: a)) (fun _ _ q _ _ _ W => Option.rec (k (q :: a)) (fun w => atsK w (q :: a) k) W) o
theorem nmsO_ex {o : OB} {a : List P} {k : List P → Bool} (h : nmsO o a k = true) : ∃ x, k x = true := by
  cases o with
  | cells _ _ l _ => exact nmsL_ex l h
  | mp E _ _ => exact nmsE_ex (E := E) h
  | ro _ l => exact nmsL_ex l h
  | rows _ _ q _ _ _ W => cases W with
    | none => exact ⟨_, h⟩
    | some w => exact atsK_ex (l := w) h
  | byt _ q ql => exact ⟨q :: ql :: a, h⟩
  | _ => exact ⟨a, h⟩
abbrev PPs := List (P × P)
noncomputable def zipK (a : List P) : List P → PPs → (PPs → Bool) → Bool := List.rec (motive := fun _ => List P → PPs → (PPs → Bool) → Bool) (fun _ w k => k w) (fun x _ ih b w k => List.rec (k w) (fun y r _ => ih r ((x, y) :: w) k) b) a
theorem zipK_ex : ∀ {a b : List P} {w : PPs} {k : PPs → Bool}, zipK a b w k = true → ∃ x, k x = true
  | [], b, w, k, h => ⟨w, h⟩
  | x :: a, [], w, k, h => ⟨w, h⟩
  | x :: a, y :: b, w, k, h => zipK_ex (a := a) (b := b) h
noncomputable def pairV (v w : VV) (a : PPs) (k : PPs → Bool) : Bool := nmsV v [] fun x => nmsV w [] fun y => zipK x y a k
theorem pairV_ex {v w : VV} {a : PPs} {k : PPs → Bool} (h : pairV v w a k = true) : ∃ x, k x = true := by
  obtain ⟨x, h⟩ := nmsV_ex v h
  obtain ⟨y, h⟩ := nmsV_ex w h
  exact zipK_ex h
noncomputable def pairL (l : List VV) : List VV → PPs → (PPs → Bool) → Bool := List.rec (motive := fun _ => List VV → PPs → (PPs → Bool) → Bool) (fun _ a k => k a) (fun v _ ih m a k => List.rec (k a) (fun w r _ => pairV v w a fun a => ih r a k) m) l
theorem pairL_ex : ∀ {l m : List VV} {a : PPs} {k : PPs → Bool}, pairL l m a k = true → ∃ x, k x = true
  | [], m, a, k, h => ⟨a, h⟩
  | v :: l, [], a, k, h => ⟨a, h⟩
  | v :: l, w :: m, a, k, h => by
    have h : (pairV v w a fun a => pairL l m a k) = true := h
    obtain ⟨x, h⟩ := pairV_ex h
    exact pairL_ex h
noncomputable def valsE (E : List (Int × VV × Nat)) : List VV := List.rec [] (fun x _ ih => x.2.1 :: ih) E
noncomputable def optW (W W2 : Option Atoms) (a : PPs) (k : PPs → Bool) : Bool := Option.rec (k a) (fun w => Option.rec false (fun w2 => atsK w [] fun x => atsK w2 [] fun y => zipK x y a k) W2) W
noncomputable def pairO (o o2 : OB) (a : PPs) (k : PPs → Bool) : Bool := OB.rec (motive := fun _ => Bool) (k a) (fun _ _ l _ => o2.onC fun _ _ m _ => pairL l m a k) (fun E _ _ => o2.onM fun E2 _ _ => pairL (valsE E) (valsE E2) a k) (fun _ l => o2.onRo fun _ m => pairL l m a k)
  (fun _ _ _ _ _ => false) (fun _ _ _ _ => false) (fun _ _ _ => false) (fun _ q ql => o2.onBb fun _ q2 ql2 => k ((q, q2) :: (ql, ql2) :: a))
  (fun _ _ q _ _ _ W => o2.onRw fun _ _ q2 _ _ _ W2 => optW W W2 ((q, q2) :: a) k) o
theorem pairO_ex {o o2 : OB} {a : PPs} {k : PPs → Bool} (h : pairO o o2 a k = true) : ∃ x, k x = true := by
  cases o with
  | dead => exact ⟨a, h⟩
  | cells _ _ l _ =>
    obtain ⟨_, _, m, _, _, h⟩ := OB.onCM (o := o2) (k := fun _ _ m _ => pairL l m a k) h
    exact pairL_ex h
  | mp E _ _ =>
    obtain ⟨E2, _, _, _, h⟩ := OB.onMM (o := o2) (k := fun E2 _ _ => pairL (valsE E) (valsE E2) a k) h
    exact pairL_ex h
  | ro _ l =>
    obtain ⟨_, m, _, h⟩ := OB.onRo_true (o := o2) (k := fun _ m => pairL l m a k) h
    exact pairL_ex h
  | byt _ q ql =>
    obtain ⟨_, q2, ql2, _, h⟩ := OB.onBbM (o := o2) (k := fun _ q2 ql2 => k ((q, q2) :: (ql, ql2) :: a)) h
    exact ⟨_, h⟩
  | rows _ _ q _ _ _ W =>
    obtain ⟨_, _, q2, _, _, _, W2, _, h⟩ := OB.onRwM (o := o2) (k := fun _ _ q2 _ _ _ W2 => optW W W2 ((q, q2) :: a) k) h
    cases W with
    | none => exact ⟨_, h⟩
    | some w =>
      cases W2 with
      | none => cases h
      | some w2 =>
        have h : (atsK w [] fun x => atsK w2 [] fun y => zipK x y ((q, q2) :: a) k) = true := h
        obtain ⟨x, h⟩ := atsK_ex h
        obtain ⟨y, h⟩ := atsK_ex h
        exact zipK_ex h
  | _ => cases h
noncomputable def VV.onSl (v : VV) (m : Bool) (k : P → Nat → Nat → Nat → Bool → Bool) : Bool := VV.rec (motive_1 := fun _ => Bool → (P → Nat → Nat → Nat → Bool → Bool) → Bool) (motive_2 := fun _ => Bool → (P → Nat → Nat → Nat → Bool → Bool) → Bool) (fun m _ => m) (fun m _ => m) (fun _ m _ => m) (fun _ _ m _ => m) (fun _ m _ => m) (fun _ m _ => m) (fun m _ => m) (fun _ _ m _ => m) (fun m _ => m) (fun b o n c kn _ k => k b o n c kn) (fun m _ => m) (fun m _ => m) (fun _ m _ => m) (fun m _ => m) (fun _ _ _ _ _ m _ => m) (fun _ _ m _ => m) (fun _ _ m _ => m) (fun _ _ _ _ m _ => m) (fun _ _ m _ => m) (fun _ _ m _ => m) (fun m _ => m) (fun _ _ _ m _ => m) (fun _ _ _ m _ => m) (fun _ _ _ _ _ m _ => m) (fun _ _ _ _ m _ => m) (fun _ _ m _ => m) (fun _ m _ => m) (fun _ _ m _ => m) (fun _ _ _ _ m _ => m) (fun m _ => m) (fun _ _ m _ => m) (fun _ _ => false) (fun _ _ _ _ _ _ => false) v m k
theorem VV.onSl_true {v : VV} {m : Bool} {k : P → Nat → Nat → Nat → Bool → Bool} (h : v.onSl m k = true) : m = true ∨ ∃ b o n c kn, v = .slc b o n c kn ∧ k b o n c kn = true := by
  cases v <;> first | exact .inl h | exact .inr ⟨_, _, _, _, _, rfl, h⟩
noncomputable def widK (l : Atoms) : (Atoms → Bool) → Bool := List.rec (motive := fun _ => (Atoms → Bool) → Bool) (fun k => k []) (fun x _ ih k => ih fun r => k ((x.1, x.2.1, 0, 64) :: r)) l
theorem widK_ex : ∀ {l : Atoms} {k : Atoms → Bool}, widK l k = true → ∃ x, k x = true
  | [], k, h => ⟨[], h⟩
  | x :: l, k, h => by
    have h : (widK l fun r => k ((x.1, x.2.1, 0, 64) :: r)) = true := h
    obtain ⟨r, h⟩ := widK_ex h
    exact ⟨_, h⟩
noncomputable def absV (ts : P) (c0 : Int) (HI : Nat) (v : VV) (k : VV → Bool) : Bool :=
  v.onSy (v.onTx (v.onBy (v.onSl (k v) fun b o n c kn => Bool.rec (k v) (k .em0) ((Nat.beq n 0 && Nat.beq c 0) && kn)) fun b q _ _ => k (.byv b q 1 64)) fun l => widK l fun l => k (.tx l)) fun q _ _ c => Bool.rec (k v) (forceZ (subZ c c0) fun z => k (.sy ts (.ofNat 1) (.ofNat HI) z)) (q.eqb ts)
theorem absV_ex {ts : P} {c0 : Int} {HI : Nat} {v : VV} {k : VV → Bool} (h : absV ts c0 HI v k = true) : ∃ x, k x = true := by
  rcases VV.onSy_true h with h | ⟨q, _, _, c, _, h⟩
  · rcases VV.onTx_true h with h | ⟨l, _, h⟩
    · rcases VV.onBy_true h with h | ⟨b, q, _, _, _, h⟩
      · rcases VV.onSl_true h with h | ⟨b, o, n, c, kn, _, h⟩
        · exact ⟨_, h⟩
        · cases hb : ((Nat.beq n 0 && Nat.beq c 0) && kn) <;> rw [hb] at h <;> exact ⟨_, h⟩
      · exact ⟨_, h⟩
    · obtain ⟨x, h⟩ := widK_ex h
      exact ⟨_, h⟩
  · cases hb : q.eqb ts <;> rw [hb] at h
    · exact ⟨_, h⟩
    · have h : forceZ (subZ c c0) (fun z => k (.sy ts (.ofNat 1) (.ofNat HI) z)) = true := h
      rw [forceZ_eq] at h
      exact ⟨_, h⟩
noncomputable def absL (ts : P) (c0 : Int) (HI : Nat) (l : List VV) : (List VV → Bool) → Bool := List.rec (motive := fun _ => (List VV → Bool) → Bool) (fun k => k []) (fun v _ ih k => absV ts c0 HI v fun v => ih fun r => k (v :: r)) l
theorem absL_ex {ts : P} {c0 : Int} {HI : Nat} : ∀ {l : List VV} {k : List VV → Bool}, absL ts c0 HI l k = true → ∃ x, k x = true
  | [], k, h => ⟨[], h⟩
  | v :: l, k, h => by
    have h : (absV ts c0 HI v fun v => absL ts c0 HI l fun r => k (v :: r)) = true := h
    obtain ⟨w, h⟩ := absV_ex h
    obtain ⟨r, h⟩ := absL_ex h
    exact ⟨_, h⟩
noncomputable def absO (ts : P) (c0 : Int) (HI : Nat) (o : OB) (y : Bool) (k : OB → Bool) : Bool := OB.rec (motive := fun _ => Bool) y (fun t s l _ => absL ts c0 HI l fun l => k (.cells t s l 0)) (fun _ _ _ => k o) (fun _ _ => k o) (fun _ _ _ _ _ => k o) (fun _ _ _ _ => k o) (fun _ _ _ => k o) (fun _ _ _ => k o)
  (fun t sz q s _ _ W => Option.rec (k (.rows t sz q s HI 1000 none)) (fun w => widK w fun w => k (.rows t sz q s HI 1000 (some w))) W) o
theorem absO_ex {ts : P} {c0 : Int} {HI : Nat} {o : OB} {y : Bool} {k : OB → Bool} (h : absO ts c0 HI o y k = true) : y = true ∨ ∃ x, k x = true := by
  cases o with
  | dead => exact .inl h
  | cells t s l v =>
    obtain ⟨r, h⟩ := absL_ex (l := l) (k := fun l => k (.cells t s l 0)) h
    exact .inr ⟨_, h⟩
  | rows t sz q s hs hc W =>
    cases W with
    | none => exact .inr ⟨_, h⟩
    | some w =>
      obtain ⟨r, h⟩ := widK_ex (l := w) (k := fun w => k (.rows t sz q s HI 1000 (some w))) h
      exact .inr ⟨_, h⟩
  | _ => exact .inr ⟨_, h⟩
abbrev BLs := List (P × OB)
noncomputable def gcK (ts : P) (c0 : Int) (HI : Nat) (M : Mem) (fuel : Nat) : List P → Tr Bool → BLs → (BLs → Bool) → Bool := Nat.rec (motive := fun _ => List P → Tr Bool → BLs → (BLs → Bool) → Bool) (fun _ _ _ _ => false)
  (fun _ ih work vis L k => List.rec (k L) (fun b r _ => Tr.getK false vis b fun seen => Bool.rec (Tr.setK false vis b true fun vis => Tr.getK .dead M b fun o => absO ts c0 HI o (ih r vis L k) fun o => nmsO o r fun work => ih work vis ((b, o) :: L) k) (ih r vis L k) seen) work) fuel
theorem gcK_ex {ts : P} {c0 : Int} {HI : Nat} {M : Mem} : ∀ {fuel : Nat} {work : List P} {vis : Tr Bool} {L : BLs} {k : BLs → Bool}, gcK ts c0 HI M fuel work vis L k = true → ∃ x, k x = true
  | 0, _, _, _, _, h => by cases h
  | fuel + 1, [], vis, L, k, h => ⟨L, h⟩
  | fuel + 1, b :: r, vis, L, k, h => by
    have h : (Tr.getK false vis b fun seen => Bool.rec (Tr.setK false vis b true fun vis => Tr.getK .dead M b fun o => absO ts c0 HI o (gcK ts c0 HI M fuel r vis L k) fun o => nmsO o r fun work => gcK ts c0 HI M fuel work vis ((b, o) :: L) k) (gcK ts c0 HI M fuel r vis L k) seen) = true := h
    rw [Tr.getK_eq] at h
    cases hs : Tr.get false vis b with
    | true => rw [hs] at h; exact gcK_ex h
    | false =>
      rw [hs] at h
      have h : (Tr.setK false vis b true fun vis => Tr.getK .dead M b fun o => absO ts c0 HI o (gcK ts c0 HI M fuel r vis L k) fun o => nmsO o r fun work => gcK ts c0 HI M fuel work vis ((b, o) :: L) k) = true := h
      rw [Tr.setK_eq, Tr.getK_eq] at h
      rcases absO_ex h with h | ⟨o, h⟩
      · exact gcK_ex h
      · obtain ⟨w, h⟩ := nmsO_ex h
        exact gcK_ex h
abbrev ELs := List (I × VV)
noncomputable def rootK (ts : P) (c0 : Int) (HI : Nat) (e : En) (keep : List I) : List P → ELs → (List P → ELs → Bool) → Bool := List.rec (motive := fun _ => List P → ELs → (List P → ELs → Bool) → Bool) (fun a L k => k a L) (fun i _ ih a L k => e.getK i fun v => absV ts c0 HI v fun v => nmsV v a fun a => ih a ((i, v) :: L) k) keep
theorem rootK_ex {ts : P} {c0 : Int} {HI : Nat} {e : En} : ∀ {keep : List I} {a : List P} {L : ELs} {k : List P → ELs → Bool}, rootK ts c0 HI e keep a L k = true → ∃ x y, k x y = true
  | [], a, L, k, h => ⟨a, L, h⟩
  | i :: keep, a, L, k, h => by
    have h : (e.getK i fun v => absV ts c0 HI v fun v => nmsV v a fun a => rootK ts c0 HI e keep a ((i, v) :: L) k) = true := h
    rw [En.getK_eq] at h
    obtain ⟨v, h⟩ := absV_ex h
    obtain ⟨x, h⟩ := nmsV_ex _ h
    exact rootK_ex h
noncomputable def canK (qc : I) (ts rt : P) (keep : List I) (HI : Nat) (e : En) (M : Mem) (k : ELs → BLs → Bool) : Bool := e.getK qc fun vc => vc.onSy false fun _ _ _ c0 => rootK ts c0 HI e keep [rt] [] fun a EL => gcK ts c0 HI M 100000 a .lf [] fun L => k EL L
theorem canK_ex {qc : I} {ts rt : P} {keep : List I} {HI : Nat} {e : En} {M : Mem} {k : ELs → BLs → Bool} (h : canK qc ts rt keep HI e M k = true) : ∃ EL L, k EL L = true := by
  unfold canK at h
  rw [En.getK_eq] at h
  rcases VV.onSy_true h with h | ⟨_, _, _, c0, _, h⟩
  · cases h
  · obtain ⟨a, EL, h⟩ := rootK_ex h
    obtain ⟨L, h⟩ := gcK_ex h
    exact ⟨_, _, h⟩
noncomputable def prsK (e : En) (EL : ELs) : PPs → (PPs → Bool) → Bool := List.rec (motive := fun _ => PPs → (PPs → Bool) → Bool) (fun a k => k a) (fun x _ ih a k => e.getK x.1 fun w => pairV x.2 w a fun a => ih a k) EL
theorem prsK_ex {e : En} : ∀ {EL : ELs} {a : PPs} {k : PPs → Bool}, prsK e EL a k = true → ∃ x, k x = true
  | [], a, k, h => ⟨a, h⟩
  | x :: EL, a, k, h => by
    have h : (e.getK x.1 fun w => pairV x.2 w a fun a => prsK e EL a k) = true := h
    rw [En.getK_eq] at h
    obtain ⟨y, h⟩ := pairV_ex h
    exact prsK_ex h
noncomputable def trvK (ts : P) (M' M : Mem) (fuel : Nat) : PPs → Nms → PPs → (PPs → Bool) → Bool := Nat.rec (motive := fun _ => PPs → Nms → PPs → (PPs → Bool) → Bool) (fun _ _ _ _ => false)
  (fun _ ih work σ l k => List.rec (k l) (fun x r _ => Bool.rec (Tr.getK none σ x.1 fun o => Option.rec (Tr.setK none σ x.1 (some x.2) fun σ => Tr.getK .dead M' x.1 fun o => Tr.getK .dead M x.2 fun o2 => pairO o o2 r fun work => ih work σ (x :: l) k) (fun _ => ih r σ l k) o) (ih r σ l k) (x.1.eqb ts)) work) fuel
theorem trvK_ex {ts : P} {M' M : Mem} : ∀ {fuel : Nat} {work : PPs} {σ : Nms} {l : PPs} {k : PPs → Bool}, trvK ts M' M fuel work σ l k = true → ∃ x, k x = true
  | 0, _, _, _, _, h => by cases h
  | fuel + 1, [], σ, l, k, h => ⟨l, h⟩
  | fuel + 1, x :: r, σ, l, k, h => by
    have h : (Bool.rec (Tr.getK none σ x.1 fun o => Option.rec (Tr.setK none σ x.1 (some x.2) fun σ => Tr.getK .dead M' x.1 fun o => Tr.getK .dead M x.2 fun o2 => pairO o o2 r fun work => trvK ts M' M fuel work σ (x :: l) k) (fun _ => trvK ts M' M fuel r σ l k) o) (trvK ts M' M fuel r σ l k) (x.1.eqb ts) : Bool) = true := h
    cases hq : x.1.eqb ts with
    | true => rw [hq] at h; exact trvK_ex h
    | false =>
      rw [hq] at h
      have h : (Tr.getK none σ x.1 fun o => Option.rec (Tr.setK none σ x.1 (some x.2) fun σ => Tr.getK .dead M' x.1 fun o => Tr.getK .dead M x.2 fun o2 => pairO o o2 r fun work => trvK ts M' M fuel work σ (x :: l) k) (fun _ => trvK ts M' M fuel r σ l k) o) = true := h
      rw [Tr.getK_eq] at h
      cases hs : Tr.get none σ x.1 with
      | some y => rw [hs] at h; exact trvK_ex h
      | none =>
        rw [hs] at h
        have h : (Tr.setK none σ x.1 (some x.2) fun σ => Tr.getK .dead M' x.1 fun o => Tr.getK .dead M x.2 fun o2 => pairO o o2 r fun work => trvK ts M' M fuel work σ (x :: l) k) = true := h
        rw [Tr.setK_eq, Tr.getK_eq, Tr.getK_eq] at h
        obtain ⟨w, h⟩ := pairO_ex h
        exact trvK_ex h
noncomputable def toK (qc : I) (ts rt n0 n1 : P) (EL : ELs) (L : BLs) (M' : Mem) (e : En) (M : Mem) : Bool := prsK e EL [(rt, rt)] fun a => trvK ts M' M 100000 a .lf [] fun l => chkK qc ts n0 n1 l EL L e M
theorem toK_ex {qc : I} {ts rt n0 n1 : P} {EL : ELs} {L : BLs} {M' : Mem} {e : En} {M : Mem} (h : toK qc ts rt n0 n1 EL L M' e M = true) : ∃ l, chkK qc ts n0 n1 l EL L e M = true := by
  obtain ⟨a, h⟩ := prsK_ex h
  exact trvK_ex h
end Den
set_option linter.unusedVariables false
namespace Den
open Go Eng
def RO (ρ : Rho) (o o' : OB) : Prop := o' = o ∨ o'.live ∧ o.live ∧ ∀ cap ro, ObR ρ cap o ro → ObR ρ cap o' ro
theorem RO.refl (ρ : Rho) (o : OB) : RO ρ o o := .inl rfl
theorem RO.trans {ρ : Rho} {a b c : OB} (h : RO ρ a b) (k : RO ρ b c) : RO ρ a c := by
  rcases h with rfl | ⟨h1, h2, h3⟩
  · exact k
  · rcases k with rfl | ⟨k1, k2, k3⟩
    · exact .inr ⟨h1, h2, h3⟩
    · exact .inr ⟨k1, h2, fun cap ro h => k3 cap ro (h3 cap ro h)⟩
theorem MR.re {W0 : World} {ρ : Rho} {M M' : Mem} {nx : P} {C : Heap} (h : MR W0 ρ M nx C) (k : ∀ b, RO ρ (Mm.at M b) (Mm.at M' b)) : MR W0 ρ M' nx C := by
  have live : ∀ b, (Mm.at M' b).live → (Mm.at M b).live := fun b hb => by
    rcases k b with e | ⟨_, h2, _⟩
    · rwa [e] at hb
    · exact h2
  have live' : ∀ b, (Mm.at M b).live → (Mm.at M' b).live := fun b hb => by
    rcases k b with e | ⟨h1, _, _⟩
    · rwa [e]
    · exact h1
  have dead : ∀ b, ¬ (Mm.at M' b).live → Mm.at M' b = Mm.at M b := fun b hb => by
    rcases k b with e | ⟨h1, _, _⟩
    · exact e
    · exact absurd h1 hb
  refine ⟨h.old, fun b hb => ?_, fun b b' r c c' hb hb' => h.inj b b' r c c' (live b hb) (live b' hb'), fun b ty ti t e q hb => ?_, fun b b' hb hb' => ?_, fun b t l F hb => ?_⟩
  · obtain ⟨r, c, ro, h1, h2, h3⟩ := h.live b (live b hb)
    rcases k b with e | ⟨_, _, k3⟩
    · exact ⟨r, c, ro, h1, h2, by rw [e]; exact h3⟩
    · exact ⟨r, c, ro, h1, h2, k3 c ro h3⟩
  · have e1 := dead b (by rw [hb]; exact fun h => h)
    exact (h.dgs b ty ti t e q (by rw [← e1, hb])).mono (Ext.refl _) fun p hp hf => ⟨hp, fun b' hb' => hf b' (live b' hb')⟩
  · have nl : ∀ b, (Mm.at M' b).isD → ¬ (Mm.at M' b).live := fun b hb hl => by cases ho : Mm.at M' b <;> rw [ho] at hb hl <;> first | exact hb.elim | exact hl.elim
    exact h.one b b' (by rw [← dead b (nl b hb)]; exact hb) (by rw [← dead b' (nl b' hb')]; exact hb')
  · have e1 := dead b (by rw [hb]; exact fun h => h)
    exact h.bas b t l F (by rw [← e1, hb])
theorem RO.set {ρ : Rho} {M : Mem} {b : P} {o : OB} (h : RO ρ (Mm.at M b) o) : ∀ b', RO ρ (Mm.at M b') (Mm.at (Tr.set .dead M b o) b') := fun b' => by
  by_cases hb : b' = b
  · subst hb; rw [at_set]; exact h
  · rw [at_set_ne M o hb]; exact .refl _ _
theorem ENR.tell {S : List (P × I)} {ρ : Rho} {e : En} {env : Env} {i : I} {w : VV} (h : ENR S ρ e env) (hv : (e.get i).ok = true) (hw : w ≠ .off) (k : ∀ u, Rl ρ (e.get i) u → Rl ρ w u) : ENR S ρ (e.set i w) env := fun p j hp => by
  by_cases hj : j = i
  · subst hj
    rw [En.get_set]
    obtain ⟨u, h1, h2⟩ := (h p j hp).1 hv
    exact ⟨fun _ => ⟨u, h1, k u h2⟩, fun hoff => absurd hoff hw⟩
  · rw [En.get_set_ne _ _ _ _ hj]
    exact h p j hp
def Gd (W0 : World) (Q : Program) (n : Nat) (S : List (P × I)) (K : Kont) (c : Code) (ρc : Rho) (B : Nat) (e : En) (M : Mem) (nx : P) : Prop := ∀ m, B ≤ m → ∀ ρ env C, Ext ρc ρ → ENR S ρ e env → MR W0 ρ M nx C → LoopG W0 Q n K c m env C
abbrev Br := (En → Mem → P → Bool) → En → Mem → P → Bool
def Pth (W0 : World) (Q : Program) (n : Nat) (S : List (P × I)) (K : Kont) (c : Code) (ρc : Rho) (Φ : Prop) (r : Nat) (b : Br) : Prop := ∀ k e M nx, b k e M nx = true → ∃ e' M' nx', k e' M' nx' = true ∧ ∀ B, Φ → Gd W0 Q n S K c ρc B e' M' nx' → Gd W0 Q n S K c ρc (B + r) e M nx
section
variable {W0 : World} {Q : Program} {n : Nat} {S : List (P × I)} {call : Call} {c : Code} {s : Step} {K : Kont} {ρc : Rho} {Φ Ψ : Prop} {r r1 r2 R : Nat} {b b1 b2 : Br}
theorem Gd.mono {B B' : Nat} {e : En} {M : Mem} {nx : P} (h : Gd W0 Q n S K c ρc B e M nx) (hB : B ≤ B') : Gd W0 Q n S K c ρc B' e M nx := fun m hm => h m (Nat.le_trans hB hm)
theorem Pth.mono (h : Pth W0 Q n S K c ρc Φ r b) (hr : r ≤ R) (hΨ : Ψ → Φ) : Pth W0 Q n S K c ρc Ψ R b := fun k e M nx hk => by
  obtain ⟨e', M', nx', h1, h2⟩ := h k e M nx hk
  exact ⟨e', M', nx', h1, fun B hΦ hg => (h2 B (hΨ hΦ) hg).mono (by omega)⟩
theorem Pth.comp (h1 : Pth W0 Q n S K c ρc Φ r1 b1) (h2 : Pth W0 Q n S K c ρc Ψ r2 b2) : Pth W0 Q n S K c ρc (Φ ∧ Ψ) (r1 + r2) (fun k => b1 (b2 k)) := fun k e M nx hk => by
  obtain ⟨e1, M1, nx1, hk, g1⟩ := h1 _ e M nx hk
  obtain ⟨e2, M2, nx2, hk, g2⟩ := h2 _ e1 M1 nx1 hk
  exact ⟨e2, M2, nx2, hk, fun B hΦ hg => (g1 _ hΦ.1 (g2 B hΦ.2 hg)).mono (by omega)⟩
noncomputable def rndB (s : Step) (call : Call) (r : Nat) : Br := fun k => Nat.rec (motive := fun _ => En → Mem → P → Bool) k (fun _ ih e M nx => s call e M nx fun ex e M nx => Ex.rec (ih e M nx) false (fun _ => false) ex) r
theorem Pth.rnd (hs : StepOk W0 Q n S call c s) : ∀ r, Pth W0 Q n S K c ρc True r (rndB s call r)
  | 0, k, e, M, nx, h => ⟨e, M, nx, h, fun B _ hg => hg⟩
  | r + 1, k, e, M, nx, h => by
    have h : s call e M nx (fun ex e M nx => Ex.rec (rndB s call r k e M nx) false (fun _ => false) ex) = true := h
    obtain ⟨ex, e1, M1, nx1, h, _, hr⟩ := hs e M nx _ h
    cases ex with
    | n =>
      obtain ⟨e', M', nx', h1, h2⟩ := Pth.rnd hs r k e1 M1 nx1 h
      refine ⟨e', M', nx', h1, fun B hΦ hg m hm ρ env C hx he hM => ?_⟩
      obtain ⟨m, rfl⟩ : ∃ m', m = m' + 1 := ⟨m - 1, by omega⟩
      refine hr _ ρ env C he hM fun ρ1 e2 C1 hx1 g1 g2 _ => ?_
      exact h2 B hΦ hg m (by omega) ρ1 e2 C1 (hx.trans hx1) g1 g2
    | r => cases h
    | x id => cases h
noncomputable def allB (bs : List Br) (k : En → Mem → P → Bool) (e : En) (M : Mem) (nx : P) : Bool := List.rec true (fun b _ ih => b k e M nx && ih) bs
noncomputable def mrgB (qc : I) (ts rt n0 : P) (keep : List I) (HI : Nat) (b0 : Br) (bs : List Br) : Br := fun k e M nx => b0 (fun e0 M0 n1 => canK qc ts rt keep HI e0 M0 fun EL L => bldS L .lf fun M' => bldE EL .nl fun e' => toK qc ts rt n0 n1 EL L M' e0 M0 && (allB bs (fun e1 M1 _ => toK qc ts rt n0 n1 EL L M' e1 M1) e M nx && k e' M' n1)) e M nx
inductive Pths (W0 : World) (Q : Program) (n : Nat) (S : List (P × I)) (K : Kont) (c : Code) (ρc : Rho) (R : Nat) : List Br → Prop → Prop
  | nil : Pths W0 Q n S K c ρc R [] False
  | cons {b : Br} {bs : List Br} {Φ Ψ : Prop} : Pth W0 Q n S K c ρc Φ R b → Pths W0 Q n S K c ρc R bs Ψ → Pths W0 Q n S K c ρc R (b :: bs) (Φ ∨ Ψ)
theorem Gd.to {qc : I} {ts rt n0 n1 : P} {EL : ELs} {L : BLs} {e : En} {M : Mem} {nx : P} {B : Nat} (hc0 : ∀ b x, ρc b = some x → b.num < n0.num) (hp : ∃ p, placeIn S p = some qc) (h : toK qc ts rt n0 n1 EL L (mkS L .lf) e M = true)
    (hg : Gd W0 Q n S K c ρc B (mkE EL .nl) (mkS L .lf) n1) : Gd W0 Q n S K c ρc B e M nx := fun m hm ρ env C hx he hM => by
  obtain ⟨l, h⟩ := toK_ex h
  obtain ⟨R, k1, k2, k3⟩ := chk_ok hc0 hp h hx hM he
  exact hg m hm R env C k1 k3 k2
theorem Pths.go {bs : List Br} (hb : Pths W0 Q n S K c ρc R bs Ψ) {k : En → Mem → P → Bool} {e : En} {M : Mem} {nx : P} {B : Nat} (hk : ∀ e1 M1 nx1, k e1 M1 nx1 = true → Gd W0 Q n S K c ρc B e1 M1 nx1) (h : allB bs k e M nx = true) (hΨ : Ψ) : Gd W0 Q n S K c ρc (B + R) e M nx := by
  induction hb with
  | nil => exact hΨ.elim
  | cons hb _ ih =>
    rcases hΨ with hΨ | hΨ
    · obtain ⟨e1, M1, nx1, h3, h4⟩ := hb _ e M nx (bl h)
      exact h4 B hΨ (hk e1 M1 nx1 h3)
    · exact ih (br h) hΨ
theorem Pth.mrg {qc : I} {ts rt n0 : P} {keep : List I} {HI : Nat} {b0 : Br} {bs : List Br} (hc0 : ∀ b x, ρc b = some x → b.num < n0.num) (hp : ∃ p, placeIn S p = some qc) (h0 : Pth W0 Q n S K c ρc Φ R b0) (hb : Pths W0 Q n S K c ρc R bs Ψ) : Pth W0 Q n S K c ρc (Φ ∨ Ψ) R (mrgB qc ts rt n0 keep HI b0 bs) := fun k e M nx h => by
  obtain ⟨e0, M0, n1, h, g0⟩ := h0 _ e M nx h
  obtain ⟨EL, L, h⟩ := canK_ex h
  rw [bldS_eq, bldE_eq] at h
  have h1 := bl h
  have h2 := bl (br h)
  refine ⟨_, _, n1, br (br h), fun B hΦ hg => ?_⟩
  rcases hΦ with hΦ | hΨ
  · exact g0 B hΦ (hg.to hc0 hp h1)
  · exact hb.go (fun e1 M1 nx1 h3 => hg.to hc0 hp h3) h2 hΨ
def Gz (W0 : World) (Q : Program) (n : Nat) (S : List (P × I)) (K : Kont) (c : Code) (ρc : Rho) (pc : P) (T : Int) (N : Nat) (e : En) (M : Mem) (nx : P) : Prop := ∀ m, N + 1 ≤ m → ∀ ρ env C (z : Int), Ext ρc ρ → ENR S ρ e env → MR W0 ρ M nx C → Eng.get env pc.num = some (true, .int .i64 z) → z ≤ T → T ≤ z + N → LoopG W0 Q n K c m env C
noncomputable def headB (qc : I) (ts : P) (j : Int) (e : En) (k : Int → Int → Bool) : Bool := e.getK qc fun vc => vc.onSy false fun q l h c => (q.eqb ts && eqZ c j) && k l h
theorem headB_true {qc : I} {ts : P} {j : Int} {e : En} {k : Int → Int → Bool} (h : headB qc ts j e k = true) : ∃ l h, e.get qc = .sy ts l h j ∧ k l h = true := by
  unfold headB at h
  rw [En.getK_eq] at h
  rcases VV.onSy_true h with h | ⟨q, l, hh, c, hv, h⟩
  · cases h
  · have e1 := P.eqb_eq.1 (bl (bl h))
    have e2 : c = j := of_decide_eq_true ((eqZ_eq _ _).symm.trans (br (bl h)))
    subst e1 e2
    exact ⟨l, hh, hv, br h⟩
noncomputable def cycB (s : Step) (call : Call) (k : K2) (qc : I) (ts : P) (T : Int) (chk : En → Mem → Bool) (r : Nat) : Int → En → Mem → P → Bool := Nat.rec (motive := fun _ => Int → En → Mem → P → Bool) (fun j e M nx => headB qc ts j e fun _ _ => chk e M)
  (fun _ ih j e M nx => headB qc ts j e fun l _ => (e.setK qc (.i T) fun e => s call e M nx fun ex e M nx => Ex.rec false (k .r e M nx) (fun id => k (.x id) e M nx) ex) &&
    forceZ (subZ (subZ T 1) j) fun h => e.setK qc (.sy ts l h j) fun e => s call e M nx fun ex e M nx => Ex.rec (forceZ (addZ j 1) fun j => ih j e M nx) false (fun _ => false) ex) r
theorem cyc_head {k : K2} {qc : I} {ts : P} {T : Int} {chk : En → Mem → Bool} : ∀ {r : Nat} {j : Int} {e : En} {M : Mem} {nx : P}, cycB s call k qc ts T chk r j e M nx = true → ∃ l h, e.get qc = .sy ts l h j
  | 0, j, e, M, nx, h => by
    obtain ⟨l, hh, h1, _⟩ := headB_true (k := fun _ _ => chk e M) h
    exact ⟨l, hh, h1⟩
  | r + 1, j, e, M, nx, h => by
    obtain ⟨l, hh, h1, _⟩ := headB_true h
    exact ⟨l, hh, h1⟩
theorem ENR.num {ρ : Rho} {e : En} {env : Env} {pc ts : P} {qc : I} {l h c : Int} (he : ENR S ρ e env) (hp : placeIn S pc = some qc) (hv : e.get qc = .sy ts l h c) : ∃ r s, ρ ts = some (r, s) ∧ l ≤ (r : Int) ∧ (r : Int) ≤ h ∧ Eng.get env pc.num = some (true, .int .i64 (r + c)) := by
  obtain ⟨u, h1, h2⟩ := (he pc qc hp).1 (by rw [hv]; rfl)
  rw [hv] at h2
  obtain ⟨r, s, k1, k2, k3, rfl⟩ := h2
  exact ⟨r, s, k1, k2, k3, h1⟩
theorem subZ_eq' (a b : Int) : subZ a b = a - b := subZ_eq a b
theorem cyc_ok (hs : StepOk W0 Q n S call c s) {k : K2} {qc : I} {ts pc : P} {T : Int} {chk : En → Mem → Bool} (hp : placeIn S pc = some qc) (hK : ∀ ex ve' M' nx' ρ' e' C', k ex ve' M' nx' = true → Ext ρc ρ' → ENR S ρ' ve' e' → MR W0 ρ' M' nx' C' → K ex.out e' C') :
    ∀ {r : Nat} {j : Int} {e : En} {M : Mem} {nx : P}, cycB s call k qc ts T chk r j e M nx = true → ∀ N, (∀ e' M' nx', chk e' M' = true → ∀ N', N' + r = N → Gz W0 Q n S K c ρc pc T N' e' M' nx') → Gz W0 Q n S K c ρc pc T N e M nx
  | 0, j, e, M, nx, h, N, hchk => by
    obtain ⟨l, hh, _, h1⟩ := headB_true (k := fun _ _ => chk e M) h
    exact hchk e M nx h1 N rfl
  | r + 1, j, e, M, nx, h, N, hchk => fun m hm ρ env C z hx he hM hz hzT hN => by
    obtain ⟨l, hh, hv, h1⟩ := headB_true h
    have hx1 := bl h1
    have hg1 := br h1
    rw [En.setK_eq] at hx1
    have hg1 : forceZ (subZ (subZ T 1) j) (fun h => e.setK qc (.sy ts l h j) fun e => s call e M nx fun ex e M nx => Ex.rec (forceZ (addZ j 1) fun j => cycB s call k qc ts T chk r j e M nx) false (fun _ => false) ex) = true := hg1
    rw [forceZ_eq, En.setK_eq, subZ_eq', subZ_eq'] at hg1
    obtain ⟨τ, s0, k1, k2, k3, k4⟩ := he.num hp hv
    rw [hz] at k4
    simp only [Option.some.injEq, Prod.mk.injEq, true_and, Value.int.injEq] at k4
    subst k4
    obtain ⟨m, rfl⟩ : ∃ m', m = m' + 1 := ⟨m - 1, by omega⟩
    by_cases hT : (τ : Int) + j = T
    · obtain ⟨ex, e1, M1, nx1, h2, _, hr⟩ := hs _ M nx _ hx1
      have he' : ENR S ρ (e.set qc (.i T)) env := he.tell (by rw [hv]; rfl) (fun h => by cases h) fun u hu => by
        rw [hv] at hu
        obtain ⟨r2, s2, g1, _, _, rfl⟩ := hu
        rw [k1] at g1
        cases g1
        show Value.int .i64 (_ + j) = .int .i64 T
        rw [hT]
      refine hr _ ρ env C he' hM fun ρ1 e2 C1 hx1 g1 g2 _ => ?_
      cases ex with
      | n => cases h2
      | r => exact hK .r e1 M1 nx1 ρ1 e2 C1 h2 (hx.trans hx1) g1 g2
      | x id => exact hK (.x id) e1 M1 nx1 ρ1 e2 C1 h2 (hx.trans hx1) g1 g2
    · obtain ⟨ex, e1, M1, nx1, h2, _, hr⟩ := hs _ M nx _ hg1
      have he' : ENR S ρ (e.set qc (.sy ts l (T - 1 - j) j)) env := he.tell (by rw [hv]; rfl) (fun h => by cases h) fun u hu => by
        rw [hv] at hu
        obtain ⟨r2, s2, g1, g2, _, rfl⟩ := hu
        rw [k1] at g1
        cases g1
        exact ⟨_, _, k1, g2, by omega, rfl⟩
      refine hr _ ρ env C he' hM fun ρ1 e2 C1 hx1 g1 g2 _ => ?_
      cases ex with
      | n =>
        have h2 : forceZ (addZ j 1) (fun j => cycB s call k qc ts T chk r j e1 M1 nx1) = true := h2
        rw [forceZ_eq, addZ_eq] at h2
        obtain ⟨l2, h3, hv2⟩ := cyc_head h2
        obtain ⟨τ2, s2, a1, _, _, a2⟩ := g1.num hp hv2
        rw [hx1 _ _ k1] at a1
        cases a1
        refine cyc_ok hs hp hK h2 (N - 1) (fun e' M' nx' hc N' hN' => hchk e' M' nx' hc N' (by omega)) m (by omega) ρ1 e2 C1 _ (hx.trans hx1) g1 g2 a2 (by omega) (by omega)
      | r => cases h2
      | x id => cases h2
noncomputable def endK (s : Step) (call : Call) (k : K2) (qc : I) (ts rt n0 : P) (keep : List I) (HI r : Nat) (e : En) (M : Mem) (nx : P) : Bool := canK qc ts rt keep HI e M fun EL L => bldS L .lf fun M' => bldE EL .nl fun e' => toK qc ts rt n0 nx EL L M' e M && (headB qc ts 0 e' (fun _ h => leZ h (.ofNat HI)) && cycB s call k qc ts (.ofNat HI) (fun e1 M1 => toK qc ts rt n0 nx EL L M' e1 M1) (Nat.succ r) 0 e' M' nx)
theorem end_ok (hs : StepOk W0 Q n S call c s) {k : K2} {qc : I} {ts rt n0 pc : P} {keep : List I} {HI r : Nat} (hc0 : ∀ b x, ρc b = some x → b.num < n0.num) (hp : placeIn S pc = some qc) (hK : ∀ ex ve' M' nx' ρ' e' C', k ex ve' M' nx' = true → Ext ρc ρ' → ENR S ρ' ve' e' → MR W0 ρ' M' nx' C' → K ex.out e' C')
    {e : En} {M : Mem} {nx : P} (h : endK s call k qc ts rt n0 keep HI r e M nx = true) : Gd W0 Q n S K c ρc (HI + 1) e M nx := by
  obtain ⟨EL, L, h⟩ := canK_ex h
  rw [bldS_eq, bldE_eq] at h
  have h1 := bl h
  obtain ⟨l, hh, hv, h2⟩ := headB_true (bl (br h))
  have h2 : hh ≤ (HI : Int) := of_decide_eq_true ((leZ_eq _ _).symm.trans h2)
  have h3 := br (br h)
  refine Gd.to hc0 ⟨pc, hp⟩ h1 ?_
  have key : ∀ N, Gz W0 Q n S K c ρc pc HI N (mkE EL .nl) (mkS L .lf) nx := fun N => by
    induction N using Nat.strongRecOn with
    | _ N ih =>
      refine cyc_ok hs hp hK h3 N fun e' M' nx' hc N' hN' m hm ρ env C z hx he hM hz hzT hN => ?_
      obtain ⟨l, hc⟩ := toK_ex hc
      obtain ⟨R, k1, k2, k3⟩ := chk_ok hc0 ⟨pc, hp⟩ hc hx hM he
      exact ih N' (by omega) m hm R env C z k1 k3 k2 hz hzT hN
  intro m hm ρ env C hx he hM
  obtain ⟨τ, s0, k1, k2, k3, k4⟩ := he.num hp hv
  exact key HI m hm ρ env C _ hx he hM k4 (by omega) (by omega)
end
end Den
set_option linter.unusedVariables false
namespace Den
open Go Eng
noncomputable def narV (q ql : P) (lo hi : Nat) (v : VV) (k : VV → Bool) : Bool := v.onTx (k v) fun l => List.rec (k v) (fun x r _ => List.rec (Bool.rec (k v) (k (.tx [(q, ql, lo, hi)])) (x.1.eqb q && x.2.1.eqb ql)) (fun _ _ _ => k v) r) l
def Sz (q ql : P) (lo hi : Nat) (ρ : Rho) : Prop := ∃ r s s', ρ q = some (r, s) ∧ ρ ql = some ((txt r).size, s') ∧ lo ≤ (txt r).size ∧ (txt r).size ≤ hi
theorem Sz.ext {q ql : P} {lo hi : Nat} {ρ ρ' : Rho} (h : Sz q ql lo hi ρ) (hx : Ext ρ ρ') : Sz q ql lo hi ρ' := by
  obtain ⟨r, s, s', h1, h2, h3⟩ := h
  exact ⟨r, s, s', hx _ _ h1, hx _ _ h2, h3⟩
theorem narV_true {q ql : P} {lo hi : Nat} {v : VV} {k : VV → Bool} (h : narV q ql lo hi v k = true) : ∃ w, k w = true ∧ Tel (Sz q ql lo hi) v w := by
  rcases VV.onTx_true h with h | ⟨l, rfl, h⟩
  · exact ⟨v, h, .inl rfl⟩
  · cases l with
    | nil => exact ⟨_, h, .inl rfl⟩
    | cons x r =>
      cases r with
      | cons y r => exact ⟨_, h, .inl rfl⟩
      | nil =>
        obtain ⟨q', ql', a, b⟩ := x
        have h : (Bool.rec (k (.tx [(q', ql', a, b)])) (k (.tx [(q, ql, lo, hi)])) (q'.eqb q && ql'.eqb ql) : Bool) = true := h
        cases hc : (q'.eqb q && ql'.eqb ql) with
        | false => rw [hc] at h; exact ⟨_, h, .inl rfl⟩
        | true =>
          rw [hc] at h
          have e1 := P.eqb_eq.1 (bl hc)
          have e2 := P.eqb_eq.1 (br hc)
          subst e1 e2
          refine ⟨_, h, .inr ⟨rfl, rfl, fun ρ u hS hu => ?_⟩⟩
          obtain ⟨c, h1, x, s, s', c', k1, k2, _, _, k5, k6⟩ := hu
          obtain ⟨y, s1, s2, g1, g2, g3, g4⟩ := hS
          rw [k1] at g1
          cases g1
          exact ⟨c, h1, _, s, s', c', k1, k2, g3, g4, k5, k6⟩
theorem Tels.setM {V : Rho → Prop} : ∀ {l : List VV} {n : Nat} {v w : VV}, l[n]? = some v → Tel V v w → Tels V l (l.set n w)
  | [], n, v, w, h, k => by simp at h
  | x :: l, 0, v, w, h, k => by
    simp only [List.getElem?_cons_zero, Option.some.injEq] at h
    subst h
    exact .cons k (Tels.refl l)
  | x :: l, n + 1, v, w, h, k => .cons (.inl rfl) (Tels.setM (by simpa using h) k)
noncomputable def narL (q ql : P) (lo hi : Nat) (l : List VV) : (List VV → Bool) → Bool := List.rec (motive := fun _ => (List VV → Bool) → Bool) (fun k => k []) (fun v _ ih k => narV q ql lo hi v fun v => ih fun r => k (v :: r)) l
theorem narL_true {q ql : P} {lo hi : Nat} : ∀ {l : List VV} {k : List VV → Bool}, narL q ql lo hi l k = true → ∃ m, k m = true ∧ Tels (Sz q ql lo hi) l m
  | [], k, h => ⟨[], h, .nil⟩
  | v :: l, k, h => by
    have h : (narV q ql lo hi v fun v => narL q ql lo hi l fun r => k (v :: r)) = true := h
    obtain ⟨w, h, h1⟩ := narV_true h
    obtain ⟨m, h, h2⟩ := narL_true h
    exact ⟨_, h, .cons h1 h2⟩
theorem TxR.snoc {ρ : Rho} {q ql : P} (hS : Sz q ql 0 0 ρ) : ∀ {l : Atoms} {b : ByteArray}, TxR ρ l b → TxR ρ (l ++ [(q, ql, 0, 64)]) b
  | [], b, h => by
    obtain ⟨r, s, s', k1, k2, k3, k4⟩ := hS
    have h : b = ByteArray.empty := h
    have e : txt r = ByteArray.empty := by
      have hd : (txt r).data = #[] := Array.eq_empty_of_size_eq_zero (by have : (txt r).data.size = (txt r).size := rfl; omega)
      cases ht : txt r with
      | mk d => rw [ht] at hd; simp only at hd; subst hd; rfl
    exact ⟨r, s, s', ByteArray.empty, k1, k2, Nat.zero_le _, by omega, by rw [h, e]; rfl, rfl⟩
  | (p, pl, lo, hi) :: l, b, h => by
    obtain ⟨x, s, s', c', k1, k2, k3, k4, k5, k6⟩ := h
    exact ⟨x, s, s', c', k1, k2, k3, k4, k5, TxR.snoc hS k6⟩
noncomputable def narO (q ql : P) (lo hi : Nat) (o : OB) (k : OB → Bool) : Bool := OB.rec (motive := fun _ => Bool) (k o) (fun t s l v => narL q ql lo hi l fun l => k (.cells t s l v)) (fun _ _ _ => k o) (fun _ _ => k o) (fun _ _ _ _ _ => k o) (fun _ _ _ _ => k o) (fun _ _ _ => k o) (fun _ _ _ => k o)
  (fun t sz q' s hs hc W => Bool.rec (k o) (Option.rec (k o) (fun w => appK w [(q, ql, 0, 64)] fun w => k (.rows t sz q' s hs hc (some w))) W) (Nat.beq hi 0)) o
theorem narO_true {q ql : P} {lo hi : Nat} {o : OB} {k : OB → Bool} (h : narO q ql lo hi o k = true) : ∃ o', k o' = true ∧ ∀ ρ, Sz q ql lo hi ρ → RO ρ o o' := by
  cases o with
  | cells t s l v =>
    obtain ⟨m, h1, h2⟩ := narL_true (l := l) (k := fun l => k (.cells t s l v)) h
    exact ⟨_, h1, fun ρ hS => .inr ⟨trivial, trivial, fun cap ro hr => (TelO.cells h2).obr hS hr⟩⟩
  | rows t sz q' s hs hc W =>
    cases W with
    | none =>
      have h : (Bool.rec (k (.rows t sz q' s hs hc none)) (k (.rows t sz q' s hs hc none)) (Nat.beq hi 0) : Bool) = true := h
      cases hb : Nat.beq hi 0 <;> rw [hb] at h <;> exact ⟨_, h, fun ρ _ => .refl _ _⟩
    | some w =>
      have h : (Bool.rec (k (.rows t sz q' s hs hc (some w))) (appK w [(q, ql, 0, 64)] fun w => k (.rows t sz q' s hs hc (some w))) (Nat.beq hi 0) : Bool) = true := h
      cases hb : Nat.beq hi 0 with
      | false => rw [hb] at h; exact ⟨_, h, fun ρ _ => .refl _ _⟩
      | true =>
        rw [hb] at h
        have hk : (appK w [(q, ql, 0, 64)] fun w => k (.rows t sz q' s hs hc (some w))) = true := h
        rw [appK_eq] at hk
        have hb := Nat.eq_of_beq_eq_true hb
        subst hb
        refine ⟨_, hk, fun ρ hS => .inr ⟨trivial, trivial, fun cap ro hr => ?_⟩⟩
        obtain ⟨n, s, us, rest, τ, s2, h1, g1, g2, g3, h2, h3, h4, h5, h6, h7, h8⟩ := hr
        refine ⟨n, s, us, rest, τ, s2, h1, g1, g2, g3, h2, h3, h4, h5, h6, h7, fun w' hw' => ?_⟩
        cases hw'
        obtain ⟨b, k1, k2⟩ := h8 w rfl
        obtain ⟨r, s3, s4, a1, a2, a3, a4⟩ := hS
        exact ⟨b, TxR.snoc ⟨r, s3, s4, a1, a2, Nat.zero_le _, a4⟩ k1, k2⟩
  | _ => exact ⟨_, h, fun ρ _ => .refl _ _⟩
noncomputable def narT (q ql : P) (lo hi : Nat) (M : Mem) : (Mem → Bool) → Bool := Tr.rec (motive := fun _ => (Mem → Bool) → Bool) (fun k => k .lf) (fun o _ _ _ _ a b c d k => narO q ql lo hi o fun o => a fun l => b fun m => c fun n => d fun r => k (.nd o l m n r)) M
theorem narT_true {q ql : P} {lo hi : Nat} : ∀ {M : Mem} {k : Mem → Bool}, narT q ql lo hi M k = true → ∃ M', k M' = true ∧ ∀ ρ, Sz q ql lo hi ρ → ∀ b, RO ρ (Mm.at M b) (Mm.at M' b) := by
  intro M
  induction M with
  | lf => exact fun {k} h => ⟨.lf, h, fun ρ _ b => .refl _ _⟩
  | nd o l m n r il im inn ir =>
    intro k h
    have h : (narO q ql lo hi o fun o => narT q ql lo hi l fun l => narT q ql lo hi m fun m => narT q ql lo hi n fun n => narT q ql lo hi r fun r => k (.nd o l m n r)) = true := h
    obtain ⟨o', h, h0⟩ := narO_true h
    obtain ⟨l', h, h1⟩ := il h
    obtain ⟨m', h, h2⟩ := im h
    obtain ⟨n', h, h3⟩ := inn h
    obtain ⟨r', h, h4⟩ := ir h
    refine ⟨_, h, fun ρ hS b => ?_⟩
    cases b with
    | z => exact h0 ρ hS
    | a b => exact h1 ρ hS b
    | b b => exact h2 ρ hS b
    | c b => exact h3 ρ hS b
    | d b => exact h4 ρ hS b
section
variable {W0 : World} {Q : Program} {n : Nat} {S : List (P × I)} {K : Kont} {c : Code} {ρc : Rho}
noncomputable def narB (q ql : P) (lo hi : Nat) : Br := fun k e M nx => narT q ql lo hi M fun M => k e M nx
theorem Pth.nar {q ql : P} {lo hi : Nat} : Pth W0 Q n S K c ρc (Sz q ql lo hi ρc) 0 (narB q ql lo hi) := fun k e M nx h => by
  obtain ⟨M', h, h1⟩ := narT_true (M := M) (k := fun M => k e M nx) h
  exact ⟨e, M', nx, h, fun B hS hg m hm ρ env C hx he hM => hg m hm ρ env C hx he (hM.re (h1 ρ (hS.ext hx)))⟩
noncomputable def tellZ (ts b : P) (j : Nat) (M : Mem) (k : Mem → Bool) : Bool := Tr.getK .dead M b fun o => o.onC fun t s l v => nthK l j fun x => x.onI fun z => eqZ z (.ofNat 0) && setLK j (.sy ts (.ofNat 0) (.ofNat 0) (.ofNat 0)) l fun l => Tr.setK .dead M b (.cells t s l v) k
def Z0 (ts : P) (ρ : Rho) : Prop := ∃ s, ρ ts = some (0, s)
theorem telZ (ts : P) : Tel (Z0 ts) (.i 0) (.sy ts (.ofNat 0) (.ofNat 0) (.ofNat 0)) := .inr ⟨rfl, rfl, fun ρ u ⟨s, h⟩ hu => ⟨0, s, h, by simp, by simp, by rw [show u = .int .i64 0 from hu]; rfl⟩⟩
theorem tellZ_true {ts b : P} {j : Nat} {M : Mem} {k : Mem → Bool} (h : tellZ ts b j M k = true) : ∃ M', k M' = true ∧ ∀ ρ, Z0 ts ρ → ∀ b', RO ρ (Mm.at M b') (Mm.at M' b') := by
  unfold tellZ at h
  rw [getM_eq] at h
  obtain ⟨t, s, l, v, hb, h⟩ := OB.onCM h
  obtain ⟨x, hx, h⟩ := nthK_true h
  obtain ⟨z, rfl, h⟩ := VV.onI_true h
  have hz : z = Int.ofNat 0 := of_decide_eq_true ((eqZ_eq _ _).symm.trans (bl h))
  have h := br h
  rw [setLK_eq, Tr.setK_eq] at h
  refine ⟨_, h, fun ρ hZ => RO.set ?_⟩
  rw [hb]
  exact .inr ⟨trivial, trivial, fun cap ro hr => (TelO.cells (Tels.setM hx (by rw [hz]; exact telZ ts))).obr hZ hr⟩
noncomputable def ptrK (M : Mem) (b : P) (j : Nat) (k : P → Nat → Bool) : Bool := Tr.getK .dead M b fun o => o.onC fun _ _ l _ => nthK l j fun x => x.onP k
theorem ptrK_true {M : Mem} {b : P} {j : Nat} {k : P → Nat → Bool} (h : ptrK M b j k = true) : ∃ b o, k b o = true := by
  unfold ptrK at h
  rw [getM_eq] at h
  obtain ⟨t, s, l, v, hb, h⟩ := OB.onCM h
  obtain ⟨x, hx, h⟩ := nthK_true h
  obtain ⟨b, o, _, h⟩ := VV.onP_true h
  exact ⟨b, o, h⟩
noncomputable def symB (qc qw : I) : Br := fun k e M ts => ts.succK fun nx => e.getK qc fun vc => vc.onI fun z => eqZ z (.ofNat 0) && e.getK qw fun vw => vw.onP fun b o => ptrK M b o fun bk ok => ptrK M bk (Nat.add ok 7) fun bw ow => ptrK M bk (Nat.add ok 9) fun bd od =>
  tellZ ts bk (Nat.add ok 1) M fun M => tellZ ts bw ow M fun M => tellZ ts bd (Nat.add od 1) M fun M => e.setK qc (.sy ts (.ofNat 0) (.ofNat 0) (.ofNat 0)) fun e => k e M nx
theorem Pth.sym {qc qw : I} : Pth W0 Q n S K c ρc True 0 (symB qc qw) := fun k e M ts h => by
  unfold symB at h
  rw [P.succK_eq, En.getK_eq] at h
  obtain ⟨z, hz, h⟩ := VV.onI_true h
  have hz0 : z = Int.ofNat 0 := of_decide_eq_true ((eqZ_eq _ _).symm.trans (bl h))
  have h := br h
  rw [En.getK_eq] at h
  obtain ⟨b, o, _, h⟩ := VV.onP_true h
  obtain ⟨bk, ok, h⟩ := ptrK_true h
  obtain ⟨bw, ow, h⟩ := ptrK_true h
  obtain ⟨bd, od, h⟩ := ptrK_true h
  obtain ⟨M1, h, h1⟩ := tellZ_true h
  obtain ⟨M2, h, h2⟩ := tellZ_true h
  obtain ⟨M3, h, h3⟩ := tellZ_true h
  rw [En.setK_eq] at h
  refine ⟨_, _, _, h, fun B _ hg m hm ρ env C hx he hM => ?_⟩
  have hx1 := hM.ext_put (0, 0)
  have hZ : Z0 ts (ρ.put ts (0, 0)) := ⟨0, Rho.put_self _ _ _⟩
  refine hg m hm _ env C (hx.trans hx1) ((he.ext hx1).tell (by rw [hz]; rfl) (fun h => by cases h) fun u hu => ?_) ((hM.sym (0, 0)).re fun b => ((h1 _ hZ b).trans (h2 _ hZ b)).trans (h3 _ hZ b))
  rw [hz, hz0] at hu
  exact (telZ ts).rl hZ hu
theorem telR {b q : P} {n : Nat} : Tel (fun ρ => ∃ s, ρ q = some (n, s)) (.slc b 0 n 0 false) (.lsl b q) := .inr ⟨rfl, rfl, fun ρ u ⟨s, h⟩ hu => by
  obtain ⟨r, m, cap, k1, k2, k3, _, k5⟩ := hu
  have k5 := k5 rfl
  exact ⟨r, m, n, s, k1, h, by omega, by rw [k2, show cap = m by omega]⟩⟩
theorem cells_rows {ρ : Rho} {cap : Nat} {ro : Obj} {t s n v HI τ s1 s2 : Nat} {q ts : P} {l : List VV} {W : Option Atoms} (h : ObR ρ cap (.cells t s l v) ro) (hl : l.length = n * s) (h1 : 1 ≤ n) (hs : 1 ≤ s) (hn : n ≤ 1000) (hq : ρ q = some (n, s1)) (ht : ρ ts = some (τ, s2)) (hτ : τ ≤ HI)
    (hW : ∀ us, Rls ρ l us → ∀ w, W = some w → ∃ b, TxR ρ w b ∧ Notes us b) : ObR ρ cap (.rows t s q ts HI 1000 W) ro := by
  obtain ⟨us, rest, rfl, k2, k3, k4⟩ := h
  obtain ⟨k5, k6⟩ := k4 (by omega)
  exact ⟨n, s1, us, rest, τ, s2, hq, ht, hτ, by omega, h1, rfl, by rw [k2.length, hl], k2.all_one k3, k5, k6, hW us k2⟩
noncomputable def notesK (n : Nat) : List VV → Atoms → (Atoms → Bool) → Bool := Nat.rec (motive := fun _ => List VV → Atoms → (Atoms → Bool) → Bool) (fun l w k => List.rec (k w) (fun _ _ _ => false) l) (fun _ ih l w k => takeK 11 l fun ys => dropK 11 l fun r => noteK ys w fun w => ih r w k) n
theorem notesK_true : ∀ {n : Nat} {l : List VV} {w : Atoms} {k : Atoms → Bool}, notesK n l w k = true → ∃ w', k w' = true ∧ l.length = n * 11 ∧ ∀ ρ usR us b, Rls ρ l usR → TxR ρ w b → Notes us b → ∃ b', TxR ρ w' b' ∧ Notes (us ++ usR) b'
  | 0, l, w, k, h => by
    cases l with
    | nil => exact ⟨w, h, rfl, fun ρ usR us b hr hw hn => ⟨b, hw, by rw [show usR = [] from hr, List.append_nil]; exact hn⟩⟩
    | cons => cases h
  | n + 1, l, w, k, h => by
    have h : (takeK 11 l fun ys => dropK 11 l fun r => noteK ys w fun w => notesK n r w k) = true := h
    rw [takeK_eq, dropK_eq] at h
    obtain ⟨w1, h, hl, h1⟩ := noteK_true h
    obtain ⟨w2, h, hl2, h2⟩ := notesK_true h
    refine ⟨w2, h, ?_, fun ρ usR us b hr hw hn => ?_⟩
    · rw [List.length_take] at hl
      rw [List.length_drop] at hl2
      omega
    · obtain ⟨b1, g1, g2⟩ := h1 ρ (usR.take 11) us b (hr.take 11) hw hn
      obtain ⟨b2, g3, g4⟩ := h2 ρ (usR.drop 11) _ b1 (hr.drop 11) g1 g2
      exact ⟨b2, g3, by rwa [List.append_assoc, List.take_append_drop] at g4⟩
noncomputable def sizeB (n c : Nat) (o : Nat) (kn : Bool) (s : Nat) (l : List VV) : Bool := ((Nat.beq o 0 && Nat.beq c 0) && eqBo kn false) && ((Nat.ble 1 n && Nat.ble 1 s) && (Nat.ble n 1000 && Nat.beq (lenN l) (Nat.mul n s)))
theorem sizeB_true {n c o s : Nat} {kn : Bool} {l : List VV} (h : sizeB n c o kn s l = true) : o = 0 ∧ c = 0 ∧ kn = false ∧ 1 ≤ n ∧ 1 ≤ s ∧ n ≤ 1000 ∧ l.length = n * s :=
  ⟨Nat.eq_of_beq_eq_true (bl (bl (bl h))), Nat.eq_of_beq_eq_true (br (bl (bl h))), recB (br (bl h)), Nat.le_of_ble_eq_true (bl (bl (br h))), Nat.le_of_ble_eq_true (br (bl (br h))), Nat.le_of_ble_eq_true (bl (br (br h))), by rw [← lenN_eq]; exact Nat.eq_of_beq_eq_true (br (br (br h)))⟩
noncomputable def atK (qc : I) (ts : P) (HI : Nat) (e : En) : Bool := e.getK qc fun vc => vc.onSy false fun q _ h _ => q.eqb ts && leZ h (.ofNat HI)
theorem atK_true {qc : I} {ts pc : P} {HI : Nat} {e : En} (h : atK qc ts HI e = true) (hp : placeIn S pc = some qc) {ρ : Rho} {env : Env} (he : ENR S ρ e env) : ∃ τ s, ρ ts = some (τ, s) ∧ τ ≤ HI := by
  unfold atK at h
  rw [En.getK_eq] at h
  rcases VV.onSy_true h with h | ⟨q, l, hh, c, hv, h⟩
  · cases h
  · have e1 := P.eqb_eq.1 (bl h)
    have e2 : hh ≤ Int.ofNat HI := of_decide_eq_true ((leZ_eq _ _).symm.trans (br h))
    subst e1
    obtain ⟨τ, s, k1, _, k3, _⟩ := he.num hp hv
    simp only [Int.ofNat_eq_natCast] at e2
    exact ⟨τ, s, k1, by omega⟩
noncomputable def rowE1 (qc ql : I) (ts : P) (HI : Nat) : Br := fun k e M nx => atK qc ts HI e && e.getK ql fun v => v.onSl false fun b o n c kn => Tr.getK .dead M b fun ob => ob.onC fun t s l _ => sizeB n c o kn s l && nx.succK fun nx' => Tr.setK .dead M b (.rows t s nx ts HI 1000 none) fun M => e.setK ql (.lsl b nx) fun e => k e M nx'
theorem Pth.rowE {qc ql : I} {ts pc : P} {HI : Nat} (hp : placeIn S pc = some qc) : Pth W0 Q n S K c ρc True 0 (rowE1 qc ql ts HI) := fun k e M nx h => by
  have ha := bl h
  have h := br h
  rw [En.getK_eq] at h
  rcases VV.onSl_true h with h | ⟨b, o, n, cc, kn, hv, h⟩
  · cases h
  rw [getM_eq] at h
  obtain ⟨t, s, l, v, hb, h⟩ := OB.onCM h
  obtain ⟨rfl, rfl, rfl, s1, s2, s3, s4⟩ := sizeB_true (bl h)
  have h := br h
  rw [P.succK_eq, Tr.setK_eq, En.setK_eq] at h
  refine ⟨_, _, _, h, fun B _ hg m hm ρ env C hx he hM => ?_⟩
  obtain ⟨τ, s5, t1, t2⟩ := atK_true ha hp he
  have hx1 := hM.ext_put (n, 0)
  have hq := Rho.put_self ρ nx (n, 0)
  refine hg m hm _ env C (hx.trans hx1) ((he.ext hx1).tell (by rw [hv]; rfl) (fun h => by cases h) fun u hu => ?_) ((hM.sym (n, 0)).re (RO.set ?_))
  · rw [hv] at hu
    exact (telR (b := b) (q := nx)).rl ⟨0, hq⟩ hu
  · rw [hb]
    exact .inr ⟨trivial, trivial, fun cap ro hr => cells_rows hr s4 s1 s2 s3 hq (hx1 _ _ t1) t2 fun us _ w hw => by cases hw⟩
noncomputable def rowN1 (qc qw : I) (ts : P) (HI : Nat) : Br := fun k e M nx => atK qc ts HI e && e.getK qw fun vw => vw.onP fun b o => ptrK M b o fun bk ok => Tr.getK .dead M bk fun obk => obk.onC fun t0 s0 l0 v0 => nthK l0 (Nat.add ok 11) fun v => v.onSl false fun b o n c kn =>
  setLK (Nat.add ok 11) (.lsl b nx) l0 fun l1 => Tr.setK .dead M bk (.cells t0 s0 l1 v0) fun M => Tr.getK .dead M b fun ob => ob.onC fun t s l _ => sizeB n c o kn s l && (Nat.beq s 11 && notesK n l [] fun w => nx.succK fun nx' => Tr.setK .dead M b (.rows t s nx ts HI 1000 (some w)) fun M => k e M nx')
theorem Pth.rowN {qc qw : I} {ts pc : P} {HI : Nat} (hp : placeIn S pc = some qc) : Pth W0 Q n S K c ρc True 0 (rowN1 qc qw ts HI) := fun k e M nx h => by
  have ha := bl h
  have h := br h
  rw [En.getK_eq] at h
  obtain ⟨b0, o0, _, h⟩ := VV.onP_true h
  obtain ⟨bk, ok, h⟩ := ptrK_true h
  rw [getM_eq] at h
  obtain ⟨t0, s0, l0, v0, hb0, h⟩ := OB.onCM h
  obtain ⟨v, hv, h⟩ := nthK_true h
  rcases VV.onSl_true h with h | ⟨b, o, n, cc, kn, hvv, h⟩
  · cases h
  rw [setLK_eq, Tr.setK_eq, getM_eq] at h
  obtain ⟨t, s, l, v1, hb, h⟩ := OB.onCM h
  have hsz := sizeB_true (bl h)
  obtain ⟨w, hk, _, hw⟩ := notesK_true (br (br h))
  rw [P.succK_eq, Tr.setK_eq] at hk
  obtain ⟨e1, e2, e3, s1, s2, s3, s4⟩ := hsz
  rw [hvv, e1, e2, e3] at hv
  refine ⟨_, _, _, hk, fun B _ hg m hm ρ env C hx he hM => ?_⟩
  obtain ⟨τ, s5, t1, t2⟩ := atK_true ha hp he
  have hx1 := hM.ext_put (n, 0)
  have hq := Rho.put_self ρ nx (n, 0)
  have r1 : ∀ b', RO (ρ.put nx (n, 0)) (Mm.at M b') (Mm.at (Tr.set .dead M bk (.cells t0 s0 (l0.set (ok + 11) (.lsl b nx)) v0)) b') := RO.set (by
    rw [hb0]
    exact .inr ⟨trivial, trivial, fun cap ro hr => (TelO.cells (Tels.setM hv telR)).obr (V := fun ρ => ∃ s, ρ nx = some (n, s)) ⟨0, hq⟩ hr⟩)
  refine hg m hm _ env C (hx.trans hx1) (he.ext hx1) ((hM.sym (n, 0)).re fun b' => (r1 b').trans (RO.set ?_ b'))
  rw [show Mm.at (Tr.set .dead M bk (.cells t0 s0 (l0.set (ok + 11) (.lsl b nx)) v0)) b = _ from hb]
  refine .inr ⟨trivial, trivial, fun cap ro hr => cells_rows hr s4 s1 s2 s3 hq (hx1 _ _ t1) t2 fun us hus w' hw' => ?_⟩
  cases hw'
  obtain ⟨b', g1, g2⟩ := hw _ us [] ByteArray.empty hus rfl .nil
  exact ⟨b', g1, by simpa using g2⟩
theorem StepP.merged {call : Call} {A : Rho → Prop} (hA : Stays A) {s : Step} {b : P → Br} {fin : (En → Mem → P → Bool) → P → En → Mem → P → Bool} {T : Nat}
    (h : ∀ {K : Kont} {ρc : Rho} {n0 : P} {k : KS}, A ρc → (∀ b x, ρc b = some x → b.num < n0.num) → (∀ ex ve' M' nx' ρ' e' C', k ex ve' M' nx' = true → Ext ρc ρ' → ENR S ρ' ve' e' → MR W0 ρ' M' nx' C' → K ex.out e' C') → ∀ e M, s call e M n0 k = true → Gd W0 Q n S K c ρc T e M n0)
    (hT : T ≤ 100000) : StepP W0 Q n S call A (.loop c) s := fun ve M nx k hk K ρ e C hρ he hM hK => by
  exact V.loopG (h hρ (fun b x hb => hM.old b x hb) (fun ex ve' M' nx' ρ' e' C' h1 h2 h3 h4 => hK ex ve' M' nx' ρ' e' C' h1 (hA ρ ρ' h2 hρ) h3 h4) ve M hk 100000 hT ρ e C (Ext.refl ρ) he hM)
end
end Den
