/-
  An interpreter: what its plain operations stand for. No conditions but those that each theorem names.
-/
import Derived.Test.YtfmjehkohlbebaaGreatDoorD1
set_option linter.unusedVariables false
namespace Den
open Go Eng
structure ERl (ρ : Rho) (ve : Tr VV) (e : Env) : Prop where
  on : ∀ p, (Tr.get .no ve p).ok = true → ∃ u, Eng.get e p.num = some (true, u) ∧ Rl ρ (Tr.get .no ve p) u
  off : ∀ p, Tr.get .no ve p = .off → ∃ u, Eng.get e p.num = some (false, u)
theorem ERl.ext {ρ ρ' : Rho} {ve : Tr VV} {e : Env} (h : ERl ρ ve e) (k : Ext ρ ρ') : ERl ρ' ve e :=
  ⟨fun p hp => by obtain ⟨u, h1, h2⟩ := h.on p hp; exact ⟨u, h1, Rl.ext k _ _ h2⟩, h.off⟩
theorem beq_self (n : Nat) : Nat.beq n n = true := by simp
theorem beq_ne {m n : Nat} (h : m ≠ n) : Nat.beq m n = false := by
  cases hb : Nat.beq m n with
  | false => rfl
  | true => exact absurd (Nat.eq_of_beq_eq_true hb) h
theorem ERl.set {ρ : Rho} {ve : Tr VV} {e : Env} (h : ERl ρ ve e) {p : P} {v : VV} {u : Value} (hv : Rl ρ v u) : ERl ρ (Tr.set .no ve p v) ((p.num, true, u) :: e) := by
  refine ⟨fun q hq => ?_, fun q hq => ?_⟩
  · by_cases hqp : q = p
    · subst hqp
      rw [Tr.get_set]
      exact ⟨u, by simp [Eng.get], hv⟩
    · rw [Tr.get_set_ne _ _ _ _ _ hqp] at hq ⊢
      obtain ⟨w, h1, h2⟩ := h.on q hq
      exact ⟨w, by simp only [Eng.get, beq_ne (fun e => hqp (P.num_inj e.symm)), cond_false]; exact h1, h2⟩
  · by_cases hqp : q = p
    · subst hqp
      rw [Tr.get_set] at hq
      rw [hq] at hv
      exact hv.elim
    · rw [Tr.get_set_ne _ _ _ _ _ hqp] at hq
      obtain ⟨w, h1⟩ := h.off q hq
      exact ⟨w, by simp only [Eng.get, beq_ne (fun e => hqp (P.num_inj e.symm)), cond_false]; exact h1⟩
theorem ERl.setOff {ρ : Rho} {ve : Tr VV} {e : Env} (h : ERl ρ ve e) {p : P} {u : Value} : ERl ρ (Tr.set .no ve p .off) ((p.num, false, u) :: e) := by
  refine ⟨fun q hq => ?_, fun q hq => ?_⟩
  · by_cases hqp : q = p
    · subst hqp
      rw [Tr.get_set] at hq
      cases hq
    · rw [Tr.get_set_ne _ _ _ _ _ hqp] at hq ⊢
      obtain ⟨w, h1, h2⟩ := h.on q hq
      exact ⟨w, by simp only [Eng.get, beq_ne (fun e => hqp (P.num_inj e.symm)), cond_false]; exact h1, h2⟩
  · by_cases hqp : q = p
    · subst hqp
      exact ⟨u, by simp [Eng.get]⟩
    · rw [Tr.get_set_ne _ _ _ _ _ hqp] at hq
      obtain ⟨w, h1⟩ := h.off q hq
      exact ⟨w, by simp only [Eng.get, beq_ne (fun e => hqp (P.num_inj e.symm)), cond_false]; exact h1⟩
inductive XR : X → Operand → Prop
  | t (p : P) : XR (.t p) (.tmp p.num)
  | c {v : VV} {u : Value} (h : ∀ ρ, Rl ρ v u) : XR (.c v) (.const u)
  | f (p : P) : XR (.c (.fn p [] [])) (.func p.num)
theorem XR.look {x : X} {o : Operand} {ρ : Rho} {ve : Tr VV} {e : Env} {v : VV} (h : XR x o) (he : ERl ρ ve e) (hv : x.get ve = v) (hok : v.ok = true) : ∃ u, Eng.look e o = some (true, u) ∧ Rl ρ v u := by
  subst hv
  cases h with
  | t p => exact he.on p hok
  | c h => exact ⟨_, rfl, h ρ⟩
  | f p => exact ⟨_, rfl, ⟨[], [], rfl, rfl, rfl⟩⟩
inductive XRs : List X → List Operand → Prop
  | nil : XRs [] []
  | cons {x o xs os} : XR x o → XRs xs os → XRs (x :: xs) (o :: os)
theorem xsK_true {ve : Tr VV} : ∀ {xs : List X} {k : List VV → Bool}, xsK ve xs k = true → ∃ vs, k vs = true ∧ xs.map (X.get ve) = vs ∧ ∀ v ∈ vs, v.ok = true
  | [], k, h => ⟨[], h, rfl, by simp⟩
  | x :: xs, k, h => by
    have h : (x.getK ve fun v => v.onAny (xsK ve xs fun r => k (v :: r))) = true := h
    rw [X.getK_eq] at h
    obtain ⟨h1, h2⟩ := VV.onAny_true h
    obtain ⟨vs, h3, h4, h5⟩ := xsK_true h2
    exact ⟨_, h3, by rw [List.map_cons, h4], by simpa using ⟨h1, h5⟩⟩
theorem XRs.looks {ρ : Rho} {ve : Tr VV} {e : Env} (he : ERl ρ ve e) : ∀ {xs : List X} {os : List Operand} {vs : List VV}, XRs xs os → xs.map (X.get ve) = vs → (∀ v ∈ vs, v.ok = true) →
    ∃ us, Rls ρ vs us ∧ os.map (Eng.look e) = us.map (fun u => some (true, u)) ∧ Looks e os us
  | _, _, vs, .nil, hv, _ => by subst hv; exact ⟨[], rfl, rfl, .nil⟩
  | _, _, vs, .cons (x := x) (xs := xs) h hs, hv, hok => by
    subst hv
    obtain ⟨u, h1, h2⟩ := h.look he rfl (hok _ (by simp))
    obtain ⟨us, h3, h4, h5⟩ := XRs.looks he hs rfl (fun v hv => hok v (by simp [hv]))
    exact ⟨u :: us, ⟨u, us, rfl, h2, h3⟩, by simp [h1, h4], .cons h1 h5⟩
section
variable {P : Program} {lk : Lk} {d : Option Nat} {ty : TypeId} {p : String} {af : Array Edge} {g : Option (Nat × Bool)}
theorem pure_kop {op : BinOp} {xt yt : TypeId} {x y : Operand} {k : IntKind} {a b z : Int} (hx : lk x = some (true, .int k a)) (hy : lk y = some (true, .int k b)) (hz : kopZ op k a b = some z) :
    PureL P lk ⟨d, .binOp op xt x y yt, ty, p, af, g⟩ (.int k z) := fun ρ ha w => by
  have h1 := ha x (by simp [Op.operands]) _ hx
  have h2 := ha y (by simp [Op.operands]) _ hy
  by_cases hr : op = .rem
  · subst hr
    simp only [kopZ] at hz
    by_cases hab : 0 ≤ a ∧ 1 ≤ b
    · rw [decide_eq_true hab] at hz
      simp only [cond_true, Option.some.injEq] at hz
      subst hz
      exact pure_rem hx hy hab ρ ha w
    · rw [decide_eq_false hab] at hz; cases hz
  refine exec_binOp (by rw [h1, h2]; exact run_eqGuard_int) ?_
  rw [h1, h2]
  cases op <;> simp only [kopZ, Option.some.injEq, reduceCtorEq, not_true_eq_false] at hz hr <;> subst hz <;> simp [binOp, Op.intArith, Op.intBits]
theorem pure_shf {op : BinOp} {xt yt : TypeId} {x y : Operand} {k k' : IntKind} {a b z : Int} (hx : lk x = some (true, .int k a)) (hy : lk y = some (true, .int k' b)) (hz : shfZ op k a b = some z) :
    PureL P lk ⟨d, .binOp op xt x y yt, ty, p, af, g⟩ (.int k z) := fun ρ ha w => by
  have h1 := ha x (by simp [Op.operands]) _ hx
  have h2 := ha y (by simp [Op.operands]) _ hy
  refine exec_binOp (by rw [h1, h2]; exact run_eqGuard_int) ?_
  rw [h1, h2]
  unfold shfZ at hz
  by_cases hb : b < 0
  · rw [decide_eq_true hb] at hz; cases hz
  · rw [decide_eq_false hb] at hz
    simp only [cond_false] at hz
    cases op <;> simp only [Option.some.injEq, reduceCtorEq] at hz <;> subst hz <;> simp [binOp, Op.shift, hb] <;> rfl
theorem pure_lenSN {T : Tab} (hT : TabOk P T) {x : Operand} {t el s b : Nat} {u : Value} {n : Nat} (ht : T.find t = some ⟨.slice el, s, b⟩) (hx : lk x = some (true, u)) (hu : ∃ a c, u = .slice a n c) :
    PureL P lk ⟨d, .call { callee := .builtin .len, args := [x].toArray, argTypes := [t].toArray }, ty, p, af, g⟩ (.int .i64 n) := by
  obtain ⟨a, c, rfl⟩ := hu
  exact pure_lenS hT ht hx
theorem pure_pickT {c a b : Operand} {v : Value} (hc : lk c = some (true, .bool true)) (ha' : lk a = some (true, v)) : PureL P lk ⟨d, .pick c a b, ty, p, af, g⟩ v := fun ρ ha w => by
  have h1 := ha c (by simp [Op.operands]) _ hc
  have h2 := ha a (by simp [Op.operands]) _ ha'
  simp [execOp, h1, h2, asBool]
theorem pure_pickF {c a b : Operand} {v : Value} (hc : lk c = some (true, .bool false)) (hb : lk b = some (true, v)) : PureL P lk ⟨d, .pick c a b, ty, p, af, g⟩ v := fun ρ ha w => by
  have h1 := ha c (by simp [Op.operands]) _ hc
  have h2 := ha b (by simp [Op.operands]) _ hb
  simp [execOp, h1, h2, asBool]
end
def offsFs (eq : Nat → Nat → Option (List (Nat × Tag))) (T : Tab) (sz base : Nat) : List (Nat × Nat) → Option (List (Nat × Tag))
  | [] => some []
  | (off, ft) :: r => match T.find ft with
    | some i => bif i.d.known && Nat.ble (off + i.size) sz && Nat.blt off sz then match eq ft (base + off), offsFs eq T sz base r with
        | some l, some m => some (l ++ m)
        | _, _ => none
      else none
    | none => none
def eqOffs (T : Tab) : Nat → Nat → Nat → Option (List (Nat × Tag))
  | 0, _, _ => none
  | f + 1, t, base => match T.find t with
    | some ⟨.int _, _, _⟩ => some [(base, .i)]
    | some ⟨.bool, _, _⟩ => some [(base, .b)]
    | some ⟨.str, _, _⟩ => some [(base, .s)]
    | some ⟨.struct l, sz, _⟩ => bif eqAt T 9 t then offsFs (eqOffs T f) T sz base l else none
    | _ => none
def CellEq : Tag → Value → Value → Bool → Prop
  | .i, u, w, c => ∃ m n, u = .int .i64 m ∧ w = .int .i64 n ∧ c = decide (m = n)
  | .b, u, w, c => ∃ m n, u = .bool m ∧ w = .bool n ∧ c = (m == n)
  | .s, u, w, c => ∃ m n, u = .string m ∧ w = .string n ∧ c = decide (m = n)
def CellsEq (us ws : List Value) : List (Nat × Tag) → Bool → Prop
  | [], c => c = true
  | (o, t) :: r, c => ∃ u w c1 c2, us[o]? = some u ∧ ws[o]? = some w ∧ CellEq t u w c1 ∧ CellsEq us ws r c2 ∧ c = (c1 && c2)
theorem CellsEq.split {us ws : List Value} : ∀ {l m : List (Nat × Tag)} {c : Bool}, CellsEq us ws (l ++ m) c → ∃ c1 c2, CellsEq us ws l c1 ∧ CellsEq us ws m c2 ∧ c = (c1 && c2)
  | [], m, c, h => ⟨true, c, rfl, h, rfl⟩
  | (o, t) :: l, m, c, h => by
    obtain ⟨u, w, c1, c2, h1, h2, h3, h4, rfl⟩ := h
    obtain ⟨d1, d2, h5, h6, rfl⟩ := CellsEq.split h4
    exact ⟨c1 && d1, d2, ⟨u, w, c1, d1, h1, h2, h3, h5, rfl⟩, h6, by rw [Bool.and_assoc]⟩
theorem fvL_in {i j : TyI} {us : List Value} {base off sz : Nat} {xs : List Value} (hx : xs = (us.drop base).take sz) (h1 : off + i.size ≤ sz) (h2 : off < sz) : fvL i off xs = fvL i (base + off) us := by
  subst hx
  unfold fvL
  cases i.d.agg with
  | true =>
    simp only [cond_true, List.drop_take, List.drop_drop, List.take_take]
    rw [Nat.min_eq_left (by omega)]
  | false => simp only [cond_false, List.getElem?_take, h2, if_true, List.getElem?_drop]
theorem eqFs_cells {T : Tab} {us ws xs ys : List Value} {sz base f : Nat} (hx : ∀ (i : TyI) (off : Nat), off + i.size ≤ sz → off < sz → fvL i off xs = fvL i (base + off) us) (hy : ∀ (i : TyI) (off : Nat), off + i.size ≤ sz → off < sz → fvL i off ys = fvL i (base + off) ws)
    (ih : ∀ t base cs c i a b K, eqOffs T f t base = some cs → CellsEq us ws cs c → T.find t = some i → fvL i base us = some a → fvL i base ws = some b → eqK T f t a b K = K c)
    (ih' : ∀ t base cs c i, eqOffs T f t base = some cs → CellsEq us ws cs c → T.find t = some i → i.d.known = true → ∃ a b, fvL i base us = some a ∧ fvL i base ws = some b) :
    ∀ (l : List (Nat × Nat)) (cs : List (Nat × Tag)) (c : Bool) (K : Bool → St), offsFs (eqOffs T f) T sz base l = some cs → CellsEq us ws cs c → eqFs (eqK T f) T xs ys l K = K c
  | [], cs, c, K, h, hc => by
    simp only [offsFs, Option.some.injEq] at h
    subst h
    cases hc
    rfl
  | (off, ft) :: r, cs, c, K, h, hc => by
    simp only [offsFs] at h
    cases hi : T.find ft with
    | none => rw [hi] at h; cases h
    | some i =>
      rw [hi] at h
      simp only at h
      cases hb : i.d.known && Nat.ble (off + i.size) sz && Nat.blt off sz with
      | false => rw [hb] at h; cases h
      | true =>
        rw [hb] at h
        simp only [cond_true] at h
        simp only [Bool.and_eq_true] at hb
        obtain ⟨⟨hk, hb1⟩, hb2⟩ := hb
        have hb1 := Nat.le_of_ble_eq_true hb1
        have hb2 : off < sz := Nat.blt_eq.mp hb2
        cases h1 : eqOffs T f ft (base + off) with
        | none => rw [h1] at h; cases h
        | some l1 =>
          cases h2 : offsFs (eqOffs T f) T sz base r with
          | none => rw [h1, h2] at h; cases h
          | some l2 =>
            rw [h1, h2] at h
            simp only [Option.some.injEq] at h
            subst h
            obtain ⟨c1, c2, h3, h4, rfl⟩ := hc.split
            obtain ⟨a, b, ha, hb⟩ := ih' _ _ _ _ _ h1 h3 hi hk
            have ha' : fvL i off xs = some a := by rw [hx i off hb1 hb2]; exact ha
            have hb' : fvL i off ys = some b := by rw [hy i off hb1 hb2]; exact hb
            simp only [eqFs, hi, hk, cond_true, ha', hb']
            rw [ih _ _ _ _ _ _ _ _ h1 h3 hi ha hb]
            cases r with
            | nil =>
              simp only [offsFs, Option.some.injEq] at h2
              subst h2
              cases h4
              simp
            | cons q r =>
              simp only
              exact eqFs_cells hx hy ih ih' (q :: r) l2 c2 (fun c' => K (c1 && c')) h2 h4
theorem eqK_lies {T : Tab} {us ws : List Value} : ∀ (f t base : Nat) (cs : List (Nat × Tag)) (c : Bool) (i : TyI), eqOffs T f t base = some cs → CellsEq us ws cs c → T.find t = some i → i.d.known = true → ∃ a b, fvL i base us = some a ∧ fvL i base ws = some b
  | 0, t, base, cs, c, i, h, _, _, _ => by cases h
  | f + 1, t, base, cs, c, i, h, hc, hi, hk => by
    obtain ⟨d, sz, bt⟩ := i
    simp only [eqOffs, hi] at h
    have scal : ∀ tag, d.agg = false → some [(base, tag)] = some cs → ∃ a b, fvL ⟨d, sz, bt⟩ base us = some a ∧ fvL ⟨d, sz, bt⟩ base ws = some b := by
      intro tag hag h
      simp only [Option.some.injEq] at h
      subst h
      obtain ⟨u, w, c1, c2, h1, h2, _⟩ := hc
      exact ⟨u, w, by simp [fvL, hag, h1], by simp [fvL, hag, h2]⟩
    cases d with
    | int k => exact scal _ rfl h
    | bool => exact scal _ rfl h
    | str => exact scal _ rfl h
    | struct l => exact ⟨_, _, rfl, rfl⟩
    | _ => cases h
theorem eqK_cells {T : Tab} {us ws : List Value} : ∀ (f t base : Nat) (cs : List (Nat × Tag)) (c : Bool) (i : TyI) (a b : Value) (K : Bool → St), eqOffs T f t base = some cs → CellsEq us ws cs c → T.find t = some i → fvL i base us = some a → fvL i base ws = some b → eqK T f t a b K = K c
  | 0, t, base, cs, c, i, a, b, K, h, _, _, _, _ => by cases h
  | f + 1, t, base, cs, c, i, a, b, K, h, hc, hi, ha, hb => by
    obtain ⟨d, sz, bt⟩ := i
    simp only [eqOffs, hi] at h
    have scal : ∀ tag, d.agg = false → some [(base, tag)] = some cs → CellEq tag a b c := by
      intro tag hag h
      simp only [Option.some.injEq] at h
      subst h
      obtain ⟨u, w, c1, c2, h1, h2, h3, h4, rfl⟩ := hc
      cases h4
      simp only [fvL, hag, cond_false, h1, Option.some.injEq] at ha
      simp only [fvL, hag, cond_false, h2, Option.some.injEq] at hb
      rw [← ha, ← hb, Bool.and_true]
      exact h3
    cases d with
    | int k =>
      obtain ⟨m, n, rfl, rfl, rfl⟩ := scal _ rfl h
      simp [eqK, hi, kEq]
    | bool =>
      obtain ⟨m, n, rfl, rfl, rfl⟩ := scal _ rfl h
      simp [eqK, hi]
    | str =>
      obtain ⟨m, n, rfl, rfl, rfl⟩ := scal _ rfl h
      simp [eqK, hi]
    | struct l =>
      cases hag : eqAt T 9 t with
      | false => simp only [hag] at h; cases h
      | true =>
        simp only [hag, cond_true] at h
        simp only [fvL, TyD.agg, cond_true, Option.some.injEq] at ha hb
        subst ha; subst hb
        simp only [eqK, hi, hag, cond_true]
        exact eqFs_cells (fun i off h1 h2 => fvL_in (j := i) rfl h1 h2) (fun i off h1 h2 => fvL_in (j := i) rfl h1 h2) (fun t base cs c i a b K h1 h2 h3 h4 h5 => eqK_cells f t base cs c i a b K h1 h2 h3 h4 h5) (fun t base cs c i h1 h2 h3 h4 => eqK_lies f t base cs c i h1 h2 h3 h4) l cs c K h hc
    | _ => cases h
theorem eqK_top {T : Tab} {us ws : List Value} {f t s b : Nat} {l : List (Nat × Nat)} {cs : List (Nat × Tag)} {c : Bool} {K : Bool → St} (h : eqOffs T (f + 1) t 0 = some cs) (hc : CellsEq us ws cs c) (hi : T.find t = some ⟨.struct l, s, b⟩) : eqK T (f + 1) t (.agg us.toArray) (.agg ws.toArray) K = K c := by
  simp only [eqOffs, hi] at h
  cases hag : eqAt T 9 t with
  | false => simp only [hag] at h; cases h
  | true =>
    simp only [hag, cond_true] at h
    simp only [eqK, hi, hag, cond_true]
    exact eqFs_cells (fun i off _ _ => by rw [Nat.zero_add]) (fun i off _ _ => by rw [Nat.zero_add]) (fun t base cs c i a b K h1 h2 h3 h4 h5 => eqK_cells f t base cs c i a b K h1 h2 h3 h4 h5) (fun t base cs c i h1 h2 h3 h4 => eqK_lies f t base cs c i h1 h2 h3 h4) l cs c K h hc
theorem str_inj {a b : List Nat} (ha : ∀ x ∈ a, x < 256) (hb : ∀ x ∈ b, x < 256) : bytesOf a = bytesOf b ↔ a = b := by
  constructor
  · intro h
    have h1 : a.map UInt8.ofNat = b.map UInt8.ofNat := by
      have := congrArg (fun x : ByteArray => x.data.toList) h
      simpa [bytesOf] using this
    have key : ∀ {l m : List Nat}, (∀ x ∈ l, x < 256) → (∀ x ∈ m, x < 256) → l.map UInt8.ofNat = m.map UInt8.ofNat → l = m := by
      intro l
      induction l with
      | nil => intro m _ _ h; cases m <;> simp at h ⊢
      | cons x l ih =>
        intro m hl hm h
        cases m with
        | nil => simp at h
        | cons y m =>
          simp only [List.map_cons, List.cons.injEq] at h
          have h2 := congrArg UInt8.toNat h.1
          have hx := hl x (by simp)
          have hy := hm y (by simp)
          simp only [UInt8.toNat_ofNat'] at h2
          rw [Nat.mod_eq_of_lt hx, Nat.mod_eq_of_lt hy] at h2
          rw [h2, ih (fun z hz => hl z (by simp [hz])) (fun z hz => hm z (by simp [hz])) h.2]
    exact key ha hb h1
  · intro h; rw [h]
def Nm (v : VV) : Prop := (∃ n, v = .i n) ∨ ∃ q lo hi c, v = .sy q lo hi c
theorem Nm.ok {v : VV} (h : Nm v) : v.ok = true := by rcases h with ⟨n, rfl⟩ | ⟨q, lo, hi, c, rfl⟩ <;> rfl
theorem dec3_true {t f : Bool} {k : Bool → Bool} (h : dec3 t f k = true) : (t = true ∧ k true = true) ∨ (f = true ∧ k false = true) := by
  cases t with
  | true => exact .inl ⟨rfl, h⟩
  | false => cases f with
    | true => exact .inr ⟨rfl, h⟩
    | false => cases h
theorem orB_true {a b : Bool} (h : orB a b = true) : a = true ∨ b = true := by
  cases a with
  | true => exact .inl rfl
  | false => exact .inr h
theorem eqb_rec {q q' : P} {b : Bool} (h : (Bool.rec false b (q.eqb q') : Bool) = true) : q = q' ∧ b = true := by
  obtain ⟨h1, h2⟩ := brec_true h
  exact ⟨P.eqb_eq.1 h1, h2⟩
theorem ltY_true {x y : VV} {k : Bool → Bool} (h : ltY x y k = true) : ∃ c, (Nm x ∧ Nm y ∧ k c = true) ∧ ∀ ρ u w, Rl ρ x u → Rl ρ y w → ∃ m n, u = .int .i64 m ∧ w = .int .i64 n ∧ c = decide (m < n) := by
  rcases VV.onY_true h with ⟨a, rfl, g1⟩ | ⟨q, lo, hi, c, rfl, g1⟩
  · rcases VV.onY_true g1 with ⟨b, rfl, g2⟩ | ⟨q, lo, hi, c, rfl, g2⟩
    · exact ⟨_, ⟨.inl ⟨_, rfl⟩, .inl ⟨_, rfl⟩, g2⟩, fun ρ u w hu hw => ⟨a, b, hu, hw, ltZ_eq a b⟩⟩
    · rcases dec3_true g2 with ⟨h1, h⟩ | ⟨h1, h⟩
      · rw [ltZ_eq, addZ_eq, decide_eq_true_eq] at h1
        refine ⟨_, ⟨.inl ⟨_, rfl⟩, .inr ⟨_, _, _, _, rfl⟩, h⟩, fun ρ u w hu hw => ?_⟩
        obtain ⟨r, s, _, h2, h3, rfl⟩ := hw
        exact ⟨a, r + c, hu, rfl, by rw [eq_comm, decide_eq_true_eq]; omega⟩
      · rw [leZ_eq, addZ_eq, decide_eq_true_eq] at h1
        refine ⟨_, ⟨.inl ⟨_, rfl⟩, .inr ⟨_, _, _, _, rfl⟩, h⟩, fun ρ u w hu hw => ?_⟩
        obtain ⟨r, s, _, h2, h3, rfl⟩ := hw
        exact ⟨a, r + c, hu, rfl, by rw [eq_comm, decide_eq_false_iff_not]; omega⟩
  · rcases VV.onY_true g1 with ⟨b, rfl, g2⟩ | ⟨q', lo', hi', c', rfl, g2⟩
    · rcases dec3_true g2 with ⟨h1, h⟩ | ⟨h1, h⟩
      · rw [ltZ_eq, addZ_eq, decide_eq_true_eq] at h1
        refine ⟨_, ⟨.inr ⟨_, _, _, _, rfl⟩, .inl ⟨_, rfl⟩, h⟩, fun ρ u w hu hw => ?_⟩
        obtain ⟨r, s, _, h2, h3, rfl⟩ := hu
        exact ⟨r + c, b, rfl, hw, by rw [eq_comm, decide_eq_true_eq]; omega⟩
      · rw [leZ_eq, addZ_eq, decide_eq_true_eq] at h1
        refine ⟨_, ⟨.inr ⟨_, _, _, _, rfl⟩, .inl ⟨_, rfl⟩, h⟩, fun ρ u w hu hw => ?_⟩
        obtain ⟨r, s, _, h2, h3, rfl⟩ := hu
        exact ⟨r + c, b, rfl, hw, by rw [eq_comm, decide_eq_false_iff_not]; omega⟩
    · obtain ⟨hq, g3⟩ := eqb_rec g2
      subst hq
      refine ⟨_, ⟨.inr ⟨_, _, _, _, rfl⟩, .inr ⟨_, _, _, _, rfl⟩, g3⟩, fun ρ u w hu hw => ?_⟩
      obtain ⟨r, s, h0, h2, h3, rfl⟩ := hu
      obtain ⟨r', s', h0', h2', h3', rfl⟩ := hw
      rw [h0] at h0'
      cases h0'
      exact ⟨r + c, r + c', rfl, rfl, by rw [ltZ_eq, decide_eq_decide]; omega⟩
theorem leY_true {x y : VV} {k : Bool → Bool} (h : leY x y k = true) : ∃ c, (Nm x ∧ Nm y ∧ k c = true) ∧ ∀ ρ u w, Rl ρ x u → Rl ρ y w → ∃ m n, u = .int .i64 m ∧ w = .int .i64 n ∧ c = decide (m ≤ n) := by
  rcases VV.onY_true h with ⟨a, rfl, g1⟩ | ⟨q, lo, hi, c, rfl, g1⟩
  · rcases VV.onY_true g1 with ⟨b, rfl, g2⟩ | ⟨q, lo, hi, c, rfl, g2⟩
    · exact ⟨_, ⟨.inl ⟨_, rfl⟩, .inl ⟨_, rfl⟩, g2⟩, fun ρ u w hu hw => ⟨a, b, hu, hw, leZ_eq a b⟩⟩
    · rcases dec3_true g2 with ⟨h1, h⟩ | ⟨h1, h⟩
      · rw [leZ_eq, addZ_eq, decide_eq_true_eq] at h1
        refine ⟨_, ⟨.inl ⟨_, rfl⟩, .inr ⟨_, _, _, _, rfl⟩, h⟩, fun ρ u w hu hw => ?_⟩
        obtain ⟨r, s, _, h2, h3, rfl⟩ := hw
        exact ⟨a, r + c, hu, rfl, by rw [eq_comm, decide_eq_true_eq]; omega⟩
      · rw [ltZ_eq, addZ_eq, decide_eq_true_eq] at h1
        refine ⟨_, ⟨.inl ⟨_, rfl⟩, .inr ⟨_, _, _, _, rfl⟩, h⟩, fun ρ u w hu hw => ?_⟩
        obtain ⟨r, s, _, h2, h3, rfl⟩ := hw
        exact ⟨a, r + c, hu, rfl, by rw [eq_comm, decide_eq_false_iff_not]; omega⟩
  · rcases VV.onY_true g1 with ⟨b, rfl, g2⟩ | ⟨q', lo', hi', c', rfl, g2⟩
    · rcases dec3_true g2 with ⟨h1, h⟩ | ⟨h1, h⟩
      · rw [leZ_eq, addZ_eq, decide_eq_true_eq] at h1
        refine ⟨_, ⟨.inr ⟨_, _, _, _, rfl⟩, .inl ⟨_, rfl⟩, h⟩, fun ρ u w hu hw => ?_⟩
        obtain ⟨r, s, _, h2, h3, rfl⟩ := hu
        exact ⟨r + c, b, rfl, hw, by rw [eq_comm, decide_eq_true_eq]; omega⟩
      · rw [ltZ_eq, addZ_eq, decide_eq_true_eq] at h1
        refine ⟨_, ⟨.inr ⟨_, _, _, _, rfl⟩, .inl ⟨_, rfl⟩, h⟩, fun ρ u w hu hw => ?_⟩
        obtain ⟨r, s, _, h2, h3, rfl⟩ := hu
        exact ⟨r + c, b, rfl, hw, by rw [eq_comm, decide_eq_false_iff_not]; omega⟩
    · obtain ⟨hq, g3⟩ := eqb_rec g2
      subst hq
      refine ⟨_, ⟨.inr ⟨_, _, _, _, rfl⟩, .inr ⟨_, _, _, _, rfl⟩, g3⟩, fun ρ u w hu hw => ?_⟩
      obtain ⟨r, s, h0, h2, h3, rfl⟩ := hu
      obtain ⟨r', s', h0', h2', h3', rfl⟩ := hw
      rw [h0] at h0'
      cases h0'
      exact ⟨r + c, r + c', rfl, rfl, by rw [leZ_eq, decide_eq_decide]; omega⟩
theorem eqY_true {x y : VV} {k : Bool → Bool} (h : eqY x y k = true) : ∃ c, (Nm x ∧ Nm y ∧ k c = true) ∧ ∀ ρ u w, Rl ρ x u → Rl ρ y w → ∃ m n, u = .int .i64 m ∧ w = .int .i64 n ∧ c = decide (m = n) := by
  rcases VV.onY_true h with ⟨a, rfl, g1⟩ | ⟨q, lo, hi, c, rfl, g1⟩
  · rcases VV.onY_true g1 with ⟨b, rfl, g2⟩ | ⟨q, lo, hi, c, rfl, g2⟩
    · exact ⟨_, ⟨.inl ⟨_, rfl⟩, .inl ⟨_, rfl⟩, g2⟩, fun ρ u w hu hw => ⟨a, b, hu, hw, eqZ_eq a b⟩⟩
    · rcases dec3_true g2 with ⟨h1, h⟩ | ⟨h1, h⟩
      · cases h1
      · have h1 := orB_true h1
        rw [ltZ_eq, ltZ_eq, addZ_eq, addZ_eq, decide_eq_true_eq, decide_eq_true_eq] at h1
        refine ⟨_, ⟨.inl ⟨_, rfl⟩, .inr ⟨_, _, _, _, rfl⟩, h⟩, fun ρ u w hu hw => ?_⟩
        obtain ⟨r, s, _, h2, h3, rfl⟩ := hw
        exact ⟨a, r + c, hu, rfl, by rw [eq_comm, decide_eq_false_iff_not]; omega⟩
  · rcases VV.onY_true g1 with ⟨b, rfl, g2⟩ | ⟨q', lo', hi', c', rfl, g2⟩
    · rcases dec3_true g2 with ⟨h1, h⟩ | ⟨h1, h⟩
      · cases h1
      · have h1 := orB_true h1
        rw [ltZ_eq, ltZ_eq, addZ_eq, addZ_eq, decide_eq_true_eq, decide_eq_true_eq] at h1
        refine ⟨_, ⟨.inr ⟨_, _, _, _, rfl⟩, .inl ⟨_, rfl⟩, h⟩, fun ρ u w hu hw => ?_⟩
        obtain ⟨r, s, _, h2, h3, rfl⟩ := hu
        exact ⟨r + c, b, rfl, hw, by rw [eq_comm, decide_eq_false_iff_not]; omega⟩
    · obtain ⟨hq, g3⟩ := eqb_rec g2
      subst hq
      refine ⟨_, ⟨.inr ⟨_, _, _, _, rfl⟩, .inr ⟨_, _, _, _, rfl⟩, g3⟩, fun ρ u w hu hw => ?_⟩
      obtain ⟨r, s, h0, h2, h3, rfl⟩ := hu
      obtain ⟨r', s', h0', h2', h3', rfl⟩ := hw
      rw [h0] at h0'
      cases h0'
      exact ⟨r + c, r + c', rfl, rfl, by rw [eqZ_eq, decide_eq_decide]; omega⟩
theorem boolK_true' {b : Bool} {k : VV → Bool} (h : boolK b k = true) : k (.bool b) = true := by rwa [boolK_eq] at h
theorem v_lt_true {x y : VV} {k : VV → Bool} (h : v_lt x y k = true) : ∃ c, (x.ok = true ∧ y.ok = true ∧ k (.bool c) = true) ∧ ∀ ρ u w, Rl ρ x u → Rl ρ y w → ∃ m n, u = .int .i64 m ∧ w = .int .i64 n ∧ c = decide (m < n) := by
  rcases VV.onGt_true h with h | ⟨q, p, lo, hi, c, rfl, h⟩
  · obtain ⟨c, ⟨h1, h2, h⟩, h3⟩ := ltY_true h
    exact ⟨c, ⟨h1.ok, h2.ok, boolK_true' h⟩, h3⟩
  · rcases VV.onSy_true h with g | ⟨q', lo', hi', c', rfl, g⟩
    · cases g
    obtain ⟨hq, g2⟩ := eqb_rec g
    obtain ⟨hc, g3⟩ := brec_true g2
    subst hq
    rw [leZ_eq, decide_eq_true_eq] at hc
    refine ⟨false, ⟨rfl, rfl, g3⟩, fun ρ u w hu hw => ?_⟩
    obtain ⟨r, s, r', s', h1, h2, h3, _, _, rfl⟩ := hu
    obtain ⟨r2, s2, h4, _, _, rfl⟩ := hw
    rw [h2] at h4
    cases h4
    exact ⟨_, _, rfl, rfl, by rw [eq_comm, decide_eq_false_iff_not]; omega⟩
theorem v_eq_true {x y : VV} {k : VV → Bool} (h : v_eq x y k = true) : ∃ c, (x.ok = true ∧ y.ok = true ∧ k (.bool c) = true) ∧ ∀ ρ u w, Rl ρ x u → Rl ρ y w → ∃ m n, u = .int .i64 m ∧ w = .int .i64 n ∧ c = decide (m = n) := by
  rcases VV.onGt_true h with h | ⟨q, p, lo, hi, c, rfl, h⟩
  · obtain ⟨c, ⟨h1, h2, h⟩, h3⟩ := eqY_true h
    exact ⟨c, ⟨h1.ok, h2.ok, boolK_true' h⟩, h3⟩
  · rcases VV.onSy_true h with g | ⟨q', lo', hi', c', rfl, g⟩
    · cases g
    obtain ⟨hq, g2⟩ := eqb_rec g
    obtain ⟨hc, g3⟩ := brec_true g2
    subst hq
    rw [leZ_eq, decide_eq_true_eq] at hc
    refine ⟨false, ⟨rfl, rfl, g3⟩, fun ρ u w hu hw => ?_⟩
    obtain ⟨r, s, r', s', h1, h2, h3, _, _, rfl⟩ := hw
    obtain ⟨r2, s2, h4, _, _, rfl⟩ := hu
    rw [h2] at h4
    cases h4
    exact ⟨_, _, rfl, rfl, by rw [eq_comm, decide_eq_false_iff_not]; omega⟩
theorem fitK_true' {z : Int} {k : VV → Bool} (h : fitK z k = true) : fits .i64 z ∧ k (.i z) = true := by
  rw [fitK_eq, fitZ_eq] at h
  by_cases hz : -9223372036854775808 ≤ z ∧ z ≤ 9223372036854775807
  · rw [decide_eq_true hz] at h; exact ⟨hz, h⟩
  · rw [decide_eq_false hz] at h; cases h
theorem symK_true {q : P} {lo hi c : Int} {k : VV → Bool} (h : symK q lo hi c k = true) : (-9223372036854775808 ≤ lo + c ∧ hi + c ≤ 9223372036854775807) ∧ k (.sy q lo hi c) = true := by
  unfold symK at h
  rw [forceZ_eq] at h
  obtain ⟨h1, h⟩ := brec_true h
  obtain ⟨h2, h⟩ := brec_true h
  rw [leZ_eq, addZ_eq, decide_eq_true_eq] at h1 h2
  exact ⟨⟨h1, h2⟩, h⟩
theorem v_add_true {x y : VV} {k : VV → Bool} (h : v_add x y k = true) : ∃ v, (Nm x ∧ Nm y ∧ k v = true) ∧ ∀ ρ u w, Rl ρ x u → Rl ρ y w → ∃ m n z, u = .int .i64 m ∧ w = .int .i64 n ∧ z = m + n ∧ fits .i64 z ∧ Rl ρ v (.int .i64 z) := by
  rcases VV.onY_true h with ⟨a, rfl, g1⟩ | ⟨q, lo, hi, c, rfl, g1⟩
  · rcases VV.onY_true g1 with ⟨b, rfl, g2⟩ | ⟨q, lo, hi, c, rfl, g2⟩
    · obtain ⟨h1, h⟩ := fitK_true' g2
      exact ⟨_, ⟨.inl ⟨_, rfl⟩, .inl ⟨_, rfl⟩, h⟩, fun ρ u w hu hw => ⟨a, b, _, hu, hw, addZ_eq a b, h1, rfl⟩⟩
    · obtain ⟨h1, h⟩ := symK_true g2
      refine ⟨_, ⟨.inl ⟨_, rfl⟩, .inr ⟨_, _, _, _, rfl⟩, h⟩, fun ρ u w hu hw => ?_⟩
      obtain ⟨r, s, h0, h2, h3, rfl⟩ := hw
      rw [addZ_eq] at h1 ⊢
      exact ⟨a, r + c, a + (r + c), hu, rfl, rfl, ⟨by omega, by omega⟩, r, s, h0, h2, h3, by congr 1; omega⟩
  · rcases VV.onY_true g1 with ⟨b, rfl, g2⟩ | ⟨q', lo', hi', c', rfl, g2⟩
    · obtain ⟨h1, h⟩ := symK_true g2
      refine ⟨_, ⟨.inr ⟨_, _, _, _, rfl⟩, .inl ⟨_, rfl⟩, h⟩, fun ρ u w hu hw => ?_⟩
      obtain ⟨r, s, h0, h2, h3, rfl⟩ := hu
      rw [addZ_eq] at h1 ⊢
      exact ⟨r + c, b, r + c + b, rfl, hw, rfl, ⟨by omega, by omega⟩, r, s, h0, h2, h3, by congr 1; omega⟩
    · cases g2
theorem v_sub_true {x y : VV} {k : VV → Bool} (h : v_sub x y k = true) : ∃ v, (Nm x ∧ Nm y ∧ k v = true) ∧ ∀ ρ u w, Rl ρ x u → Rl ρ y w → ∃ m n z, u = .int .i64 m ∧ w = .int .i64 n ∧ z = m - n ∧ fits .i64 z ∧ Rl ρ v (.int .i64 z) := by
  rcases VV.onY_true h with ⟨a, rfl, g1⟩ | ⟨q, lo, hi, c, rfl, g1⟩
  · rcases VV.onY_true g1 with ⟨b, rfl, g2⟩ | ⟨q, lo, hi, c, rfl, g2⟩
    · obtain ⟨h1, h⟩ := fitK_true' g2
      exact ⟨_, ⟨.inl ⟨_, rfl⟩, .inl ⟨_, rfl⟩, h⟩, fun ρ u w hu hw => ⟨a, b, _, hu, hw, subZ_eq a b, h1, rfl⟩⟩
    · cases g2
  · rcases VV.onY_true g1 with ⟨b, rfl, g2⟩ | ⟨q', lo', hi', c', rfl, g2⟩
    · obtain ⟨h1, h⟩ := symK_true g2
      refine ⟨_, ⟨.inr ⟨_, _, _, _, rfl⟩, .inl ⟨_, rfl⟩, h⟩, fun ρ u w hu hw => ?_⟩
      obtain ⟨r, s, h0, h2, h3, rfl⟩ := hu
      rw [subZ_eq] at h1 ⊢
      exact ⟨r + c, b, r + c - b, rfl, hw, rfl, ⟨by omega, by omega⟩, r, s, h0, h2, h3, by congr 1; omega⟩
    · obtain ⟨hq, g3⟩ := eqb_rec g2
      subst hq
      obtain ⟨h1, h⟩ := fitK_true' g3
      refine ⟨_, ⟨.inr ⟨_, _, _, _, rfl⟩, .inr ⟨_, _, _, _, rfl⟩, h⟩, fun ρ u w hu hw => ?_⟩
      obtain ⟨r, s, h0, h2, h3, rfl⟩ := hu
      obtain ⟨r', s', h0', h2', h3', rfl⟩ := hw
      rw [h0] at h0'
      cases h0'
      exact ⟨r + c, r + c', _, rfl, rfl, by rw [subZ_eq]; omega, h1, rfl⟩
theorem eqTx_ok {ρ : Rho} : ∀ {l m : List (P × P × Nat × Nat)}, eqTx l m = true → ∀ {b b' : ByteArray}, TxR ρ l b → TxR ρ m b' → b = b'
  | [], [], _, b, b', h, h' => h.trans h'.symm
  | (q, ql, lo, hi) :: l, (p, pl, lo', hi') :: m, hq, b, b', h, h' => by
    have hq : (q.eqb p && eqTx l m) = true := hq
    rw [Bool.and_eq_true] at hq
    obtain ⟨h1, h2⟩ := hq
    have h1 := P.eqb_eq.1 h1
    subst h1
    obtain ⟨r, s, s', c, g1, _, _, _, g2, g3⟩ := h
    obtain ⟨r', t, t', c', g4, _, _, _, g5, g6⟩ := h'
    rw [g1] at g4
    cases g4
    rw [g2, g5, eqTx_ok h2 g3 g6]
  | [], _ :: _, h, _, _, _, _ => by cases h
  | _ :: _, [], h, _, _, _, _ => by cases h
theorem sumHi_le {ρ : Rho} : ∀ {l : List (P × P × Nat × Nat)} {b : ByteArray}, TxR ρ l b → b.size ≤ sumHi l
  | [], b, h => by have h : b = ByteArray.empty := h; subst h; exact Nat.zero_le _
  | (q, ql, lo, hi) :: l, b, h => by
    obtain ⟨r, s, s', c, _, _, _, h4, rfl, h6⟩ := h
    have := sumHi_le h6
    show (txt r ++ c).size ≤ hi + sumHi l
    rw [ByteArray.size_append]
    omega
theorem TxR.append {ρ : Rho} : ∀ {l m : List (P × P × Nat × Nat)} {b c : ByteArray}, TxR ρ l b → TxR ρ m c → TxR ρ (l ++ m) (b ++ c)
  | [], m, b, c, h, k => by have h : b = ByteArray.empty := h; subst h; simpa using k
  | (q, ql, lo, hi) :: l, m, b, c, h, k => by
    obtain ⟨r, s, s', d, h1, h2, h3, h4, rfl, h6⟩ := h
    exact ⟨r, s, s', d ++ c, h1, h2, h3, h4, by rw [ByteArray.append_assoc], TxR.append h6 k⟩
theorem atomK_true {l : List (P × P × Nat × Nat)} {k : P → P → Nat → Nat → Bool} (h : atomK l k = true) : ∃ q ql lo hi, l = [(q, ql, lo, hi)] ∧ k q ql lo hi = true := by
  unfold atomK at h
  split at h
  · exact ⟨_, _, _, _, rfl, h⟩
  · cases h
theorem nilB_true {α : Type} {l : List α} (h : nilB l = true) : l = [] := by cases l <;> first | rfl | cases h
theorem TxR.one {ρ : Rho} {q ql : P} {lo hi : Nat} {b : ByteArray} (h : TxR ρ [(q, ql, lo, hi)] b) : ∃ r s s', ρ q = some (r, s) ∧ ρ ql = some (b.size, s') ∧ b = txt r ∧ lo ≤ b.size ∧ b.size ≤ hi := by
  obtain ⟨r, s, s', c, h1, h2, h3, h4, rfl, h6⟩ := h
  have h6 : c = ByteArray.empty := h6
  subst h6
  rw [ByteArray.append_empty] at *
  exact ⟨r, s, s', h1, h2, rfl, h3, h4⟩
theorem cellK_true {t : Tag} {v w : VV} {K : Bool → Bool} (h : cellK t v w K = true) : ∃ c, K c = true ∧ ∀ ρ u u', Rl ρ v u → Rl ρ w u' → CellEq t u u' c := by
  cases t with
  | i =>
    obtain ⟨c, h1, h2⟩ := eqY_true (x := v) (y := w) h
    exact ⟨c, h1.2.2, fun ρ u u' hu hu' => by obtain ⟨m, n, h3, h4, h5⟩ := h2 ρ u u' hu hu'; exact ⟨m, n, h3, h4, h5⟩⟩
  | b =>
    obtain ⟨m, rfl, h⟩ := VV.onB_true (v := v) h
    obtain ⟨n, rfl, h⟩ := VV.onB_true (v := w) h
    exact ⟨_, h, fun ρ u u' hu hu' => ⟨m, n, hu, hu', by cases m <;> cases n <;> rfl⟩⟩
  | s =>
    rcases VV.onSt_true (v := v) h with ⟨l, rfl, h⟩ | ⟨l, rfl, h⟩
    · obtain ⟨m, rfl, h⟩ := VV.onStr_true (v := w) h
      refine ⟨_, h, fun ρ u u' hu hu' => ⟨_, _, hu.1, hu'.1, ?_⟩⟩
      rw [eqNs_eq, decide_eq_decide]
      exact (str_inj hu.2 hu'.2).symm
    · rcases VV.onTx_true (v := w) h with h | ⟨m, rfl, h⟩
      · cases h
      obtain ⟨hq, h⟩ := brec_true h
      refine ⟨_, h, fun ρ u u' hu hu' => ?_⟩
      obtain ⟨b, rfl, hb⟩ := hu
      obtain ⟨b', rfl, hb'⟩ := hu'
      exact ⟨_, _, rfl, rfl, by rw [eqTx_ok hq hb hb']; simp⟩
theorem eqLK_true {l m : List VV} : ∀ {cs : List (Nat × Tag)} {K : Bool → Bool}, eqLK cs l m K = true → ∃ c, K c = true ∧ ∀ ρ us ws, Rls ρ l us → Rls ρ m ws → CellsEq us ws cs c
  | [], K, h => ⟨true, h, fun _ _ _ _ _ => rfl⟩
  | (o, t) :: cs, K, h => by
    have h : (nthK l o fun v => nthK m o fun w => cellK t v w fun c => (Bool.rec (eqLK cs l m fun _ => K false) (eqLK cs l m K) c : Bool)) = true := h
    obtain ⟨v, hv, h⟩ := nthK_true h
    obtain ⟨w, hw, h⟩ := nthK_true h
    obtain ⟨c1, h, h1⟩ := cellK_true h
    cases c1 with
    | false =>
      obtain ⟨c2, h2, h3⟩ := eqLK_true (K := fun _ => K false) h
      refine ⟨false, h2, fun ρ us ws hu hws => ?_⟩
      obtain ⟨u, hu1, hu2⟩ := hu.get hv
      obtain ⟨u', hw1, hw2⟩ := hws.get hw
      exact ⟨u, u', false, c2, hu1, hw1, h1 _ _ _ hu2 hw2, h3 _ _ _ hu hws, rfl⟩
    | true =>
      obtain ⟨c2, h2, h3⟩ := eqLK_true (K := K) h
      refine ⟨c2, h2, fun ρ us ws hu hws => ?_⟩
      obtain ⟨u, hu1, hu2⟩ := hu.get hv
      obtain ⟨u', hw1, hw2⟩ := hws.get hw
      exact ⟨u, u', true, c2, hu1, hw1, h1 _ _ _ hu2 hw2, h3 _ _ _ hu hws, rfl⟩
inductive BR (place : Nat → Option (Nat × Nat)) (n : Nat) : List (Nat × Nat × X) → List (Nat × Operand) → Prop
  | nil : BR place n [] []
  | cons {i o sz x op ps os} : place i = some (o, sz) → o + sz ≤ n → XR x op → BR place n ps os → BR place n ((o, sz, x) :: ps) ((i, op) :: os)
inductive XRo : Option X → Option Operand → Prop
  | n : XRo none none
  | s {x o} : XR x o → XRo (some x) (some o)
inductive Tr1 (T : Tab) : Op → Y1 → Prop
  | mv {o x} : XR x o → Tr1 T (.move o) (.mv x)
  | as {o x} : XR x o → Tr1 T (.assign o) (.mv x)
  | nck {o x} : XR x o → Tr1 T (.nilCheck o) (.nck x)
  | ext {o x j} : XR x o → Tr1 T (.extract o j) (.ext x j)
  | not {o x t} : XR x o → Tr1 T (.unOp .not t o) (.not x)
  | pick {c a b c' a' b'} : XR c' c → XR a' a → XR b' b → Tr1 T (.pick c a b) (.pick c' a' b')
  | add {t t' x y x' y'} : XR x' x → XR y' y → Tr1 T (.binOp .add t x y t') (.add x' y')
  | sub {t t' x y x' y'} : XR x' x → XR y' y → Tr1 T (.binOp .sub t x y t') (.sub x' y')
  | mul {t t' x y x' y'} : XR x' x → XR y' y → Tr1 T (.binOp .mul t x y t') (.mul x' y')
  | quo {t t' x y x' y'} : XR x' x → XR y' y → Tr1 T (.binOp .quo t x y t') (.quo x' y')
  | rem {t t' x y x' y'} : XR x' x → XR y' y → Tr1 T (.binOp .rem t x y t') (.rem x' y')
  | eq {t t' x y x' y'} : XR x' x → XR y' y → Tr1 T (.binOp .eql t x y t') (.eq x' y')
  | ne {t t' x y x' y'} : XR x' x → XR y' y → Tr1 T (.binOp .neq t x y t') (.ne x' y')
  | lt {t t' x y x' y'} : XR x' x → XR y' y → Tr1 T (.binOp .lss t x y t') (.lt x' y')
  | le {t t' x y x' y'} : XR x' x → XR y' y → Tr1 T (.binOp .leq t x y t') (.le x' y')
  | gt {t t' x y x' y'} : XR x' x → XR y' y → Tr1 T (.binOp .gtr t x y t') (.lt y' x')
  | ge {t t' x y x' y'} : XR x' x → XR y' y → Tr1 T (.binOp .geq t x y t') (.le y' x')
  | kop {op t t' x y x' y'} : XR x' x → XR y' y → Tr1 T (.binOp op t x y t') (.kop op x' y')
  | kcmp {op t t' x y x' y'} : XR x' x → XR y' y → Tr1 T (.binOp op t x y t') (.kcmp op x' y')
  | conv {src dst k s b i x x'} : T.find dst = some ⟨.int k, s, b⟩ → T.find src = some i → XR x' x → Tr1 T (.convert src dst x) (.conv k x')
  | beq {n op t t' s b x y x' y'} : T.find t = some ⟨.bool, s, b⟩ → (n = false ∧ op = .eql ∨ n = true ∧ op = .neq) → XR x' x → XR y' y → Tr1 T (.binOp op t x y t') (.beq n x' y')
  | seq {n op t t' x y x' y'} : (n = false ∧ op = .eql ∨ n = true ∧ op = .neq) → XR x' x → XR y' y → Tr1 T (.binOp op t x y t') (.seq n x' y')
  | aeq {n op t t' l s b x y x' y' cs} : T.find t = some ⟨.struct l, s, b⟩ → eqAt T 9 t = true → eqOffs T 9 t 0 = some cs → (n = false ∧ op = .eql ∨ n = true ∧ op = .neq) → XR x' x → XR y' y → Tr1 T (.binOp op t x y t') (.aeq n cs x' y')
  | nqP {n op t t' el s b x x'} : T.find t = some ⟨.ptr el, s, b⟩ → (n = false ∧ op = .eql ∨ n = true ∧ op = .neq) → XR x' x → Tr1 T (.binOp op t x (.const (.pointer none)) t') (.nqP n x')
  | nqS {n op t t' el s b x x' q r} : T.find t = some ⟨.slice el, s, b⟩ → (n = false ∧ op = .eql ∨ n = true ∧ op = .neq) → XR x' x → Tr1 T (.binOp op t x (.const (.slice none q r)) t') (.nqS n x')
  | nqF {n op t t' s b x x'} : T.find t = some ⟨.func, s, b⟩ → (n = false ∧ op = .eql ∨ n = true ∧ op = .neq) → XR x' x → Tr1 T (.binOp op t x (.const .nilFunc) t') (.nqF n x')
  | fa {t l s b f fo ft i x x'} : T.find t = some ⟨.struct l, s, b⟩ → l[f]? = some (fo, ft) → T.find ft = some i → Nat.beq i.size 0 = false → XR x' x → Tr1 T (.fieldAddr t x f) (.fa x' fo)
  | ixS {t el s b ie x i x' i'} : T.find t = some ⟨.slice el, s, b⟩ → T.find el = some ie → XR x' x → XR i' i → Tr1 T (.indexAddr t x i) (.ixS x' i' ie.size)
  | ixA {t n el s b ie x i x' i'} : T.find t = some ⟨.arr n el, s, b⟩ → T.find el = some ie → XR x' x → XR i' i → Tr1 T (.indexAddr t x i) (.ixA x' i' n ie.size)
  | fd {t l s b f fo ft i x x'} : T.find t = some ⟨.struct l, s, b⟩ → l[f]? = some (fo, ft) → T.find ft = some i → i.d ≠ .other → XR x' x → Tr1 T (.field t x f) (.fd x' fo i.size i.d.agg)
  | bldS {t l s b zs zs' parts ps} : T.find t = some ⟨.struct l, s, b⟩ → zeroC T zeroFuel t = some zs → (∀ ρ, Rls ρ zs' zs) → zs'.all VV.one = true → l.all (fun p => (T.find p.2).isSome) = true → BR (placeS T l) zs'.length ps parts → Tr1 T (.build t parts.toArray) (.bld zs' ps)
  | bldA {t n el s b ie zs zs' parts ps} : T.find t = some ⟨.arr n el, s, b⟩ → T.find el = some ie → zeroC T zeroFuel t = some zs → (∀ ρ, Rls ρ zs' zs) → zs'.all VV.one = true → BR (fun i => some (i * ie.size, ie.size)) zs'.length ps parts → Tr1 T (.build t parts.toArray) (.bld zs' ps)
  | slH {t el s b i x y x' y'} : T.find t = some ⟨.slice el, s, b⟩ → T.find el = some i → XR x' x → XR y' y → Tr1 T (.slice t x none (some y) none) (.slH x' y')
  | slL {t el s b i x y x' y'} : T.find t = some ⟨.slice el, s, b⟩ → T.find el = some i → XR x' x → XR y' y → Tr1 T (.slice t x (some y) none none) (.slL x' y' i.size)
  | slLH {t el s b i x y z x' y' z'} : T.find t = some ⟨.slice el, s, b⟩ → T.find el = some i → XR x' x → XR y' y → XR z' z → Tr1 T (.slice t x (some y) (some z) none) (.slLH x' y' z' i.size)
  | saL {t n el s b i x y x' y'} : T.find t = some ⟨.arr n el, s, b⟩ → T.find el = some i → XR x' x → XR y' y → Tr1 T (.slice t x (some y) none none) (.saL x' y' n i.size)
  | saLH {t n el s b i x y z x' y' z'} : T.find t = some ⟨.arr n el, s, b⟩ → T.find el = some i → XR x' x → XR y' y → XR z' z → Tr1 T (.slice t x (some y) (some z) none) (.saLH x' y' z' n i.size)
  | mki {t i x x'} : T.find t = some i → i.d.known = true → XR x' x → Tr1 T (.makeInterface t x) (.mki t x')
  | tas {t i xt x x' ok} : T.find t = some i → i.d.known = true → XR x' x → Tr1 T (.typeAssert x xt t ok) (.tas t ok x')
  | mkf {q : P} {l1 l2 : List Operand} {xs ys} : XRs xs l1 → XRs ys l2 → Tr1 T (.makeFunc (.func q.num) l1.toArray l2.toArray) (.mkf q xs ys)
  | lenS {t el s b x x'} : T.find t = some ⟨.slice el, s, b⟩ → XR x' x → Tr1 T (.call { callee := .builtin .len, args := [x].toArray, argTypes := [t].toArray }) (.lenS x')
  | lenT {t s b x x'} : T.find t = some ⟨.str, s, b⟩ → XR x' x → Tr1 T (.call { callee := .builtin .len, args := [x].toArray, argTypes := [t].toArray }) (.lenT x')
  | max {ts x y x' y'} : XR x' x → XR y' y → Tr1 T (.call { callee := .builtin .max, args := [x, y].toArray, argTypes := ts }) (.max x' y')
  | min {ts x y x' y'} : XR x' x → XR y' y → Tr1 T (.call { callee := .builtin .min, args := [x, y].toArray, argTypes := ts }) (.min x' y')
  | lenC {t n el s b x} : T.find t = some ⟨.arr n el, s, b⟩ → Tr1 T (.call { callee := .builtin .len, args := [x].toArray, argTypes := [t].toArray }) (.lenC n)
  | six {t s b x i x' i'} : T.find t = some ⟨.str, s, b⟩ → XR x' x → XR i' i → Tr1 T (.index t x i) (.six x' i')
  | cat {t t' x y x' y'} : XR x' x → XR y' y → Tr1 T (.binOp .add t x y t') (.cat x' y')
  | sl3 {t el s b i x y z u x' y' z' u'} : T.find t = some ⟨.slice el, s, b⟩ → T.find el = some i → XR x' x → XR y' y → XR z' z → XR u' u → Tr1 T (.slice t x (some y) (some z) (some u)) (.sl3 x' y' z' u' i.size)
  | sl3n {t el s b i x z u x' z' u'} : T.find t = some ⟨.slice el, s, b⟩ → T.find el = some i → XR x' x → XR z' z → XR u' u → Tr1 T (.slice t x none (some z) (some u)) (.sl3 x' (.c (.i (.ofNat 0))) z' u' i.size)
  | aix {t n el s b ie x i x' i'} : T.find t = some ⟨.arr n el, s, b⟩ → T.find el = some ie → ie.d ≠ .other → XR x' x → XR i' i → Tr1 T (.index t x i) (.aix x' i' n ie.size ie.d.agg)
  | saA {t n el s b i x x'} : T.find t = some ⟨.arr n el, s, b⟩ → T.find el = some i → XR x' x → Tr1 T (.slice t x none none none) (.saA x' n)
  | ssl {t s b x y z x' y' z'} : T.find t = some ⟨.str, s, b⟩ → XR x' x → XRo y' y → XRo z' z → Tr1 T (.slice t x y z none) (.ssl x' y' z')
def Means (P : Program) (ve : Tr VV) (op : Op) (v : VV) : Prop :=
  ∀ ρ e, ERl ρ ve e → ∃ u, Rl ρ v u ∧ ∀ d ty p af g, PureL P (look e) ⟨d, op, ty, p, af, g⟩ u
section
variable {P : Program} {T : Tab} {ve : Tr VV} {k : VV → Bool}
theorem get2 {x y : X} {a b : Operand} (hx : XR x a) (hy : XR y b) {K : VV → VV → Bool} (h : (x.getK ve fun v => y.getK ve fun w => K v w) = true) :
    ∃ v w, K v w = true ∧ (v.ok = true → w.ok = true → ∀ ρ e, ERl ρ ve e → ∃ u u', look e a = some (true, u) ∧ look e b = some (true, u') ∧ Rl ρ v u ∧ Rl ρ w u') := by
  rw [X.getK_eq] at h
  rw [X.getK_eq] at h
  refine ⟨_, _, h, fun h1 h2 ρ e he => ?_⟩
  obtain ⟨u, h3, h4⟩ := hx.look he rfl h1
  obtain ⟨w, h5, h6⟩ := hy.look he rfl h2
  exact ⟨u, w, h3, h5, h4, h6⟩
theorem arith2_ok {op : BinOp} {t t' : TypeId} {a b : Operand} {v w r : VV} (hr : k r = true) (hl : ∀ ρ e, ERl ρ ve e → ∃ u u', look e a = some (true, u) ∧ look e b = some (true, u') ∧ Rl ρ v u ∧ Rl ρ w u')
    (hv : ∀ ρ u u', Rl ρ v u → Rl ρ w u' → ∃ m n z, u = .int .i64 m ∧ u' = .int .i64 n ∧ ((op = .add ∧ z = m + n) ∨ (op = .sub ∧ z = m - n) ∨ (op = .mul ∧ z = m * n)) ∧ fits .i64 z ∧ Rl ρ r (.int .i64 z)) : ∃ v, k v = true ∧ Means P ve (.binOp op t a b t') v :=
  ⟨r, hr, fun ρ e he => by
    obtain ⟨u, u', h1, h2, h3, h4⟩ := hl ρ e he
    obtain ⟨m, n, z, rfl, rfl, h5, h6, h7⟩ := hv ρ u u' h3 h4
    refine ⟨_, h7, fun d ty p af g => ?_⟩
    have := pure_wrap (P := P) (d := d) (xt := t) (yt := t') (ty := ty) (p := p) (af := af) (g := g) h1 h2 h5
    rwa [fits_wrap h6] at this⟩
theorem cmp2_ok {op : BinOp} {t t' : TypeId} {a b : Operand} {v w : VV} {c : Bool} (hr : k (.bool c) = true) (hl : ∀ ρ e, ERl ρ ve e → ∃ u u', look e a = some (true, u) ∧ look e b = some (true, u') ∧ Rl ρ v u ∧ Rl ρ w u')
    (hv : ∀ ρ u u', Rl ρ v u → Rl ρ w u' → ∃ m n, u = .int .i64 m ∧ u' = .int .i64 n ∧ cmpI op m n = some c) : ∃ v, k v = true ∧ Means P ve (.binOp op t a b t') v :=
  ⟨_, hr, fun ρ e he => by
    obtain ⟨u, u', h1, h2, h3, h4⟩ := hl ρ e he
    obtain ⟨m, n, rfl, rfl, h5⟩ := hv ρ u u' h3 h4
    exact ⟨_, rfl, fun d ty p af g => pure_cmp h1 h2 h5⟩⟩
theorem int2 {x y : X} {a b : Operand} (hx : XR x a) (hy : XR y b) {K : Int → Int → Bool} (h : (x.getK ve fun v => v.onI fun m => y.getK ve fun w => w.onI fun n => K m n) = true) :
    ∃ m n, K m n = true ∧ ∀ ρ e, ERl ρ ve e → look e a = some (true, .int .i64 m) ∧ look e b = some (true, .int .i64 n) := by
  rw [X.getK_eq] at h
  obtain ⟨m, hm, h⟩ := VV.onI_true h
  rw [X.getK_eq] at h
  obtain ⟨n, hn, h⟩ := VV.onI_true h
  refine ⟨m, n, h, fun ρ e he => ?_⟩
  obtain ⟨u, h1, rfl⟩ := hx.look he hm rfl
  obtain ⟨w, h2, rfl⟩ := hy.look he hn rfl
  exact ⟨h1, h2⟩
theorem kind2 {x y : X} {a b : Operand} (hx : XR x a) (hy : XR y b) {K : IntKind → Int → IntKind → Int → Bool} (h : (x.getK ve fun v => v.onK fun j m => y.getK ve fun w => w.onK fun i n => K j m i n) = true) :
    ∃ j m i n, K j m i n = true ∧ ∀ ρ e, ERl ρ ve e → look e a = some (true, .int j m) ∧ look e b = some (true, .int i n) := by
  rw [X.getK_eq] at h
  obtain ⟨j, m, hok, hm, h⟩ := VV.onK_true h
  rw [X.getK_eq] at h
  obtain ⟨i, n, hok', hn, h⟩ := VV.onK_true h
  refine ⟨j, m, i, n, h, fun ρ e he => ?_⟩
  obtain ⟨u, h1, h3⟩ := hx.look he rfl hok
  obtain ⟨w, h2, h4⟩ := hy.look he rfl hok'
  rw [hm _ _ h3] at h1
  rw [hn _ _ h4] at h2
  exact ⟨h1, h2⟩
theorem fitK_true {z : Int} (h : fitK z k = true) : fits .i64 z ∧ k (.i z) = true := by
  rw [fitK_eq, fitZ_eq] at h
  by_cases hz : -9223372036854775808 ≤ z ∧ z ≤ 9223372036854775807
  · rw [decide_eq_true hz] at h; exact ⟨hz, h⟩
  · rw [decide_eq_false hz] at h; cases h
theorem arith_ok {op : BinOp} {t t' : TypeId} {a b : Operand} {m n z : Int} (hop : (op = .add ∧ z = m + n) ∨ (op = .sub ∧ z = m - n) ∨ (op = .mul ∧ z = m * n)) (h : fitK z k = true)
    (hl : ∀ ρ e, ERl ρ ve e → look e a = some (true, .int .i64 m) ∧ look e b = some (true, .int .i64 n)) : ∃ v, k v = true ∧ Means P ve (.binOp op t a b t') v := by
  obtain ⟨h1, h2⟩ := fitK_true h
  refine ⟨_, h2, fun ρ e he => ⟨_, rfl, fun d ty p af g => ?_⟩⟩
  obtain ⟨h3, h4⟩ := hl ρ e he
  have := pure_wrap (P := P) (d := d) (xt := t) (yt := t') (ty := ty) (p := p) (af := af) (g := g) h3 h4 hop
  rwa [fits_wrap h1] at this
theorem cmp_ok {op : BinOp} {t t' : TypeId} {a b : Operand} {j : IntKind} {m n : Int} {r : Bool} (hop : cmpI op m n = some r) (h : k (.bool r) = true)
    (hl : ∀ ρ e, ERl ρ ve e → look e a = some (true, .int j m) ∧ look e b = some (true, .int j n)) : ∃ v, k v = true ∧ Means P ve (.binOp op t a b t') v :=
  ⟨_, h, fun ρ e he => ⟨_, rfl, fun d ty p af g => pure_cmp (hl ρ e he).1 (hl ρ e he).2 hop⟩⟩
theorem natK_true {j : Int} {K : Nat → Bool} (h : natK j K = true) : ∃ n : Nat, j = n ∧ K n = true := by
  cases j with
  | ofNat n => exact ⟨n, rfl, h⟩
  | negSucc n => cases h
theorem optK_true {α : Type} {o : Option α} {K : α → Bool} (h : optK o K = true) : ∃ x, o = some x ∧ K x = true := by
  cases o with
  | none => cases h
  | some x => exact ⟨x, rfl, h⟩
theorem eqR_ok {n : Bool} {op : BinOp} {c : Bool} (h : n = false ∧ op = .eql ∨ n = true ∧ op = .neq) : eqR op c = some (negIf n c) := by
  rcases h with ⟨rfl, rfl⟩ | ⟨rfl, rfl⟩ <;> cases c <;> rfl
end
end Den
set_option linter.unusedVariables false
namespace Den
open Go Eng
theorem and1F {a b : Bool} (h : (a && b) = true) : a = true := by cases a with | true => rfl | false => cases h
theorem and2F {a b : Bool} (h : (a && b) = true) : b = true := by cases a with | true => exact h | false => cases h
section
variable {P : Program} {T : Tab} {ve : Tr VV} {k : VV → Bool}
theorem pure_sliceNil (hT : TabOk P T) {lk : Lk} {d : Option Nat} {ty : TypeId} {p : String} {af : Array Edge} {g : Option (Nat × Bool)} {t : TypeId} {x y : Operand} {el s b0 : Nat} {i : TyI} {kd : IntKind} (ht : T.find t = some ⟨.slice el, s, b0⟩) (hi : T.find el = some i) (hx : lk x = some (true, .slice none 0 0)) (hy : lk y = some (true, .int kd (0 : Nat))) :
    PureL P lk ⟨d, .slice t x (some y) none none, ty, p, af, g⟩ (.slice none 0 0) := fun ρ ha w => by
  have h1 := ha x (by simp [Op.operands]) _ hx
  have h2 := ha y (by simp [Op.operands]) _ hy
  have hx : execOp ρ ⟨d, .slice t x (some y) none none, ty, p, af, g⟩ = (do pure (.value (← Instr.sliceAt t (ρ x) (some (ρ y)) none none))) := rfl
  rw [hx, h1, h2]
  simp [Instr.sliceAt, Instr.slice, Instr.sliceBounds, run_underlying (hT.slice ht), hT.size hi, Instr.sliceBound, asIntOf]
theorem pure_lenArr' (hT : TabOk P T) {lk : Lk} {d : Option Nat} {ty : TypeId} {p : String} {af : Array Edge} {g : Option (Nat × Bool)} {x : Operand} {t n el s b : Nat} (ht : T.find t = some ⟨.arr n el, s, b⟩) :
    PureL P lk ⟨d, .call { callee := .builtin .len, args := #[x], argTypes := #[t] }, ty, p, af, g⟩ (.int .i64 n) := fun ρ ha w => by
  simp [execOp, resolve, invoke, builtin, Builtin.len_, run_underlying (hT.arr ht), goInt]
theorem pure_strIx (hT : TabOk P T) {lk : Lk} {d : Option Nat} {ty : TypeId} {p : String} {af : Array Edge} {g : Option (Nat × Bool)} {x i : Operand} {t s0 b0 : Nat} {kd : IntKind} {a : ByteArray} {j : Nat} {b : UInt8} (ht : T.find t = some ⟨.str, s0, b0⟩) (hx : lk x = some (true, .string a)) (hi : lk i = some (true, .int kd j)) (hb : a[j]? = some b) :
    PureL P lk ⟨d, .index t x i, ty, p, af, g⟩ (.int .u8 b.toNat) := fun ρ ha w => by
  have h1 := ha x (by simp [Op.operands]) _ hx
  have h2 := ha i (by simp [Op.operands]) _ hi
  have hx : execOp ρ ⟨d, .index t x i, ty, p, af, g⟩ = (do pure (.value (← Instr.index t (ρ x) (ρ i)))) := rfl
  rw [hx, h1, h2]
  simp [Instr.index, run_underlying (hT.str ht), asIntOf, hb]
theorem pure_cat {lk : Lk} {d : Option Nat} {ty xt yt : TypeId} {p : String} {af : Array Edge} {g : Option (Nat × Bool)} {x y : Operand} {a b : ByteArray} (hx : lk x = some (true, .string a)) (hy : lk y = some (true, .string b)) (hs : a.size + b.size ≤ 9223372036854775807) :
    PureL P lk ⟨d, .binOp .add xt x y yt, ty, p, af, g⟩ (.string (a ++ b)) := fun ρ ha w => by
  have h1 := ha x (by simp [Op.operands]) _ hx
  have h2 := ha y (by simp [Op.operands]) _ hy
  refine exec_binOp (by rw [h1, h2]; exact run_eqGuard_other (by simp) (by simp)) ?_
  rw [h1, h2]
  have hm : IntKind.i64.max = 9223372036854775807 := rfl
  have hn : ¬ (((a.size + b.size : Nat) : Int) > IntKind.i64.max) := by rw [hm]; omega
  simp [binOp, Op.stringOp]
  omega
theorem pure_slice30 (hT : TabOk P T) {lk : Lk} {d : Option Nat} {ty : TypeId} {p : String} {af : Array Edge} {g : Option (Nat × Bool)} {t : TypeId} {x z u : Operand} {y : Option Operand} {el s b0 : Nat} {i : TyI} {a : Option Addr} {len cap h m : Nat} (ht : T.find t = some ⟨.slice el, s, b0⟩) (hi : T.find el = some i) (hx : lk x = some (true, .slice a len cap)) (hy : ∀ y', y = some y' → lk y' = some (true, .int .i64 ((0 : Nat) : Int))) (hz : lk z = some (true, .int .i64 (h : Int))) (hu : lk u = some (true, .int .i64 (m : Int))) (hl : h ≤ m ∧ m ≤ cap) :
    PureL P lk ⟨d, .slice t x y (some z) (some u), ty, p, af, g⟩ (.slice a h m) := fun ρ ha w => by
  have h1 := ha x (by simp [Op.operands]) _ hx
  have h3 := ha z (by simp [Op.operands]) _ hz
  have h4 := ha u (by simp [Op.operands]) _ hu
  have ha0 : a.map (·.add 0) = a := by cases a with | none => rfl | some a => simp [Addr.add]
  have hx : execOp ρ ⟨d, .slice t x y (some z) (some u), ty, p, af, g⟩ = (do pure (.value (← Instr.sliceAt t (ρ x) (y.map ρ) (some (ρ z)) (some (ρ u))))) := rfl
  rw [hx, h1, h3, h4]
  have b0 : 0 ≤ (m : Int) ∧ (m : Int) ≤ (cap : Int) := by omega
  have b1 : 0 ≤ (h : Int) ∧ (h : Int) ≤ (m : Int) := by omega
  cases y with
  | none => simp [Instr.sliceAt, Instr.slice, Instr.sliceBounds, run_underlying (hT.slice ht), run_bound rfl b0, run_bound rfl b1, hT.size hi, ha0]
  | some y =>
    have h2 := ha y (by simp [Op.operands]) _ (hy y rfl)
    have e2 : ∀ code w, (Instr.sliceBound (.int .i64 0) h code).run P w = .ok 0 w := fun code w => run_bound (i := 0) rfl ⟨by omega, by omega⟩ w
    have h2 : ρ y = .int .i64 0 := h2
    simp [Instr.sliceAt, Instr.slice, Instr.sliceBounds, run_underlying (hT.slice ht), run_bound rfl b0, run_bound rfl b1, h2, e2, hT.size hi, ha0]
theorem pure_indexV (hT : TabOk P T) {lk : Lk} {d : Option Nat} {ty : TypeId} {p : String} {af : Array Edge} {g : Option (Nat × Bool)} {t n el s0 b0 q : Nat} {kd : IntKind} {x y : Operand} {ie : TyI} (ht : T.find t = some ⟨.arr n el, s0, b0⟩) (hi : T.find el = some ie) (ho : ie.d ≠ .other) {cs : List Value}
    {v : Value} (hx : lk x = some (true, .agg cs.toArray)) (hy : lk y = some (true, .int kd (q : Int))) (hq : q < n) (hv : (ie.d.agg = true ∧ v = .agg ((cs.drop (q * ie.size)).take ie.size).toArray) ∨ (ie.d.agg = false ∧ cs[q * ie.size]? = some v)) : PureL P lk ⟨d, .index t x y, ty, p, af, g⟩ v := fun ρ ha w => by
  have h1 := ha x (by simp [Op.operands]) _ hx
  have h2 := ha y (by simp [Op.operands]) _ hy
  have hx : execOp ρ ⟨d, .index t x y, ty, p, af, g⟩ = (do pure (.value (← Instr.index t (ρ x) (ρ y)))) := rfl
  rw [hx, h1, h2]
  have hq' : (q : Int) < (n : Int) := by omega
  rcases hv with ⟨hag, rfl⟩ | ⟨hag, hv⟩
  · simp [Instr.index, run_underlying (hT.arr ht), asIntOf, hq, part, hT.isAgg hi ho, hag, hT.size hi, List.extract_eq_take_drop]
  · simp [Instr.index, run_underlying (hT.arr ht), asIntOf, hq, part, hT.isAgg hi ho, hag, hT.size hi, hv]
theorem pure_sliceAA (hT : TabOk P T) {lk : Lk} {d : Option Nat} {ty : TypeId} {p : String} {af : Array Edge} {g : Option (Nat × Bool)} {t : TypeId} {x : Operand} {n el s b0 : Nat} {i : TyI} {b off : Nat} (ht : T.find t = some ⟨.arr n el, s, b0⟩) (hi : T.find el = some i) (hx : lk x = some (true, .pointer (some ⟨b, off, none⟩))) :
    PureL P lk ⟨d, .slice t x none none none, ty, p, af, g⟩ (.slice (some ⟨b, off, none⟩) n n) := fun ρ ha w => by
  have h1 := ha x (by simp [Op.operands]) _ hx
  have hx : execOp ρ ⟨d, .slice t x none none none, ty, p, af, g⟩ = (do pure (.value (← Instr.sliceAt t (ρ x) none none none))) := rfl
  rw [hx, h1]
  simp [Instr.sliceAt, Instr.sureAddr, Instr.sliceBounds, run_underlying (hT.arr ht), hT.size hi, addr_map]
def Bnd (lk : Lk) (o : Option Operand) (d j : Nat) : Prop := (o = none → j = d) ∧ ∀ z, o = some z → ∃ k, lk z = some (true, .int k j)
theorem pure_strSl (hT : TabOk P T) {lk : Lk} {d : Option Nat} {ty : TypeId} {p : String} {af : Array Edge} {g : Option (Nat × Bool)} {t : TypeId} {x : Operand} {y z : Option Operand} {s0 b0 : Nat} {a : ByteArray} {l h : Nat} (ht : T.find t = some ⟨.str, s0, b0⟩) (hx : lk x = some (true, .string a))
    (hy : Bnd lk y 0 l) (hz : Bnd lk z a.size h) (hl : l ≤ h ∧ h ≤ a.size) :
    PureL P lk ⟨d, .slice t x y z none, ty, p, af, g⟩ (.string (a.extract l h)) := fun ρ ha w => by
  have h1 := ha x (by simp [Op.operands]) _ hx
  have hx : execOp ρ ⟨d, .slice t x y z none, ty, p, af, g⟩ = (do pure (.value (← Instr.sliceAt t (ρ x) (y.map ρ) (z.map ρ) none))) := rfl
  have e1 : (h : Int).toNat = h := rfl
  have e2 : (l : Int).toNat = l := rfl
  rw [hx, h1]
  have b1 : 0 ≤ (h : Int) ∧ (h : Int) ≤ (a.size : Int) := by omega
  have b2 : 0 ≤ (l : Int) ∧ (l : Int) ≤ (h : Int) := by omega
  cases y with
  | none =>
    have hy := hy.1 rfl
    subst hy
    cases z with
    | none => have hz := hz.1 rfl; subst hz; simp [Instr.sliceAt, Instr.slice, Instr.sliceBounds, run_underlying (hT.str ht)]
    | some z =>
      obtain ⟨k, hz⟩ := hz.2 z rfl
      have h3 := ha z (by simp [Op.operands]) _ hz
      simp [Instr.sliceAt, Instr.slice, Instr.sliceBounds, run_underlying (hT.str ht), h3, run_bound rfl b1]
  | some y =>
    obtain ⟨k, hy⟩ := hy.2 y rfl
    have h2 := ha y (by simp [Op.operands]) _ hy
    cases z with
    | none => have hz := hz.1 rfl; subst hz; simp [Instr.sliceAt, Instr.slice, Instr.sliceBounds, run_underlying (hT.str ht), h2, run_bound rfl b2]
    | some z =>
      obtain ⟨k', hz⟩ := hz.2 z rfl
      have h3 := ha z (by simp [Op.operands]) _ hz
      simp [Instr.sliceAt, Instr.slice, Instr.sliceBounds, run_underlying (hT.str ht), h2, h3, run_bound rfl b1, run_bound rfl b2]
theorem bytesOf_get {l : List Nat} {j n : Nat} (h : l[j]? = some n) : (bytesOf l)[j]? = some (UInt8.ofNat n) := by
  have hlt := (List.getElem?_eq_some_iff.1 h).1
  have e1 : (bytesOf l).size = l.length := by simp [bytesOf, ByteArray.size]
  have e2 : (bytesOf l).data[j]? = some (UInt8.ofNat n) := by simp [bytesOf, h]
  rw [getElem?_pos (bytesOf l) j (by rw [e1]; exact hlt)]
  rw [getElem?_pos (bytesOf l).data j (by simpa [bytesOf] using hlt)] at e2
  exact e2
theorem bytesOf_app (a b : List Nat) : bytesOf (a ++ b) = bytesOf a ++ bytesOf b := by
  apply ByteArray.ext
  simp [bytesOf, ByteArray.data_append]
theorem bytesOf_extract (l : List Nat) (j h : Nat) : (bytesOf l).extract j h = bytesOf ((l.drop j).take (h - j)) := by
  apply ByteArray.ext
  simp [bytesOf, ByteArray.data_extract, List.extract_eq_take_drop, List.map_take, List.map_drop]
theorem bytesOf_size (l : List Nat) : (bytesOf l).size = l.length := by simp [bytesOf, ByteArray.size]
theorem optX_eq (o : Option X) (K : Option VV → Bool) : optX o ve K = K (o.map fun x => x.get ve) := by
  cases o with
  | none => rfl
  | some x => exact X.getK_eq _ _ _
theorem bndV_true {z : Option X} {n : Nat} {K : Nat → Bool} (h : bndV (z.map fun x => x.get ve) n K = true) : ∃ j, K j = true ∧ ((z = none ∧ j = n) ∨ ∃ x, z = some x ∧ x.get ve = .i (j : Int)) := by
  cases z with
  | none => exact ⟨n, h, .inl ⟨rfl, rfl⟩⟩
  | some x =>
    have h : ((x.get ve).onI fun j => natK j K) = true := h
    obtain ⟨j, hj, h⟩ := VV.onI_true h
    obtain ⟨m, rfl, h⟩ := natK_true h
    exact ⟨m, h, .inr ⟨x, rfl, hj⟩⟩
theorem XRo.bound {z : Option X} {o : Option Operand} {ρ : Rho} {e : Env} {n j : Nat} (h : XRo z o) (he : ERl ρ ve e) (hz : (z = none ∧ j = n) ∨ ∃ x, z = some x ∧ x.get ve = .i (j : Int)) : Bnd (look e) o n j := by
  cases h with
  | n =>
    rcases hz with ⟨_, h⟩ | ⟨x, h, _⟩
    · exact ⟨fun _ => h, fun z h => by cases h⟩
    · cases h
  | s hx =>
    rcases hz with ⟨h, _⟩ | ⟨x, h, hv⟩
    · cases h
    · cases h
      obtain ⟨u, h1, rfl⟩ := hx.look he hv rfl
      exact ⟨fun h => (by cases h), fun z h => by cases h; exact ⟨_, h1⟩⟩
theorem boolK_true {b : Bool} (h : boolK b k = true) : k (.bool b) = true := by rwa [boolK_eq] at h
theorem forceZ_true {z : Int} {K : Int → Bool} (h : forceZ z K = true) : K z = true := by rwa [forceZ_eq] at h
theorem forceN_true {z : Nat} {K : Nat → Bool} (h : forceN z K = true) : K z = true := by rwa [forceN_eq] at h
theorem means_int {op : Op} {v : VV} {j : IntKind} {z : Int} (hv : ∀ ρ, Rl ρ v (.int j z)) (h : ∀ ρ e, ERl ρ ve e → ∀ d ty p af g, PureL P (look e) ⟨d, op, ty, p, af, g⟩ (.int j z)) : Means P ve op v :=
  fun ρ e he => ⟨_, hv ρ, h ρ e he⟩
theorem nilq_eql {n : Bool} {op : BinOp} (h : n = false ∧ op = .eql ∨ n = true ∧ op = .neq) : (nilq op (.pointer none) (.pointer none) = some (notB n)) ∧ (∀ a, nilq op (.pointer (some a)) (.pointer none) = some n) ∧
    (∀ q r q' r', nilqS op (.slice none q r) (.slice none q' r') = some (notB n)) ∧ (∀ a q r q' r', nilqS op (.slice (some a) q r) (.slice none q' r') = some n) ∧ nilqF op .nilFunc .nilFunc = some (notB n) ∧ (∀ f a b, nilqF op (.func f a b) .nilFunc = some n) := by
  rcases h with ⟨rfl, rfl⟩ | ⟨rfl, rfl⟩ <;> exact ⟨rfl, fun _ => rfl, fun _ _ _ _ => rfl, fun _ _ _ _ _ => rfl, rfl, fun _ _ _ => rfl⟩
theorem inN_true {j : Int} {n : Nat} (h : inN j n = true) : ∃ m : Nat, j = m ∧ m < n := by
  cases j with
  | ofNat m =>
    have h : Nat.ble (m + 1) n = true := h
    exact ⟨m, rfl, Nat.le_of_ble_eq_true h⟩
  | negSucc m => cases h
theorem offN_eq (o m sz : Nat) : offN o (m : Int) sz = o + (m : Int).toNat * sz := by
  show o + m * sz = _
  rw [Int.toNat_natCast]
theorem rec_ble {m n : Nat} {b x : Bool} (h : (Bool.rec x b (Nat.ble m n) : Bool) = true) : (m ≤ n ∧ b = true) ∨ (n < m ∧ x = true) := by
  cases hb : Nat.ble m n with
  | true => rw [hb] at h; exact .inl ⟨Nat.le_of_ble_eq_true hb, h⟩
  | false =>
    rw [hb] at h
    refine .inr ⟨?_, h⟩
    rcases Nat.lt_or_ge n m with h1 | h1
    · exact h1
    · rw [Nat.ble_eq_true_of_le h1] at hb; cases hb
theorem rec_beq {m n : Nat} {b x : Bool} (h : (Bool.rec x b (Nat.beq m n) : Bool) = true) : (m = n ∧ b = true) ∨ (m ≠ n ∧ x = true) := by
  cases hb : Nat.beq m n with
  | true => rw [hb] at h; exact .inl ⟨Nat.eq_of_beq_eq_true hb, h⟩
  | false => rw [hb] at h; exact .inr ⟨fun e => by subst e; simp at hb, h⟩
theorem cut_room {kn : Bool} {cap c m j : Nat} (h1 : kn = true → cap = c) (h2 : kn = false → cap + c = m) (hj : j ≤ cap) :
    (kn = true → cap - j = (Bool.rec (Nat.add c j) (Nat.sub c j) kn : Nat)) ∧ (kn = false → cap - j + (Bool.rec (Nat.add c j) (Nat.sub c j) kn : Nat) = m) := by
  cases kn with
  | true => exact ⟨fun _ => (by rw [h1 rfl]; rfl), fun h => (by cases h)⟩
  | false => exact ⟨fun h => (by cases h), fun _ => by show cap - j + (c + j) = m; have := h2 rfl; omega⟩
theorem room_le {kn : Bool} {n cap c j : Nat} (hn : n ≤ cap) (h1 : kn = true → cap = c) (h : j ≤ (Bool.rec n c kn : Nat)) : j ≤ cap := by
  cases kn with
  | true => rw [h1 rfl]; exact h
  | false => exact Nat.le_trans h hn
theorem Rls.put {ρ : Rho} {l m : List VV} {us ws : List Value} (o : Nat) (h : Rls ρ l us) (k : Rls ρ m ws) : Rls ρ (putL o m l) (us.take o ++ ws ++ us.drop (o + ws.length)) := by
  unfold putL
  rw [k.length]
  exact ((h.take o).append k).append (h.drop _)
theorem putL_length {α : Type} {o : Nat} {m l : List α} (h : o + m.length ≤ l.length) : (putL o m l).length = l.length := by
  unfold putL; simp; omega
theorem all_put {o : Nat} {m l : List VV} (h : l.all VV.one = true) (k : m.all VV.one = true) : (putL o m l).all VV.one = true := by
  unfold putL
  rw [List.all_eq_true] at h k ⊢
  intro x hx
  rcases List.mem_append.1 hx with hx | hx
  · rcases List.mem_append.1 hx with hx | hx
    · exact h x (List.mem_of_mem_take hx)
    · exact k x hx
  · exact h x (List.mem_of_mem_drop hx)
theorem set_put {α : Type} : ∀ {o : Nat} {v : α} {l : List α}, o + 1 ≤ l.length → l.set o v = putL o [v] l
  | 0, v, x :: l, h => by simp [putL]
  | o + 1, v, x :: l, h => by
    have := set_put (o := o) (v := v) (l := l) (by simpa using h)
    simp only [List.set_cons_succ, this, putL, List.take_succ_cons, List.cons_append, List.length_singleton, List.drop_succ_cons]
theorem bldK_true {place : Nat → Option (Nat × Nat)} {n : Nat} {ps : List (Nat × Nat × X)} {os : List (Nat × Operand)} (h : BR place n ps os) : ∀ {zs : List VV} {K : List VV → Bool}, zs.length = n → bldK ve ps zs K = true →
    ∃ r, K r = true ∧ ∀ ρ e, ERl ρ ve e → zs.all VV.one = true → ∀ zsR, Rls ρ zs zsR → r.all VV.one = true ∧ ∃ vs : List (Nat × Value), os.map (fun p => (p.1, look e p.2)) = vs.map (fun p => (p.1, some (true, p.2))) ∧ ∃ rR, fillL place zsR vs = some rR ∧ Rls ρ r rR := by
  induction h with
  | nil => intro zs K hn h; exact ⟨zs, h, fun ρ e he ha zsR hz => ⟨ha, [], rfl, zsR, rfl, hz⟩⟩
  | @cons i o sz x op ps os hp hb hx _ ih =>
    intro zs K hn h
    have h : (x.getK ve fun v => v.onC (Bool.rec false (setLK o v zs fun zs => bldK ve ps zs K) (Nat.beq sz 1)) fun l => Bool.rec false (putK o l zs fun zs => bldK ve ps zs K) (Nat.beq (lenN l) sz)) = true := h
    rw [X.getK_eq] at h
    have step : ∀ m : List VV, m.length = sz → bldK ve ps (putL o m zs) K = true → (x.get ve).ok = true → (∀ ρ u, Rl ρ (x.get ve) u → m.all VV.one = true ∧ ∃ ws, u.cells.toList = ws ∧ Rls ρ m ws) →
        ∃ r, K r = true ∧ ∀ ρ e, ERl ρ ve e → zs.all VV.one = true → ∀ zsR, Rls ρ zs zsR → r.all VV.one = true ∧ ∃ vs : List (Nat × Value), ((i, op) :: os).map (fun p => (p.1, look e p.2)) = vs.map (fun p => (p.1, some (true, p.2))) ∧ ∃ rR, fillL place zsR vs = some rR ∧ Rls ρ r rR := by
      intro m hm h hok hu
      obtain ⟨r, h1, h3⟩ := ih (by rw [putL_length (by omega)]; exact hn) h
      refine ⟨r, h1, fun ρ e he ha zsR hz => ?_⟩
      obtain ⟨u, hl, hv⟩ := hx.look he rfl hok
      obtain ⟨hma, ws, hws, hmw⟩ := hu ρ u hv
      obtain ⟨h2, vs, h4, rR, h5, h6⟩ := h3 ρ e he (all_put ha hma) _ (hz.put o hmw)
      refine ⟨h2, (i, u) :: vs, by simp [hl, h4], rR, ?_, h6⟩
      have e1 : u.cells.size = sz := by rw [← Array.length_toList, hws, hmw.length, hm]
      have e2 : Nat.ble (o + sz) zsR.length = true := Nat.ble_eq_true_of_le (by rw [hz.length]; omega)
      have e3 : ws.length = sz := by rw [hmw.length, hm]
      rw [e3] at h5
      simp only [fillL, hp, e1, beq_self, e2, Bool.and_self, cond_true, hws]
      exact h5
    rcases VV.onC_true h with ⟨h1, h⟩ | ⟨l, hl, h⟩
    · obtain ⟨hsz, h⟩ := brec_true h
      have hsz := Nat.eq_of_beq_eq_true hsz
      rw [setLK_eq, set_put (by omega)] at h
      refine step [x.get ve] (by simp [hsz]) h (VV.one_ok h1) fun ρ u hu => ⟨by simp [h1], [u], ?_, ⟨u, [], rfl, hu, rfl⟩⟩
      have := hu.one h1
      cases u <;> first | rfl | cases this
    · obtain ⟨hsz, h⟩ := brec_true h
      have hsz := Nat.eq_of_beq_eq_true hsz
      rw [lenN_eq] at hsz
      rw [putK_eq] at h
      have hok : (x.get ve).ok = true := by rw [hl]; rfl
      refine step l hsz h hok fun ρ u hu => ?_
      rw [hl] at hu
      obtain ⟨us, rfl, h2, h3⟩ := hu
      exact ⟨h3, us, rfl, h2⟩
theorem v_sl3_true {x y z u : VV} {sz : Nat} (h : v_sl3 x y z u sz k = true) : ∃ hh m : Nat, y = .i ((0 : Nat) : Int) ∧ z = .i (hh : Int) ∧ u = .i (m : Int) ∧ hh ≤ m ∧ ((x = .nils ∧ hh = 0 ∧ m = 0 ∧ k .nils = true) ∨ ∃ b o n c kn, x = .slc b o n c kn ∧ m ≤ (Bool.rec n c kn : Nat) ∧ k (.slc b o hh m true) = true) := by
  obtain ⟨j, rfl, g1⟩ := VV.onI_true (v := y) h
  obtain ⟨j, hj, g2⟩ := natK_true g1
  obtain ⟨hh, rfl, g3⟩ := VV.onI_true (v := z) g2
  obtain ⟨hh, hhh, g4⟩ := natK_true g3
  obtain ⟨m, rfl, g5⟩ := VV.onI_true (v := u) g4
  obtain ⟨m, hm, g6⟩ := natK_true g5
  subst hj hhh hm
  rcases rec_ble g6 with ⟨hle, g7⟩ | ⟨_, g7⟩
  rotate_left
  · cases g7
  rcases rec_ble g7 with ⟨hle2, g8⟩ | ⟨_, g8⟩
  rotate_left
  · cases g8
  rcases VV.onS_true g8 with ⟨hv, g9⟩ | ⟨q, o, n, c, kn, hv, g9⟩
  · rcases rec_beq g9 with ⟨hm0, g10⟩ | ⟨_, g10⟩
    · subst hm0
      have : hh = 0 := by omega
      subst this
      have : j = 0 := by omega
      subst this
      exact ⟨0, 0, rfl, rfl, rfl, Nat.le_refl _, .inl ⟨hv, rfl, rfl, g10⟩⟩
    · cases g10
  · rcases rec_ble g9 with ⟨hle3, g10⟩ | ⟨_, g10⟩
    rotate_left
    · cases g10
    rcases rec_beq g10 with ⟨hj0, g11⟩ | ⟨_, g11⟩
    rotate_left
    · cases g11
    subst hj0
    exact ⟨hh, m, rfl, rfl, rfl, hle2, .inr ⟨q, o, n, c, kn, hv, hle3, forceN_true (forceN_true g11)⟩⟩
theorem sl3_ok (hT : TabOk P T) {t : TypeId} {el s b : Nat} {i : TyI} {x z u : Operand} {y : Option Operand} {x' z' u' : X} {y0 : VV} {sz : Nat} (ht : T.find t = some ⟨.slice el, s, b⟩) (hel : T.find el = some i) (h : v_sl3 (x'.get ve) y0 (z'.get ve) (u'.get ve) sz k = true) (hx : XR x' x) (hz : XR z' z) (hu : XR u' u)
    (hy : ∀ ρ e, ERl ρ ve e → ∀ y', y = some y' → y0 = .i ((0 : Nat) : Int) → ∃ w, Eng.look e y' = some (true, w) ∧ w = .int .i64 ((0 : Nat) : Int)) : ∃ v, k v = true ∧ Means P ve (.slice t x y (some z) (some u)) v := by
  obtain ⟨hh, m, e1, e2, e3, hle, hc⟩ := v_sl3_true h
  rcases hc with ⟨hv, rfl, rfl, hk⟩ | ⟨q, o, n, c, kn, hv, hle3, hk⟩
  · refine ⟨_, hk, fun ρ e he => ?_⟩
    obtain ⟨w2, g2, rfl⟩ := hz.look he e2 rfl
    obtain ⟨w3, g3, rfl⟩ := hu.look he e3 rfl
    obtain ⟨w, g1, rfl⟩ := hx.look he hv rfl
    exact ⟨_, rfl, fun d ty p af g => pure_slice30 hT ht hel g1 (fun y' hy' => by obtain ⟨w, a1, rfl⟩ := hy ρ e he y' hy' e1; exact a1) g2 g3 ⟨Nat.le_refl _, Nat.le_refl _⟩⟩
  · refine ⟨_, hk, fun ρ e he => ?_⟩
    obtain ⟨w2, g2, rfl⟩ := hz.look he e2 rfl
    obtain ⟨w3, g3, rfl⟩ := hu.look he e3 rfl
    obtain ⟨w, g1, r, mm, cap, h2, rfl, h4, h5, h6⟩ := hx.look he hv rfl
    have hc := room_le h4 h5 hle3
    exact ⟨_, ⟨r, mm, m, h2, rfl, hle, fun _ => rfl, fun h => (by cases h)⟩, fun d ty p af g => pure_slice30 hT ht hel g1 (fun y' hy' => by obtain ⟨w, a1, rfl⟩ := hy ρ e he y' hy' e1; exact a1) g2 g3 ⟨hle, hc⟩⟩
theorem pure_quo0 {lk : Operand → Option (Bool × Value)} {d ty p af g} {xt yt : TypeId} {x y : Operand} {a b : Int} (hx : lk x = some (true, .int .i64 a)) (hy : lk y = some (true, .int .i64 b)) (h : -b < a ∧ a < 0) :
    PureL P lk ⟨d, .binOp .quo xt x y yt, ty, p, af, g⟩ (.int .i64 0) := fun ρ ha w => by
  have h1 := ha x (by simp [Op.operands]) _ hx
  have h2 := ha y (by simp [Op.operands]) _ hy
  refine exec_binOp (by rw [h1, h2]; exact run_eqGuard_int) ?_
  rw [h1, h2]
  have hb : b ≠ 0 := by omega
  have h0 : a.tdiv b = 0 := by
    have e : a = -(-a) := by omega
    rw [e, Int.neg_tdiv, Int.tdiv_eq_ediv_of_nonneg (by omega), Int.ediv_eq_zero_of_lt (by omega) (by omega)]
    rfl
  simp [binOp, Op.intDiv, hb, h0, IntWalk.i64_in]
theorem known_under (hT : TabOk P T) {t i} (ht : T.find t = some i) (hk : i.d.known = true) : ∃ d, P.underlying t = some d ∧ ∀ m, d ≠ .interface m := by
  obtain ⟨d, hd, hok⟩ := hT.under ht
  refine ⟨d, hd, fun m e => ?_⟩
  subst e
  obtain ⟨id, s, b⟩ := i
  cases id <;> first | (cases hk; done) | cases hok
theorem pure_mki (hT : TabOk P T) {lk : Operand → Option (Bool × Value)} {d ty p af g t i x u} (ht : T.find t = some i) (hk : i.d.known = true) (h : lk x = some (true, u)) : PureL P lk ⟨d, .makeInterface t x, ty, p, af, g⟩ (.iface t u) := fun ρ ha w => by
  have h1 := ha x (by simp [Op.operands]) _ h
  obtain ⟨dd, hd, hne⟩ := known_under hT ht hk
  have : execOp ρ ⟨d, .makeInterface t x, ty, p, af, g⟩ = (do pure (.value (← Instr.makeInterface t (ρ x)))) := rfl
  rw [this, h1]
  simp only [Instr.makeInterface, Sem.run_bind, run_underlying hd, Result.andThen_ok]
  cases dd <;> first | exact absurd rfl (hne _) | rfl
theorem pure_tas (hT : TabOk P T) {lk : Operand → Option (Bool × Value)} {d ty p af g t i xt x u ok} (ht : T.find t = some i) (hk : i.d.known = true) (h : lk x = some (true, .iface t u)) : PureL P lk ⟨d, .typeAssert x xt t ok, ty, p, af, g⟩ (bif ok then .tuple #[u, .bool true] else u) := fun ρ ha w => by
  have h1 := ha x (by simp [Op.operands]) _ h
  obtain ⟨dd, hd, hne⟩ := known_under hT ht hk
  have : execOp ρ ⟨d, .typeAssert x xt t ok, ty, p, af, g⟩ = (do pure (.value (← Instr.typeAssert (ρ x) xt t ok))) := rfl
  rw [this, h1]
  simp only [Instr.typeAssert, Sem.run_bind, run_underlying hd, Result.andThen_ok]
  cases dd <;> first | exact absurd rfl (hne _) | (cases ok <;> simp)
theorem pure_ok (hT : TabOk P T) {op : Op} {y : Y1} (ht : Tr1 T op y) (h : pureK ve y k = true) : ∃ v, k v = true ∧ Means P ve op v := by
  cases ht with
  | mv hx =>
    have h : (X.getK ve _ fun v => v.onAny (k v)) = true := h
    rw [X.getK_eq] at h
    obtain ⟨h1, h⟩ := VV.onAny_true h
    exact ⟨_, h, fun ρ e he => by obtain ⟨u, h2, h3⟩ := hx.look he rfl h1; exact ⟨u, h3, fun d ty p af g => pure_move h2⟩⟩
  | as hx =>
    have h : (X.getK ve _ fun v => v.onAny (k v)) = true := h
    rw [X.getK_eq] at h
    obtain ⟨h1, h⟩ := VV.onAny_true h
    exact ⟨_, h, fun ρ e he => by obtain ⟨u, h2, h3⟩ := hx.look he rfl h1; exact ⟨u, h3, fun d ty p af g => pure_assign h2⟩⟩
  | @nck o x hx =>
    have h : (x.getK ve fun v => v.onN (k v)) = true := h
    rw [X.getK_eq] at h
    obtain ⟨hv, h⟩ := VV.onN_true h
    rcases hv with ⟨b, o, hv⟩ | ⟨f, xs, ys, hv⟩
    · refine ⟨_, h, fun ρ e he => ?_⟩
      obtain ⟨u, h2, h3⟩ := hx.look he hv rfl
      rw [hv]
      have h3' := h3
      obtain ⟨r, c, _, rfl⟩ := h3'
      exact ⟨_, h3, fun d ty p af g => pure_nilCheck h2⟩
    · refine ⟨_, h, fun ρ e he => ?_⟩
      obtain ⟨u, h2, h3⟩ := hx.look he hv rfl
      rw [hv]
      have h3' := h3
      obtain ⟨us, vs, rfl, _⟩ := h3'
      exact ⟨_, h3, fun d ty p af g => pure_nilCheckF h2⟩
  | @ext o x j hx =>
    have h : (x.getK ve fun v => v.onT fun l => nthK l j fun v => v.onAny (k v)) = true := h
    rw [X.getK_eq] at h
    obtain ⟨l, hl, h⟩ := VV.onT_true h
    obtain ⟨v, hv, h⟩ := nthK_true h
    obtain ⟨h1, h⟩ := VV.onAny_true h
    refine ⟨v, h, fun ρ e he => ?_⟩
    obtain ⟨u, h2, us, rfl, h4⟩ := hx.look he hl rfl
    obtain ⟨w, h5, h6⟩ := h4.get hv
    exact ⟨w, h6, fun d ty p af g => pure_extract h2 (by simpa using h5)⟩
  | @not o x t hx =>
    have h : (x.getK ve fun v => v.onB fun b => (Bool.rec (k (.bool true)) (k (.bool false)) b : Bool)) = true := h
    rw [X.getK_eq] at h
    obtain ⟨b, hb, h⟩ := VV.onB_true h
    refine ⟨.bool (!b), by cases b <;> exact h, fun ρ e he => ?_⟩
    obtain ⟨u, h2, rfl⟩ := hx.look he hb rfl
    exact ⟨_, rfl, fun d ty p af g => pure_not h2⟩
  | @pick c a b c' a' b' hc ha hb =>
    have h : (c'.getK ve fun c => a'.getK ve fun a => b'.getK ve fun b => v_pick c a b k) = true := h
    rw [X.getK_eq, X.getK_eq, X.getK_eq] at h
    obtain ⟨c1, hc1, h⟩ := VV.onB_true h
    cases c1 with
    | true =>
      have h : ((X.get ve a').onAny (k (X.get ve a'))) = true := h
      obtain ⟨h1, h⟩ := VV.onAny_true h
      refine ⟨_, h, fun ρ e he => ?_⟩
      obtain ⟨u, h2, rfl⟩ := hc.look he hc1 rfl
      obtain ⟨w, h3, h4⟩ := ha.look he rfl h1
      exact ⟨w, h4, fun d ty p af g => pure_pickT h2 h3⟩
    | false =>
      have h : ((X.get ve b').onAny (k (X.get ve b'))) = true := h
      obtain ⟨h1, h⟩ := VV.onAny_true h
      refine ⟨_, h, fun ρ e he => ?_⟩
      obtain ⟨u, h2, rfl⟩ := hc.look he hc1 rfl
      obtain ⟨w, h3, h4⟩ := hb.look he rfl h1
      exact ⟨w, h4, fun d ty p af g => pure_pickF h2 h3⟩
  | add hx hy =>
    obtain ⟨v, w, h, hl⟩ := get2 hx hy h
    obtain ⟨r, ⟨h1, h2, h⟩, hv⟩ := v_add_true h
    exact arith2_ok h (hl h1.ok h2.ok) fun ρ u u' hu hu' => by obtain ⟨m, n, z, h3, h4, h5, h6⟩ := hv ρ u u' hu hu'; exact ⟨m, n, z, h3, h4, .inl ⟨rfl, h5⟩, h6⟩
  | sub hx hy =>
    obtain ⟨v, w, h, hl⟩ := get2 hx hy h
    obtain ⟨r, ⟨h1, h2, h⟩, hv⟩ := v_sub_true h
    exact arith2_ok h (hl h1.ok h2.ok) fun ρ u u' hu hu' => by obtain ⟨m, n, z, h3, h4, h5, h6⟩ := hv ρ u u' hu hu'; exact ⟨m, n, z, h3, h4, .inr (.inl ⟨rfl, h5⟩), h6⟩
  | mul hx hy => obtain ⟨m, n, h, hl⟩ := int2 hx hy h; exact arith_ok (.inr (.inr ⟨rfl, mulZ_eq m n⟩)) h hl
  | quo hx hy =>
    obtain ⟨v, w, h, hl⟩ := get2 hx hy h
    rcases VV.onY_true h with ⟨m, rfl, h⟩ | ⟨q, lo, hi, c, rfl, h⟩
    · obtain ⟨n, rfl, h⟩ := VV.onI_true (v := w) h
      obtain ⟨n0, rfl, h4⟩ := natK_true (j := n) h
      unfold quoK at h4
      rcases rec_beq h4 with ⟨_, h5⟩ | ⟨hn, h5⟩
      · cases h5
      · cases m with
        | ofNat m0 =>
          have h5 : (Bool.rec false (forceN (Nat.div m0 n0) fun n => k (.i (.ofNat n))) (Nat.ble m0 9223372036854775807) : Bool) = true := h5
          rcases rec_ble h5 with ⟨hm, h6⟩ | ⟨_, h6⟩
          · refine ⟨_, forceN_true h6, fun ρ e he => ⟨_, rfl, fun d ty p af g => ?_⟩⟩
            obtain ⟨u, u', h1, h2, rfl, rfl⟩ := hl rfl rfl ρ e he
            exact pure_quo h1 h2 ⟨by simp only [Int.ofNat_eq_natCast]; omega, by simp only [Int.ofNat_eq_natCast]; omega, by omega⟩
          · cases h6
        | negSucc m0 =>
          have h5 : (Bool.rec false (k (.i (.ofNat 0))) (Nat.blt (Nat.succ m0) n0) : Bool) = true := h5
          obtain ⟨hb, h6⟩ := brec_true h5
          have hb := Nat.blt_eq.mp hb
          refine ⟨_, h6, fun ρ e he => ⟨_, rfl, fun d ty p af g => ?_⟩⟩
          obtain ⟨u, u', h1, h2, rfl, rfl⟩ := hl rfl rfl ρ e he
          exact pure_quo0 h1 h2 ⟨by omega, by omega⟩
    · obtain ⟨n, rfl, h⟩ := VV.onI_true (v := w) h
      obtain ⟨n0, rfl, h4⟩ := natK_true (j := n) h
      rcases rec_beq h4 with ⟨_, h5⟩ | ⟨hn, h5⟩
      · cases h5
      obtain ⟨l0, hl0, h5⟩ := natK_true (j := addZ lo c) h5
      obtain ⟨h0, hh0, h5⟩ := natK_true (j := addZ hi c) h5
      obtain ⟨hm, h5⟩ := brec_true h5
      have hm := Nat.le_of_ble_eq_true hm
      obtain ⟨heq, h5⟩ := brec_true h5
      have heq := Nat.eq_of_beq_eq_true heq
      have h6 := forceN_true h5
      rw [addZ_eq] at hl0 hh0
      refine ⟨_, h6, fun ρ e he => ?_⟩
      obtain ⟨u, u', h1, h2, ⟨r, s, _, h7, h8, rfl⟩, rfl⟩ := hl rfl rfl ρ e he
      have hrn : ∃ r0 : Nat, (r : Int) + c = r0 := ⟨((r : Int) + c).toNat, by omega⟩
      obtain ⟨r0, hr0⟩ := hrn
      have hd : r0 / n0 = l0 / n0 := by
        have a1 : l0 / n0 ≤ r0 / n0 := Nat.div_le_div_right (by omega)
        have a2 : r0 / n0 ≤ h0 / n0 := Nat.div_le_div_right (by omega)
        have heq : l0 / n0 = h0 / n0 := heq
        omega
      have e : ((r : Int) + c) / (n0 : Int) = ((l0 / n0 : Nat) : Int) := by rw [hr0, ← hd]; exact (Int.natCast_ediv r0 n0).symm
      refine ⟨.int .i64 (((r : Int) + c) / (n0 : Int)), by rw [e]; rfl, fun d ty p af g => pure_quo h1 h2 ⟨by omega, by omega, by omega⟩⟩
  | rem hx hy =>
    obtain ⟨m, n, h, hl⟩ := int2 hx hy h
    obtain ⟨m0, rfl, h3⟩ := natK_true h
    obtain ⟨n0, rfl, h4⟩ := natK_true h3
    rcases rec_beq h4 with ⟨_, h5⟩ | ⟨hn, h5⟩
    · cases h5
    · refine ⟨_, forceN_true h5, fun ρ e he => ⟨_, rfl, fun d ty p af g => ?_⟩⟩
      obtain ⟨h1, h2⟩ := hl ρ e he
      exact pure_rem h1 h2 ⟨by omega, by omega⟩
  | eq hx hy =>
    obtain ⟨v, w, h, hl⟩ := get2 hx hy h
    obtain ⟨r, ⟨h1, h2, h⟩, hv⟩ := v_eq_true h
    exact cmp2_ok h (hl h1 h2) fun ρ u u' hu hu' => by obtain ⟨m, n, h3, h4, h5⟩ := hv ρ u u' hu hu'; exact ⟨m, n, h3, h4, by simp [cmpI, h5]⟩
  | ne hx hy =>
    obtain ⟨v, w, h, hl⟩ := get2 hx hy h
    obtain ⟨r, ⟨h1, h2, h⟩, hv⟩ := eqY_true h
    exact cmp2_ok (boolK_true h) (hl h1.ok h2.ok) fun ρ u u' hu hu' => by obtain ⟨m, n, h3, h4, h5⟩ := hv ρ u u' hu hu'; exact ⟨m, n, h3, h4, by simp [cmpI, h5, notB_eq]⟩
  | lt hx hy =>
    obtain ⟨v, w, h, hl⟩ := get2 hx hy h
    obtain ⟨r, ⟨h1, h2, h⟩, hv⟩ := v_lt_true h
    exact cmp2_ok h (hl h1 h2) fun ρ u u' hu hu' => by obtain ⟨m, n, h3, h4, h5⟩ := hv ρ u u' hu hu'; exact ⟨m, n, h3, h4, by simp [cmpI, h5]⟩
  | le hx hy =>
    obtain ⟨v, w, h, hl⟩ := get2 hx hy h
    obtain ⟨r, ⟨h1, h2, h⟩, hv⟩ := leY_true h
    exact cmp2_ok (boolK_true h) (hl h1.ok h2.ok) fun ρ u u' hu hu' => by obtain ⟨m, n, h3, h4, h5⟩ := hv ρ u u' hu hu'; exact ⟨m, n, h3, h4, by simp [cmpI, h5]⟩
  | gt hx hy =>
    obtain ⟨v, w, h, hl⟩ := get2 hy hx h
    obtain ⟨r, ⟨h1, h2, h⟩, hv⟩ := v_lt_true h
    refine cmp2_ok (v := w) (w := v) h (fun ρ e he => ?_) fun ρ u u' hu hu' => by obtain ⟨m, n, h3, h4, h5⟩ := hv ρ u' u hu' hu; exact ⟨n, m, h4, h3, by simp [cmpI, h5]⟩
    obtain ⟨u, u', h3, h4, h5, h6⟩ := hl h1 h2 ρ e he
    exact ⟨u', u, h4, h3, h6, h5⟩
  | ge hx hy =>
    obtain ⟨v, w, h, hl⟩ := get2 hy hx h
    obtain ⟨r, ⟨h1, h2, h⟩, hv⟩ := leY_true h
    refine cmp2_ok (v := w) (w := v) (boolK_true h) (fun ρ e he => ?_) fun ρ u u' hu hu' => by obtain ⟨m, n, h3, h4, h5⟩ := hv ρ u' u hu' hu; exact ⟨n, m, h4, h3, by simp [cmpI, h5]⟩
    obtain ⟨u, u', h3, h4, h5, h6⟩ := hl h1.ok h2.ok ρ e he
    exact ⟨u', u, h4, h3, h6, h5⟩
  | @kop op t t' x y x' y' hx hy =>
    obtain ⟨j, m, i, n, h, hl⟩ := kind2 hx hy h
    cases hs : isShf op with
    | true =>
      rw [hs] at h
      obtain ⟨z, hz, h⟩ := optK_true h
      have h := forceZ_true h
      refine ⟨_, h, means_int (fun ρ => (intV_eq ρ j z _).2 rfl) fun ρ e he d ty p af g => ?_⟩
      exact pure_shf (hl ρ e he).1 (hl ρ e he).2 hz
    | false =>
      rw [hs] at h
      have h2 : (Bool.rec false (optK (kopZ op j m n) fun z => forceZ z fun z => k (intV j z)) (kEq j i) : Bool) = true := h
      obtain ⟨hk, h3⟩ := brec_true h2
      have := kEq_eq hk
      subst this
      obtain ⟨z, hz, h4⟩ := optK_true h3
      refine ⟨_, forceZ_true h4, means_int (fun ρ => (intV_eq ρ j z _).2 rfl) fun ρ e he d ty p af g => ?_⟩
      exact pure_kop (hl ρ e he).1 (hl ρ e he).2 hz
  | kcmp hx hy =>
    obtain ⟨j, m, i, n, h, hl⟩ := kind2 hx hy h
    obtain ⟨hk, h2⟩ := brec_true h
    have := kEq_eq hk
    subst this
    obtain ⟨c, hc, h3⟩ := optK_true h2
    exact cmp_ok hc (boolK_true h3) hl
  | @conv src dst kd s b i x x' hdst hsrc hx =>
    have h : (x'.getK ve fun a => a.onK fun _ a => forceZ (kd.wrap a) fun z => k (intV kd z)) = true := h
    rw [X.getK_eq] at h
    obtain ⟨j, m, hok, hm, h⟩ := VV.onK_true h
    have h := forceZ_true h
    refine ⟨_, h, means_int (fun ρ => (intV_eq ρ kd _ _).2 rfl) fun ρ e he d ty p af g => ?_⟩
    obtain ⟨u, h1, h2⟩ := hx.look he rfl hok
    rw [hm _ _ h2] at h1
    obtain ⟨dd, hd, _⟩ := hT.under hsrc
    exact pure_conv hT hdst ⟨dd, hd⟩ h1
  | @beq n op t t' s b x y x' y' ht hop hx hy =>
    have h : (x'.getK ve fun a => a.onB fun a => y'.getK ve fun b => b.onB fun b => boolK (negIf n (Bool.rec (notB b) b a)) k) = true := h
    rw [X.getK_eq] at h
    obtain ⟨m, hm, h⟩ := VV.onB_true h
    rw [X.getK_eq] at h
    obtain ⟨q, hq, h⟩ := VV.onB_true h
    have e1 : (Bool.rec (notB q) q m : Bool) = (m == q) := by cases m <;> cases q <;> rfl
    rw [e1] at h
    refine ⟨_, boolK_true h, fun ρ e he => ?_⟩
    obtain ⟨u, h1, rfl⟩ := hx.look he hm rfl
    obtain ⟨w, h2, rfl⟩ := hy.look he hq rfl
    exact ⟨_, rfl, fun d ty p af g => pure_beq hT ht h1 h2 (eqR_ok hop)⟩
  | @seq n op t t' x y x' y' hop hx hy =>
    obtain ⟨v, w, h, hl⟩ := get2 hx hy h
    have key : ∀ c, v.ok = true → w.ok = true → k (.bool (negIf n c)) = true → (∀ ρ u u', Rl ρ v u → Rl ρ w u' → ∃ a b : ByteArray, u = .string a ∧ u' = .string b ∧ c = decide (a = b)) → ∃ v, k v = true ∧ Means P ve (.binOp op t x y t') v := fun c o1 o2 hk hc =>
      ⟨_, hk, fun ρ e he => by
        obtain ⟨u, u', h1, h2, h3, h4⟩ := hl o1 o2 ρ e he
        obtain ⟨a, b, rfl, rfl, rfl⟩ := hc ρ u u' h3 h4
        refine ⟨_, rfl, fun d ty p af g => ?_⟩
        have := eqStr_ok (P := P) (op := op) (xt := t) (yt := t') (d := d) (ty := ty) (p := p) (af := af) (g := g) h1 h2
        rcases hop with ⟨rfl, rfl⟩ | ⟨rfl, rfl⟩
        · exact this
        · rw [show negIf true (decide (a = b)) = !decide (a = b) from notB_eq _]; exact this⟩
    rcases VV.onSt_true h with ⟨m, rfl, h⟩ | ⟨m, rfl, h⟩
    · obtain ⟨q, rfl, h⟩ := VV.onStr_true (v := w) h
      refine key _ rfl rfl (boolK_true h) fun ρ u u' hu hu' => ⟨_, _, hu.1, hu'.1, ?_⟩
      rw [eqNs_eq, decide_eq_decide]; exact (str_inj hu.2 hu'.2).symm
    · rcases VV.onTx_true (v := w) h with h | ⟨q, rfl, h⟩
      · cases h
      obtain ⟨hq, h⟩ := brec_true h
      refine key true rfl rfl (boolK_true h) fun ρ u u' hu hu' => ?_
      obtain ⟨b, rfl, hb⟩ := hu
      obtain ⟨b', rfl, hb'⟩ := hu'
      exact ⟨_, _, rfl, rfl, by rw [eqTx_ok hq hb hb']; simp⟩
  | @aeq n op t t' l s b x y x' y' cs ht hag hcs hop hx hy =>
    have h : (x'.getK ve fun a => a.onA fun a => y'.getK ve fun b => b.onA fun b => eqLK cs a b fun c => boolK (negIf n c) k) = true := h
    rw [X.getK_eq] at h
    obtain ⟨m, hm, h⟩ := VV.onA_true h
    rw [X.getK_eq] at h
    obtain ⟨q, hq, h⟩ := VV.onA_true h
    obtain ⟨c, h, hc⟩ := eqLK_true h
    refine ⟨_, boolK_true h, fun ρ e he => ?_⟩
    obtain ⟨u, h1, us, rfl, hu, _⟩ := hx.look he hm rfl
    obtain ⟨w, h2, ws, rfl, hw, _⟩ := hy.look he hq rfl
    refine ⟨_, rfl, fun d ty p af g => ?_⟩
    have h3 := eqAgg_ok (P := P) hT (op := op) (yt := t') (d := d) (ty := ty) (p := p) (af := af) (g := g) ht hag h1 h2
    rw [eqK_top hcs (hc ρ us ws hu hw) ht] at h3
    rcases hop with ⟨rfl, rfl⟩ | ⟨rfl, rfl⟩
    · exact h3
    · rw [show negIf true c = !c from notB_eq _]; exact h3
  | @nqP n op t t' el s b x x' ht hop hx =>
    have h : (x'.getK ve fun v => v.onNP (boolK (notB n) k) (boolK n k)) = true := h
    rw [X.getK_eq] at h
    obtain ⟨q1, q2, _⟩ := nilq_eql hop
    rcases VV.onNP_true h with ⟨hv, h⟩ | ⟨⟨b, o, hv⟩, h⟩
    · refine ⟨_, boolK_true h, fun ρ e he => ?_⟩
      obtain ⟨u, h1, rfl⟩ := hx.look he hv rfl
      exact ⟨_, rfl, fun d ty p af g => pure_nilq hT ht h1 rfl q1⟩
    · refine ⟨_, boolK_true h, fun ρ e he => ?_⟩
      obtain ⟨u, h1, r, c, _, rfl⟩ := hx.look he hv rfl
      exact ⟨_, rfl, fun d ty p af g => pure_nilq hT ht h1 rfl (q2 _)⟩
  | @nqS n op t t' el s b x x' q r ht hop hx =>
    have h : (x'.getK ve fun v => v.onNS (boolK (notB n) k) (boolK n k)) = true := h
    rw [X.getK_eq] at h
    obtain ⟨_, _, q1, q2, _⟩ := nilq_eql hop
    rcases VV.onNS_true h with ⟨hv, h⟩ | ⟨hok, hv, h⟩
    · refine ⟨_, boolK_true h, fun ρ e he => ?_⟩
      obtain ⟨u, h1, rfl⟩ := hx.look he hv rfl
      exact ⟨_, rfl, fun d ty p af g => pure_nilqS hT ht h1 rfl (q1 _ _ _ _)⟩
    · refine ⟨_, boolK_true h, fun ρ e he => ?_⟩
      obtain ⟨u, h1, h2⟩ := hx.look he rfl hok
      obtain ⟨a, m, c, rfl⟩ := hv _ _ h2
      exact ⟨_, rfl, fun d ty p af g => pure_nilqS hT ht h1 rfl (q2 _ _ _ _ _)⟩
  | @nqF n op t t' s b x x' ht hop hx =>
    have h : (x'.getK ve fun v => v.onNF (boolK (notB n) k) (boolK n k)) = true := h
    rw [X.getK_eq] at h
    obtain ⟨_, _, _, _, q1, q2⟩ := nilq_eql hop
    rcases VV.onNF_true h with ⟨hv, h⟩ | ⟨⟨f, xs, ys, hv⟩, h⟩
    · refine ⟨_, boolK_true h, fun ρ e he => ?_⟩
      obtain ⟨u, h1, rfl⟩ := hx.look he hv rfl
      exact ⟨_, rfl, fun d ty p af g => pure_nilqF hT ht h1 rfl q1⟩
    · refine ⟨_, boolK_true h, fun ρ e he => ?_⟩
      obtain ⟨u, h1, us, vs, rfl, _⟩ := hx.look he hv rfl
      exact ⟨_, rfl, fun d ty p af g => pure_nilqF hT ht h1 rfl (q2 _ _ _)⟩
  | @fa t l s b f fo ft i x x' ht hf hi hz hx =>
    have h : (x'.getK ve fun v => v.onP fun b o' => forceN (Nat.add o' fo) fun o => k (.ptr b o)) = true := h
    rw [X.getK_eq] at h
    obtain ⟨q, o, hv, h⟩ := VV.onP_true h
    refine ⟨_, forceN_true h, fun ρ e he => ?_⟩
    obtain ⟨u, h1, r, c, h2, rfl⟩ := hx.look he hv rfl
    exact ⟨_, ⟨r, c, h2, rfl⟩, fun d ty p af g => pure_field hT ht hf hi hz h1⟩
  | @ixS t el s b ie x i x' i' ht hel hx hi =>
    have h : (i'.getK ve fun j => j.onI fun j => x'.getK ve fun v => v.onX (fun b o n => Bool.rec false (forceN (offN o j ie.size) fun o => k (.ptr b o)) (inN j n)) fun b m => Bool.rec false (forceN (offN 0 j ie.size) fun o => k (.bpt b o)) (inN j m)) = true := h
    rw [X.getK_eq] at h
    obtain ⟨j, hj, h⟩ := VV.onI_true h
    rw [X.getK_eq] at h
    rcases VV.onX_true h with ⟨q, o, n, c, kn, hv, h⟩ | ⟨q, q2, n, hi', hv, h⟩
    · obtain ⟨hin, h⟩ := brec_true h
      obtain ⟨m, rfl, hm⟩ := inN_true hin
      have h := forceN_true h
      rw [offN_eq] at h
      refine ⟨_, h, fun ρ e he => ?_⟩
      obtain ⟨w, h3, rfl⟩ := hi.look he hj rfl
      obtain ⟨u, h1, r, mm, cap, h2, rfl, _⟩ := hx.look he hv rfl
      exact ⟨_, ⟨r, mm, h2, rfl⟩, fun d ty p af g => pure_indexS hT ht hel h1 h3 ⟨by omega, by omega⟩⟩
    · obtain ⟨hin, h⟩ := brec_true h
      obtain ⟨m, rfl, hm⟩ := inN_true hin
      have h := forceN_true h
      rw [offN_eq, Nat.zero_add] at h
      refine ⟨_, h, fun ρ e he => ?_⟩
      obtain ⟨w, h3, rfl⟩ := hi.look he hj rfl
      obtain ⟨u, h1, r, s0, rb, o, cap, h2, h4, h5, h6, rfl⟩ := hx.look he hv rfl
      exact ⟨_, ⟨rb, o, h4, rfl⟩, fun d ty p af g => pure_indexS hT ht hel h1 h3 ⟨by omega, by omega⟩⟩
  | @ixA t n el s b ie x i x' i' ht hel hx hi =>
    have h : (i'.getK ve fun j => j.onI fun j => x'.getK ve fun v => v.onP fun b o => Bool.rec false (forceN (offN o j ie.size) fun o => k (.ptr b o)) (inN j n)) = true := h
    rw [X.getK_eq] at h
    obtain ⟨j, hj, h⟩ := VV.onI_true h
    rw [X.getK_eq] at h
    obtain ⟨q, o, hv, h⟩ := VV.onP_true h
    obtain ⟨hin, h⟩ := brec_true h
    obtain ⟨m, rfl, hm⟩ := inN_true hin
    have h := forceN_true h
    rw [offN_eq] at h
    refine ⟨_, h, fun ρ e he => ?_⟩
    obtain ⟨w, h3, rfl⟩ := hi.look he hj rfl
    obtain ⟨u, h1, r, c, h2, rfl⟩ := hx.look he hv rfl
    exact ⟨_, ⟨r, c, h2, rfl⟩, fun d ty p af g => pure_indexA hT ht hel h1 h3 ⟨by omega, by omega⟩⟩
  | @fd t l s b f fo ft i x x' ht hf hi ho hx =>
    have h : (x'.getK ve fun v => v.onA fun l => (Bool.rec (nthK l fo fun v => v.onOne (k v)) (dropK fo l fun l => takeK i.size l fun l => k (.agg l)) i.d.agg : Bool)) = true := h
    rw [X.getK_eq] at h
    obtain ⟨m, hm, h⟩ := VV.onA_true h
    cases hag : i.d.agg with
    | true =>
      rw [hag] at h
      have h : (dropK fo m fun l => takeK i.size l fun l => k (.agg l)) = true := h
      rw [dropK_eq, takeK_eq] at h
      refine ⟨_, h, fun ρ e he => ?_⟩
      obtain ⟨u, h1, us, rfl, h2, h3⟩ := hx.look he hm rfl
      refine ⟨_, ⟨_, rfl, (h2.drop fo).take i.size, ?_⟩, fun d ty p af g => pure_fieldV hT ht hf hi ho h1 (.inl ⟨hag, rfl⟩)⟩
      rw [List.all_eq_true] at h3 ⊢
      exact fun z hz => h3 z (List.mem_of_mem_drop (List.mem_of_mem_take hz))
    | false =>
      rw [hag] at h
      obtain ⟨v, hv, h⟩ := nthK_true h
      obtain ⟨_, h⟩ := VV.onOne_true h
      refine ⟨_, h, fun ρ e he => ?_⟩
      obtain ⟨u, h1, us, rfl, h2, h3⟩ := hx.look he hm rfl
      obtain ⟨w, h4, h5⟩ := h2.get hv
      exact ⟨w, h5, fun d ty p af g => pure_fieldV hT ht hf hi ho h1 (.inr ⟨hag, h4⟩)⟩
  | @bldS t l s b zs zs' parts ps ht hz hzs hone hall hbr =>
    obtain ⟨r, h, hr⟩ := bldK_true (ve := ve) hbr rfl (K := fun l => k (.agg l)) h
    refine ⟨_, h, fun ρ e he => ?_⟩
    obtain ⟨h1, vs, h2, rR, h3, h4⟩ := hr ρ e he hone zs (hzs ρ)
    exact ⟨_, ⟨rR, rfl, h4, h1⟩, fun d ty p af g => pure_buildS hT ht hz hall h2 h3⟩
  | @bldA t n el s b ie zs zs' parts ps ht hel hz hzs hone hbr =>
    obtain ⟨r, h, hr⟩ := bldK_true (ve := ve) hbr rfl (K := fun l => k (.agg l)) h
    refine ⟨_, h, fun ρ e he => ?_⟩
    obtain ⟨h1, vs, h2, rR, h3, h4⟩ := hr ρ e he hone zs (hzs ρ)
    exact ⟨_, ⟨rR, rfl, h4, h1⟩, fun d ty p af g => pure_buildA hT ht hel hz h2 h3⟩
  | @slH t el s b i x y x' y' ht hel hx hy =>
    have h : (y'.getK ve fun y => x'.getK ve fun x => v_slH x y k) = true := h
    rw [X.getK_eq, X.getK_eq] at h
    rcases VV.onY_true h with ⟨j, hj, h⟩ | ⟨sq, lo, hi, c, hj, h⟩
    rotate_left
    · rcases VV.onLs_true h with h | ⟨b1, sq', hv, h⟩
      · cases h
      obtain ⟨ln, hl, h⟩ := natK_true h
      obtain ⟨hn, hh, h⟩ := natK_true h
      obtain ⟨hcc, hk⟩ := brec_true h
      have e1 := Den.P.eqb_eq.1 (and1F hcc)
      have e2 : c = Int.ofNat 0 := of_decide_eq_true ((eqZ_eq _ _).symm.trans (and2F hcc))
      subst e1 e2 hl hh
      refine ⟨_, hk, fun ρ e he => ?_⟩
      obtain ⟨w, h3, n, s', g1, g2, g3, rfl⟩ := hy.look he hj rfl
      obtain ⟨u, h1, r, cap, n', s2, g4, g5, g6, rfl⟩ := hx.look he hv rfl
      rw [g1] at g5
      cases g5
      simp only [Int.ofNat_eq_natCast, Int.natCast_zero, Int.add_zero] at h3
      have hp := fun d ty p af g => pure_sliceH (d := d) (ty := ty) (p := p) (af := af) (g := g) hT ht hel h1 h3 ⟨by omega, by omega⟩
      simp only [Int.toNat_natCast] at hp
      exact ⟨_, ⟨r, cap, n, s', cap, g4, g1, by omega, by omega, g6, rfl⟩, hp⟩
    obtain ⟨m, hm, hh⟩ := natK_true h
    clear h
    have h := hh
    clear hh
    subst hm
    rcases VV.onS_true h with ⟨hv, h⟩ | ⟨q, o, n, c, kn, hv, h⟩
    · rcases rec_beq h with ⟨rfl, h⟩ | ⟨_, h⟩
      · refine ⟨_, h, fun ρ e he => ?_⟩
        obtain ⟨w, h3, rfl⟩ := hy.look he hj rfl
        obtain ⟨u, h1, rfl⟩ := hx.look he hv rfl
        exact ⟨_, rfl, fun d ty p af g => pure_sliceH hT ht hel h1 h3 ⟨by omega, by omega⟩⟩
      · cases h
    · rcases rec_ble h with ⟨hle, h⟩ | ⟨_, h⟩
      · refine ⟨_, h, fun ρ e he => ?_⟩
        obtain ⟨w, h3, rfl⟩ := hy.look he hj rfl
        obtain ⟨u, h1, r, mm, cap, h2, rfl, h4, h5, h6⟩ := hx.look he hv rfl
        have hc := room_le h4 h5 hle
        exact ⟨_, ⟨r, mm, cap, h2, rfl, hc, h5, h6⟩, fun d ty p af g => pure_sliceH hT ht hel h1 h3 ⟨by omega, by omega⟩⟩
      · cases h
  | @slL t el s b i x y x' y' ht hel hx hy =>
    have h : (y'.getK ve fun y => x'.getK ve fun x => v_slL x y i.size k) = true := h
    rw [X.getK_eq, X.getK_eq] at h
    rcases VV.onY_true h with ⟨j, hj, h⟩ | ⟨sq, lo, hi, c, hj, h⟩
    rotate_left
    · rcases VV.onBy_true h with h | ⟨b1, sq', ln, hn, hv, h⟩
      · cases h
      obtain ⟨hcc, hk⟩ := brec_true h
      have e1 := Den.P.eqb_eq.1 (and1F hcc)
      have e2 : c = Int.ofNat 0 := of_decide_eq_true ((eqZ_eq _ _).symm.trans (and2F hcc))
      subst e1 e2
      refine ⟨_, hk, fun ρ e he => ?_⟩
      obtain ⟨w, h3, n, s', g1, g2, g3, rfl⟩ := hy.look he hj rfl
      obtain ⟨u, h1, r, m, n', s2, cap, g4, g5, g6, g7, g8, rfl⟩ := hx.look he hv rfl
      rw [g1] at g5
      cases g5
      simp only [Int.ofNat_eq_natCast, Int.natCast_zero, Int.add_zero] at h3
      have hp := fun d ty p af g => pure_sliceL (d := d) (ty := ty) (p := p) (af := af) (g := g) hT ht hel h1 h3 ⟨by omega, by omega⟩
      simp only [Int.toNat_natCast, Nat.sub_self] at hp
      exact ⟨_, ⟨_, _, rfl⟩, hp⟩
    obtain ⟨m, hm, hh⟩ := natK_true h
    clear h
    have h := hh
    clear hh
    subst hm
    rcases VV.onS_true h with ⟨hv, h⟩ | ⟨q, o, n, c, kn, hv, h⟩
    · rcases rec_beq h with ⟨rfl, h⟩ | ⟨_, h⟩
      · refine ⟨_, h, fun ρ e he => ?_⟩
        obtain ⟨w, h3, rfl⟩ := hy.look he hj rfl
        obtain ⟨u, h1, rfl⟩ := hx.look he hv rfl
        exact ⟨_, rfl, fun d ty p af g => pure_sliceNil hT ht hel h1 h3⟩
      · cases h
    · rcases rec_ble h with ⟨hle, h⟩ | ⟨_, h⟩
      · have h := forceN_true h
        have h := forceN_true h
        have h := forceN_true h
        refine ⟨_, h, fun ρ e he => ?_⟩
        obtain ⟨w, h3, rfl⟩ := hy.look he hj rfl
        obtain ⟨u, h1, r, mm, cap, h2, rfl, h4, h5, h6⟩ := hx.look he hv rfl
        have hcr := cut_room (j := m) h5 h6 (by omega)
        refine ⟨_, ⟨r, mm, cap - m, h2, ?_, ?_, hcr⟩, fun d ty p af g => pure_sliceL hT ht hel h1 h3 ⟨by omega, by omega⟩⟩
        · rw [Int.toNat_natCast, slOff, if_neg (by omega)]; rfl
        · show n - m ≤ cap - m; omega
      · rcases rec_beq h with ⟨hjn, hh⟩ | ⟨_, hh⟩
        · subst hjn
          refine ⟨_, hh, fun ρ e he => ?_⟩
          obtain ⟨w, h3, rfl⟩ := hy.look he hj rfl
          obtain ⟨u, h1, r, mm, cap, h2, rfl, h4, h5, h6⟩ := hx.look he hv rfl
          refine ⟨_, ⟨⟨r, slOff cap m o i.size, none⟩, cap - m, ?_⟩, fun d ty p af g => pure_sliceL hT ht hel h1 h3 ⟨by omega, by omega⟩⟩
          rw [Int.toNat_natCast, Nat.sub_self]
        · cases hh
  | @slLH t el s b i x y z x' y' z' ht hel hx hy hz =>
    have h : (y'.getK ve fun y => z'.getK ve fun z => x'.getK ve fun x => v_slLH x y z i.size k) = true := h
    rw [X.getK_eq, X.getK_eq, X.getK_eq] at h
    obtain ⟨j, hj, h⟩ := VV.onI_true h
    obtain ⟨m, hm, hh⟩ := natK_true h
    clear h
    have h := hh
    clear hh
    subst hm
    obtain ⟨j2, hj2, h⟩ := VV.onI_true h
    obtain ⟨m2, hm, hh⟩ := natK_true h
    clear h
    have h := hh
    clear hh
    subst hm
    rcases VV.onS_true h with ⟨hv, h⟩ | ⟨q, o, n, c, kn, hv, h⟩
    · cases h
    rcases rec_ble h with ⟨hle, h⟩ | ⟨_, h⟩
    rotate_left
    · cases h
    rcases rec_ble h with ⟨hle2, h⟩ | ⟨_, h⟩
    rotate_left
    · cases h
    rcases rec_ble h with ⟨hle3, h⟩ | ⟨hle3, h⟩
    · have h := forceN_true h
      have h := forceN_true h
      have h := forceN_true h
      refine ⟨_, h, fun ρ e he => ?_⟩
      obtain ⟨w, h3, rfl⟩ := hy.look he hj rfl
      obtain ⟨w2, h32, rfl⟩ := hz.look he hj2 rfl
      obtain ⟨u, h1, r, mm, cap, h2, rfl, h4, h5, h6⟩ := hx.look he hv rfl
      have hc1 := room_le h4 h5 hle2
      have hc2 := room_le h4 h5 hle3
      have hcr := cut_room (j := m) h5 h6 (by omega)
      refine ⟨_, ⟨r, mm, cap - m, h2, ?_, ?_, hcr⟩, fun d ty p af g => pure_sliceLH hT ht hel h1 h3 h32 ⟨by omega, by omega, by omega⟩⟩
      · rw [Int.toNat_natCast, Int.toNat_natCast, slOff, if_neg (by omega)]; rfl
      · show m2 - m ≤ cap - m; omega
    · refine ⟨_, h, fun ρ e he => ?_⟩
      obtain ⟨w, h3, rfl⟩ := hy.look he hj rfl
      obtain ⟨w2, h32, rfl⟩ := hz.look he hj2 rfl
      obtain ⟨u, h1, r, mm, cap, h2, rfl, h4, h5, h6⟩ := hx.look he hv rfl
      have hc1 := room_le h4 h5 hle2
      refine ⟨_, ⟨⟨r, slOff cap m o i.size, none⟩, cap - m, ?_⟩, fun d ty p af g => pure_sliceLH hT ht hel h1 h3 h32 ⟨by omega, by omega, by omega⟩⟩
      rw [Int.toNat_natCast, Int.toNat_natCast, show m2 - m = 0 by omega]
  | @saL t n el s b i x y x' y' ht hel hx hy =>
    have h : (y'.getK ve fun j => j.onI fun j => natK j fun j => x'.getK ve fun v => v.onP fun b o => Bool.rec false (forceN (Nat.add o (Nat.mul j i.size)) fun o => forceN (Nat.sub n j) fun n => k (.slc b o n n true)) (Nat.ble (Nat.succ j) n)) = true := h
    rw [X.getK_eq] at h
    obtain ⟨j, hj, h⟩ := VV.onI_true h
    obtain ⟨m, hm, hh⟩ := natK_true h
    clear h
    have h := hh
    clear hh
    subst hm
    rw [X.getK_eq] at h
    obtain ⟨q, o, hv, h⟩ := VV.onP_true h
    rcases rec_ble h with ⟨hle, h⟩ | ⟨_, h⟩
    · have h := forceN_true h
      have h := forceN_true h
      refine ⟨_, h, fun ρ e he => ?_⟩
      obtain ⟨w, h3, rfl⟩ := hy.look he hj rfl
      obtain ⟨u, h1, r, mm, h2, rfl⟩ := hx.look he hv rfl
      refine ⟨_, ⟨r, mm, n - m, h2, ?_, Nat.le_refl _, fun _ => rfl, fun h => (by cases h)⟩, fun d ty p af g => pure_sliceA hT ht hel h1 h3 ⟨by omega, by omega⟩⟩
      rw [Int.toNat_natCast, slOff, if_neg (by omega)]; rfl
    · cases h
  | @saLH t n el s b i x y z x' y' z' ht hel hx hy hz =>
    have h : (y'.getK ve fun j => j.onI fun j => natK j fun j => z'.getK ve fun h => h.onI fun h => natK h fun h => x'.getK ve fun v => v.onP fun b o =>
      Bool.rec false (Bool.rec false (Bool.rec false (forceN (Nat.add o (Nat.mul j i.size)) fun o => forceN (Nat.sub h j) fun m => forceN (Nat.sub n j) fun c => k (.slc b o m c true)) (Nat.ble (Nat.succ j) n)) (Nat.ble h n)) (Nat.ble j h)) = true := h
    rw [X.getK_eq] at h
    obtain ⟨j, hj, h⟩ := VV.onI_true h
    obtain ⟨m, hm, hh⟩ := natK_true h
    clear h
    have h := hh
    clear hh
    subst hm
    rw [X.getK_eq] at h
    obtain ⟨j2, hj2, h⟩ := VV.onI_true h
    obtain ⟨m2, hm, hh⟩ := natK_true h
    clear h
    have h := hh
    clear hh
    subst hm
    rw [X.getK_eq] at h
    obtain ⟨q, o, hv, h⟩ := VV.onP_true h
    rcases rec_ble h with ⟨hle, h⟩ | ⟨_, h⟩
    rotate_left
    · cases h
    rcases rec_ble h with ⟨hle2, h⟩ | ⟨_, h⟩
    rotate_left
    · cases h
    rcases rec_ble h with ⟨hle3, h⟩ | ⟨_, h⟩
    rotate_left
    · cases h
    have h := forceN_true h
    have h := forceN_true h
    have h := forceN_true h
    refine ⟨_, h, fun ρ e he => ?_⟩
    obtain ⟨w, h3, rfl⟩ := hy.look he hj rfl
    obtain ⟨w2, h32, rfl⟩ := hz.look he hj2 rfl
    obtain ⟨u, h1, r, mm, h2, rfl⟩ := hx.look he hv rfl
    refine ⟨_, ⟨r, mm, n - m, h2, ?_, ?_, fun _ => rfl, fun h => (by cases h)⟩, fun d ty p af g => pure_sliceAH hT ht hel h1 h3 h32 ⟨by omega, by omega, by omega⟩⟩
    · rw [Int.toNat_natCast, Int.toNat_natCast, slOff, if_neg (by omega)]; rfl
    · show m2 - m ≤ n - m; omega
  | @mki t i x x' ht hk hx =>
    have h : (x'.getK ve fun x => v_mki t x k) = true := h
    rw [X.getK_eq] at h
    obtain ⟨hok, h⟩ := VV.onAny_true h
    refine ⟨_, h, fun ρ e he => ?_⟩
    obtain ⟨u, h1, h2⟩ := hx.look he rfl hok
    exact ⟨_, ⟨u, rfl, h2⟩, fun d ty p af g => pure_mki hT ht hk h1⟩
  | @tas t i xt x x' ok ht hk hx =>
    have h : (x'.getK ve fun x => v_tas t ok x k) = true := h
    rw [X.getK_eq] at h
    obtain ⟨t', w, hv, h⟩ := VV.onIf_true h
    obtain ⟨hok, h⟩ := VV.onAny_true h
    obtain ⟨hb, hk2⟩ := brec_true h
    have := Nat.eq_of_beq_eq_true hb
    subst this
    refine ⟨bif ok then .tup [w, .bool true] else w, by cases ok <;> exact hk2, fun ρ e he => ?_⟩
    obtain ⟨u, h1, u', rfl, h2⟩ := hx.look he hv rfl
    refine ⟨_, ?_, fun d ty p af g => pure_tas hT ht hk h1⟩
    cases ok
    · exact h2
    · exact ⟨[u', .bool true], rfl, u', _, rfl, h2, _, _, rfl, rfl, rfl⟩
  | @mkf q l1 l2 xs ys hx hy =>
    have h : (xsK ve xs fun xs => xsK ve ys fun ys => k (.fn q xs ys)) = true := h
    obtain ⟨vs, h, h1, h2⟩ := xsK_true h
    obtain ⟨ws, h, h3, h4⟩ := xsK_true h
    refine ⟨_, h, fun ρ e he => ?_⟩
    obtain ⟨us, h5, h6, _⟩ := hx.looks he h1 h2
    obtain ⟨us', h7, h8, _⟩ := hy.looks he h3 h4
    exact ⟨_, ⟨us, us', rfl, h5, h7⟩, fun d ty p af g => pure_makeFunc h6 h8⟩
  | @lenS t el s b x x' ht hx =>
    have h : (x'.getK ve fun v => v.onLn k) = true := h
    rw [X.getK_eq] at h
    obtain ⟨w, h, hok, hu⟩ := VV.onLn_true h
    refine ⟨_, h, fun ρ e he => ?_⟩
    obtain ⟨u, h1, h2⟩ := hx.look he rfl hok
    obtain ⟨a, n, c, h3, h4⟩ := hu ρ u h2
    exact ⟨_, h4, fun d ty p af g => pure_lenSN hT ht h1 ⟨a, c, h3⟩⟩
  | @lenT t s b x x' ht hx =>
    have h : (x'.getK ve fun v => v_lenT v k) = true := h
    rw [X.getK_eq] at h
    rcases VV.onSt_true h with ⟨l, hl, h⟩ | ⟨l, hl, h⟩
    · have h := forceN_true h
      rw [lenN_eq] at h
      refine ⟨_, h, fun ρ e he => ?_⟩
      obtain ⟨u, h1, rfl, _⟩ := hx.look he hl rfl
      refine ⟨_, rfl, fun d ty p af g => ?_⟩
      have := pure_lenStr (P := P) (d := d) (ty := ty) (p := p) (af := af) (g := g) hT ht h1
      have e1 : (bytesOf l).size = l.length := by simp [bytesOf, ByteArray.size]
      rw [e1] at this
      exact this
    · obtain ⟨q, ql, lo, hi, rfl, h⟩ := atomK_true h
      rcases rec_beq h with ⟨hlh, h⟩ | ⟨_, h⟩
      · refine ⟨_, h, fun ρ e he => ?_⟩
        obtain ⟨u, h1, a, rfl, ha⟩ := hx.look he hl rfl
        obtain ⟨r, s, s', _, _, _, h4, h5⟩ := ha.one
        refine ⟨.int .i64 a.size, ?_, fun d ty p af g => pure_lenStr (P := P) (d := d) (ty := ty) (p := p) (af := af) (g := g) hT ht h1⟩
        show Value.int .i64 (a.size : Int) = .int .i64 (lo : Int)
        congr 1
        omega
      · refine ⟨_, h, fun ρ e he => ?_⟩
        obtain ⟨u, h1, a, rfl, ha⟩ := hx.look he hl rfl
        obtain ⟨r, s, s', _, h3, _, h4, h5⟩ := ha.one
        exact ⟨.int .i64 a.size, ⟨_, _, h3, by simp only [Int.ofNat_eq_natCast]; omega, by simp only [Int.ofNat_eq_natCast]; omega, by simp⟩, fun d ty p af g => pure_lenStr (P := P) (d := d) (ty := ty) (p := p) (af := af) (g := g) hT ht h1⟩
  | @max ts x y x' y' hx hy =>
    have h : (x'.getK ve fun v => y'.getK ve fun w => v_max v w k) = true := h
    rw [X.getK_eq, X.getK_eq] at h
    rcases VV.onY_true h with ⟨m, hm, h⟩ | ⟨q, lo, hi, c, hv, h⟩
    · obtain ⟨n, hn, h⟩ := VV.onI_true h
      have h : k (.i (Max.max m n)) = true := by
        rw [leZ_eq] at h
        by_cases hmn : m ≤ n
        · rw [decide_eq_true hmn] at h; rw [Int.max_eq_right hmn]; exact h
        · rw [decide_eq_false hmn] at h; rw [Int.max_eq_left (by omega)]; exact h
      refine ⟨_, h, fun ρ e he => ?_⟩
      obtain ⟨u, h1, rfl⟩ := hx.look he hm rfl
      obtain ⟨w, h2, rfl⟩ := hy.look he hn rfl
      exact ⟨_, rfl, fun d ty p af g => pure_max h1 h2⟩
    · rcases VV.onY_true h with ⟨n, hn, h⟩ | ⟨q', lo', hi', c', hw, h⟩
      rotate_left
      · obtain ⟨hq, h⟩ := eqb_rec h
        subst hq
        rw [leZ_eq] at h
        have both : ∀ ρ e, ERl ρ ve e → ∃ r s, ρ q = some (r, s) ∧ (lo ≤ (r : Int) ∧ (r : Int) ≤ hi) ∧ (lo' ≤ (r : Int) ∧ (r : Int) ≤ hi') ∧ look e x = some (true, .int .i64 (r + c)) ∧ look e y = some (true, .int .i64 (r + c')) := fun ρ e he => by
          obtain ⟨u, h1, r, s, h2, h3, h4, rfl⟩ := hx.look he hv rfl
          obtain ⟨w, h5, r', s', h6, h7, h8, rfl⟩ := hy.look he hw rfl
          rw [h2] at h6
          cases h6
          exact ⟨r, s, h2, ⟨h3, h4⟩, ⟨h7, h8⟩, h1, h5⟩
        by_cases hcc : c' ≤ c
        · rw [decide_eq_true hcc] at h
          refine ⟨_, h, fun ρ e he => ?_⟩
          obtain ⟨r, s, h2, h3, h4, h5, h6⟩ := both ρ e he
          refine ⟨.int .i64 (r + c), ⟨r, s, h2, h3.1, h3.2, rfl⟩, fun d ty p af g => ?_⟩
          have := pure_max (P := P) (ts := ts) (d := d) (ty := ty) (p := p) (af := af) (g := g) h5 h6
          rw [Int.max_eq_left (by omega)] at this
          exact this
        · rw [decide_eq_false hcc] at h
          refine ⟨_, h, fun ρ e he => ?_⟩
          obtain ⟨r, s, h2, h3, h4, h5, h6⟩ := both ρ e he
          refine ⟨.int .i64 (r + c'), ⟨r, s, h2, h4.1, h4.2, rfl⟩, fun d ty p af g => ?_⟩
          have := pure_max (P := P) (ts := ts) (d := d) (ty := ty) (p := p) (af := af) (g := g) h5 h6
          rw [Int.max_eq_right (by omega)] at this
          exact this
      obtain ⟨hle, h⟩ := brec_true h
      rw [leZ_eq, addZ_eq, decide_eq_true_eq] at hle
      refine ⟨_, h, fun ρ e he => ?_⟩
      obtain ⟨u, h1, r, s, h2, h3, h4, rfl⟩ := hx.look he hv rfl
      obtain ⟨w, h5, rfl⟩ := hy.look he hn rfl
      refine ⟨.int .i64 (r + c), ⟨r, s, h2, h3, h4, rfl⟩, fun d ty p af g => ?_⟩
      have := pure_max (P := P) (ts := ts) (d := d) (ty := ty) (p := p) (af := af) (g := g) h1 h5
      rw [Int.max_eq_left (by omega)] at this
      exact this
  | @min ts x y x' y' hx hy =>
    have h : (x'.getK ve fun v => y'.getK ve fun w => v_min v w k) = true := h
    rw [X.getK_eq, X.getK_eq] at h
    rcases VV.onY_true h with ⟨m, hm, h⟩ | ⟨q, lo, hi, c, hv, h⟩
    · rcases VV.onY_true h with ⟨n, hn, h⟩ | ⟨q, lo, hi, c, hv, h⟩
      rotate_left
      · obtain ⟨hle, h⟩ := brec_true h
        rw [leZ_eq, addZ_eq, decide_eq_true_eq] at hle
        refine ⟨_, h, fun ρ e he => ?_⟩
        obtain ⟨u, h1, rfl⟩ := hx.look he hm rfl
        obtain ⟨w, h5, r, s, h2, h3, h4, rfl⟩ := hy.look he hv rfl
        refine ⟨.int .i64 (r + c), ⟨r, s, h2, h3, h4, rfl⟩, fun d ty p af g => ?_⟩
        have := pure_min (P := P) (ts := ts) (d := d) (ty := ty) (p := p) (af := af) (g := g) h1 h5
        rw [Int.min_eq_right (by omega)] at this
        exact this
      have h : k (.i (Min.min m n)) = true := by
        rw [leZ_eq] at h
        by_cases hmn : m ≤ n
        · rw [decide_eq_true hmn] at h; rw [Int.min_eq_left hmn]; exact h
        · rw [decide_eq_false hmn] at h; rw [Int.min_eq_right (by omega)]; exact h
      refine ⟨_, h, fun ρ e he => ?_⟩
      obtain ⟨u, h1, rfl⟩ := hx.look he hm rfl
      obtain ⟨w, h2, rfl⟩ := hy.look he hn rfl
      exact ⟨_, rfl, fun d ty p af g => pure_min h1 h2⟩
    · obtain ⟨n, hn, h⟩ := VV.onI_true h
      cases hle : leZ (addZ hi c) n with
      | false =>
        rw [hle] at h
        obtain ⟨hle, h⟩ := brec_true h
        rw [leZ_eq, addZ_eq, decide_eq_true_eq] at hle
        refine ⟨_, h, fun ρ e he => ?_⟩
        obtain ⟨u, h1, r, s, h2, h3, h4, rfl⟩ := hx.look he hv rfl
        obtain ⟨w, h5, rfl⟩ := hy.look he hn rfl
        refine ⟨.int .i64 n, rfl, fun d ty p af g => ?_⟩
        have := pure_min (P := P) (ts := ts) (d := d) (ty := ty) (p := p) (af := af) (g := g) h1 h5
        rw [Int.min_eq_right (by omega)] at this
        exact this
      | true =>
      rw [hle] at h
      rw [leZ_eq, addZ_eq, decide_eq_true_eq] at hle
      refine ⟨_, h, fun ρ e he => ?_⟩
      obtain ⟨u, h1, r, s, h2, h3, h4, rfl⟩ := hx.look he hv rfl
      obtain ⟨w, h5, rfl⟩ := hy.look he hn rfl
      refine ⟨.int .i64 (r + c), ⟨r, s, h2, h3, h4, rfl⟩, fun d ty p af g => ?_⟩
      have := pure_min (P := P) (ts := ts) (d := d) (ty := ty) (p := p) (af := af) (g := g) h1 h5
      rw [Int.min_eq_left (by omega)] at this
      exact this
  | @lenC t n el s b x ht => exact ⟨_, h, fun ρ e he => ⟨_, rfl, fun d ty p af g => pure_lenArr' hT ht⟩⟩
  | @six t s b x i x' i' ht hx hi =>
    have h : (i'.getK ve fun j => j.onK fun _ j => natK j fun j => x'.getK ve fun v => v.onStr fun l => nthK l j fun n => k (.int .u8 (.ofNat n))) = true := h
    rw [X.getK_eq] at h
    obtain ⟨kd, j, hok, hj, h⟩ := VV.onK_true h
    obtain ⟨m, hm, hn0⟩ := natK_true h
    clear h
    have h := hn0
    clear hn0
    subst hm
    rw [X.getK_eq] at h
    obtain ⟨l, hl, h⟩ := VV.onStr_true h
    obtain ⟨n, hn, h⟩ := nthK_true h
    refine ⟨_, h, fun ρ e he => ?_⟩
    obtain ⟨w, h3, h4⟩ := hi.look he rfl hok
    rw [hj _ _ h4] at h3
    obtain ⟨u, h1, rfl, hb⟩ := hx.look he hl rfl
    refine ⟨_, rfl, fun d ty p af g => ?_⟩
    have := pure_strIx (P := P) (d := d) (ty := ty) (p := p) (af := af) (g := g) hT ht h1 h3 (bytesOf_get hn)
    have hlt := hb n (List.mem_of_getElem? hn)
    have e1 : (UInt8.ofNat n).toNat = n := by rw [UInt8.toNat_ofNat']; exact Nat.mod_eq_of_lt hlt
    rw [e1] at this
    exact this
  | @cat t t' x y x' y' hx hy =>
    obtain ⟨v, w, h, hl⟩ := get2 hx hy h
    have key : ∀ z, v.ok = true → w.ok = true → k z = true → (∀ ρ u u', Rl ρ v u → Rl ρ w u' → ∃ a b : ByteArray, u = .string a ∧ u' = .string b ∧ a.size + b.size ≤ 9223372036854775807 ∧ Rl ρ z (.string (a ++ b))) → ∃ v, k v = true ∧ Means P ve (.binOp .add t x y t') v := fun z o1 o2 hk hc =>
      ⟨_, hk, fun ρ e he => by
        obtain ⟨u, u', h1, h2, h3, h4⟩ := hl o1 o2 ρ e he
        obtain ⟨a, b, rfl, rfl, h5, h6⟩ := hc ρ u u' h3 h4
        exact ⟨_, h6, fun d ty p af g => pure_cat h1 h2 h5⟩⟩
    rcases VV.onSt_true h with ⟨a, rfl, h⟩ | ⟨l, rfl, h⟩
    · rcases VV.onSt_true (v := w) h with ⟨b, rfl, h⟩ | ⟨m, rfl, h⟩
      · rcases rec_ble h with ⟨hle, h⟩ | ⟨_, h⟩
        rotate_left
        · cases h
        rw [appK_eq] at h
        rw [lenN_eq, lenN_eq] at hle
        refine key _ rfl rfl h fun ρ u u' hu hu' => ⟨_, _, hu.1, hu'.1, by rw [bytesOf_size, bytesOf_size]; exact hle, bytesOf_app a b ▸ rfl, fun x hx => ?_⟩
        rcases List.mem_append.1 hx with hx | hx
        · exact hu.2 x hx
        · exact hu'.2 x hx
      · obtain ⟨hn, hh1⟩ := brec_true h
        obtain ⟨hs, hh2⟩ := brec_true hh1
        have hn := nilB_true hn
        have hs := Nat.le_of_ble_eq_true hs
        subst hn
        refine key _ rfl rfl hh2 fun ρ u u' hu hu' => ?_
        obtain ⟨b, rfl, hb⟩ := hu'
        have := sumHi_le hb
        exact ⟨_, b, hu.1, rfl, by rw [bytesOf_size]; simp only [List.length_nil]; omega, b, by rw [show bytesOf [] = ByteArray.empty from rfl, ByteArray.empty_append], hb⟩
    · rcases VV.onSt_true (v := w) h with ⟨b, rfl, h⟩ | ⟨m, rfl, h⟩
      · obtain ⟨hn, hh1⟩ := brec_true h
        obtain ⟨hs, hh2⟩ := brec_true hh1
        have hn := nilB_true hn
        have hs := Nat.le_of_ble_eq_true hs
        subst hn
        refine key _ rfl rfl hh2 fun ρ u u' hu hu' => ?_
        obtain ⟨b, rfl, hb⟩ := hu
        have := sumHi_le hb
        exact ⟨b, _, rfl, hu'.1, by rw [bytesOf_size]; simp only [List.length_nil]; omega, b, by rw [show bytesOf [] = ByteArray.empty from rfl, ByteArray.append_empty], hb⟩
      · obtain ⟨hs, h⟩ := brec_true h
        have hs := Nat.le_of_ble_eq_true hs
        rw [appK_eq] at h
        refine key _ rfl rfl h fun ρ u u' hu hu' => ?_
        obtain ⟨b, rfl, hb⟩ := hu
        obtain ⟨c, rfl, hc⟩ := hu'
        have h1 := sumHi_le hb
        have h2 := sumHi_le hc
        have hs : sumHi l + sumHi m ≤ 9223372036854775807 := hs
        exact ⟨b, c, rfl, rfl, by omega, b ++ c, rfl, hb.append hc⟩
  | @sl3 t el s b i x y z u x' y' z' u' ht hel hx hy hz hu =>
    have h : (y'.getK ve fun y => z'.getK ve fun z => u'.getK ve fun u => x'.getK ve fun x => v_sl3 x y z u i.size k) = true := h
    rw [X.getK_eq, X.getK_eq, X.getK_eq, X.getK_eq] at h
    exact sl3_ok hT ht hel h hx hz hu fun ρ e he y0 hy0 => by
      intro h0
      cases hy0
      obtain ⟨w, g1, rfl⟩ := hy.look he h0 rfl
      exact ⟨_, g1, rfl⟩
  | @sl3n t el s b i x z u x' z' u' ht hel hx hz hu =>
    have h : (z'.getK ve fun z => u'.getK ve fun u => x'.getK ve fun x => v_sl3 x (.i (.ofNat 0)) z u i.size k) = true := h
    rw [X.getK_eq, X.getK_eq, X.getK_eq] at h
    exact sl3_ok hT ht hel h hx hz hu fun ρ e he y0 hy0 => by cases hy0
  | @aix t n el s b ie x i x' i' ht hel ho hx hi =>
    have h : (i'.getK ve fun i => x'.getK ve fun x => v_aix x i n ie.size ie.d.agg k) = true := h
    rw [X.getK_eq, X.getK_eq] at h
    obtain ⟨j, hj, h⟩ := VV.onI_true h
    obtain ⟨m, hm, h⟩ := VV.onA_true h
    obtain ⟨hin, h⟩ := brec_true h
    obtain ⟨q, hq, hqn⟩ := inN_true hin
    subst hq
    have h := forceN_true h
    rw [offN_eq, Int.toNat_natCast, Nat.zero_add] at h
    cases hag : ie.d.agg with
    | true =>
      rw [hag] at h
      have h : (dropK (q * ie.size) m fun l => takeK ie.size l fun l => k (.agg l)) = true := h
      rw [dropK_eq, takeK_eq] at h
      refine ⟨_, h, fun ρ e he => ?_⟩
      obtain ⟨u, h1, us, rfl, h2, h3⟩ := hx.look he hm rfl
      obtain ⟨w, h4, rfl⟩ := hi.look he hj rfl
      refine ⟨_, ⟨_, rfl, (h2.drop (q * ie.size)).take ie.size, ?_⟩, fun d ty p af g => pure_indexV hT ht hel ho h1 h4 hqn (.inl ⟨hag, rfl⟩)⟩
      rw [List.all_eq_true] at h3 ⊢
      exact fun z hz => h3 z (List.mem_of_mem_drop (List.mem_of_mem_take hz))
    | false =>
      rw [hag] at h
      obtain ⟨v, hv, h⟩ := nthK_true h
      obtain ⟨_, h⟩ := VV.onOne_true h
      refine ⟨_, h, fun ρ e he => ?_⟩
      obtain ⟨u, h1, us, rfl, h2, h3⟩ := hx.look he hm rfl
      obtain ⟨w0, h6, rfl⟩ := hi.look he hj rfl
      obtain ⟨w, h4, h5⟩ := h2.get hv
      exact ⟨w, h5, fun d ty p af g => pure_indexV hT ht hel ho h1 h6 hqn (.inr ⟨hag, h4⟩)⟩
  | @saA t n el s b i x x' ht hel hx =>
    have h : (x'.getK ve fun v => v.onP fun b o => k (.slc b o n n true)) = true := h
    rw [X.getK_eq] at h
    obtain ⟨q, o, hv, h⟩ := VV.onP_true h
    refine ⟨_, h, fun ρ e he => ?_⟩
    obtain ⟨u, h1, r, mm, h2, rfl⟩ := hx.look he hv rfl
    exact ⟨_, ⟨r, mm, n, h2, rfl, Nat.le_refl _, fun _ => rfl, fun h => (by cases h)⟩, fun d ty p af g => pure_sliceAA hT ht hel h1⟩
  | @ssl t s b x y z x' y' z' ht hx hy hz =>
    have h : (x'.getK ve fun v => optX y' ve fun y => optX z' ve fun z => v_ssl v y z k) = true := h
    rw [X.getK_eq] at h
    rw [optX_eq, optX_eq] at h
    rcases VV.onSt_true h with ⟨l, hl, h⟩ | ⟨l, hl, h⟩
    · have h := forceN_true h
      rw [lenN_eq] at h
      obtain ⟨hi, h, hz1⟩ := bndV_true h
      obtain ⟨lo, h, hy1⟩ := bndV_true h
      rcases rec_ble h with ⟨hle, h⟩ | ⟨_, h⟩
      rotate_left
      · cases h
      rcases rec_ble h with ⟨hle2, h⟩ | ⟨_, h⟩
      rotate_left
      · cases h
      rw [dropK_eq, takeK_eq] at h
      refine ⟨_, h, fun ρ e he => ?_⟩
      obtain ⟨u, h1, rfl, hb⟩ := hx.look he hl rfl
      refine ⟨_, ⟨congrArg Value.string (bytesOf_extract l lo hi), fun x hx => hb x (List.mem_of_mem_drop (List.mem_of_mem_take hx))⟩, fun d ty p af g => pure_strSl hT ht h1 (hy.bound he hy1) ?_ ⟨hle, by rw [bytesOf_size]; exact hle2⟩⟩
      rw [bytesOf_size]
      exact hz.bound he hz1
    · obtain ⟨q, ql, lo, hi, rfl, h⟩ := atomK_true h
      obtain ⟨h1, h⟩ := brec_true h
      obtain ⟨h2, h⟩ := brec_true h
      refine ⟨_, h, fun ρ e he => ?_⟩
      obtain ⟨u, h3, a, rfl, ha⟩ := hx.look he hl rfl
      refine ⟨_, by rw [hl]; exact ⟨a, rfl, ha⟩, fun d ty p af g => ?_⟩
      obtain ⟨r, s, s', _, g3, _, g4, g5⟩ := ha.one
      have b1 : Bnd (look e) y 0 0 := by
        cases hy with
        | n => exact ⟨fun _ => rfl, fun z h => by cases h⟩
        | s hy =>
          have h1 : ((X.get ve _).onI fun j => eqZ j (.ofNat 0)) = true := h1
          obtain ⟨j, hj, h1⟩ := VV.onI_true h1
          have h1 : j = Int.ofNat 0 := of_decide_eq_true ((eqZ_eq _ _).symm.trans h1)
          subst h1
          obtain ⟨u, h4, rfl⟩ := hy.look he hj rfl
          exact ⟨fun h => (by cases h), fun z h => by cases h; exact ⟨_, h4⟩⟩
      have b2 : Bnd (look e) z a.size a.size := by
        cases hz with
        | n => exact ⟨fun _ => rfl, fun z h => by cases h⟩
        | s hz =>
          refine ⟨fun h => (by cases h), fun z h => ?_⟩
          cases h
          rcases VV.onY_true h2 with ⟨j, hj, h2⟩ | ⟨q', lo', hi', c, hj, h2⟩
          · obtain ⟨h5, h2⟩ := brec_true h2
            have h5 := Nat.eq_of_beq_eq_true h5
            have h2 : j = Int.ofNat lo := of_decide_eq_true ((eqZ_eq _ _).symm.trans h2)
            subst h2
            obtain ⟨u, h4, rfl⟩ := hz.look he hj rfl
            exact ⟨.i64, by rw [h4, show (a.size : Int) = Int.ofNat lo by simp only [Int.ofNat_eq_natCast]; omega]⟩
          · obtain ⟨h5, h8⟩ := eqb_rec h2
            subst h5
            have h9 : c = Int.ofNat 0 := of_decide_eq_true ((eqZ_eq _ _).symm.trans h8)
            subst h9
            obtain ⟨u, h4, r', s2, h6, _, _, rfl⟩ := hz.look he hj rfl
            rw [g3] at h6
            cases h6
            exact ⟨.i64, by rw [h4]; simp⟩
      have := pure_strSl (P := P) (d := d) (ty := ty) (p := p) (af := af) (g := g) hT ht h3 b1 b2 ⟨Nat.zero_le _, Nat.le_refl _⟩
      rwa [ByteArray.extract_zero_size] at this
end
end Den
