/-
  An interpreter: what its operations on memory stand for. No conditions but those that each theorem names.
-/
import Derived.Test.YtfmjehkohlbebaaGreatDoorD3
import Derived.Laws.IdiomStrings
import Derived.Laws.BytesArg
import Derived.LaidEql
set_option linter.unusedVariables false
namespace Den
open Go Eng
def Keep (ρ : Rho) (M M' : Mem) (C C' : Heap) : Prop := ∀ b r c ro, (Mm.at M b).live → Mm.at M' b = Mm.at M b → ρ b = some (r, c) → (r, ro) ∈ C.flatten → (r, ro) ∈ C'.flatten
theorem Keep.refl (ρ : Rho) (M : Mem) (C : Heap) : Keep ρ M M C C := fun _ _ _ _ _ _ _ h => h
inductive Fact (W0 : World) (P : Program) (ve : Tr VV) (M : Mem) (nx : Den.P) (o : Oper) : VV → Mem → Den.P → Prop
  | pure {v : VV} : isFresh (klassOp cfg0 o.op) = false → (∀ ρ e, ERl ρ ve e → ∃ u, Rl ρ v u ∧ PureL P (look e) o u) → Fact W0 P ve M nx o v M nx
  | read {v : VV} (b : Den.P) : klassOp cfg0 o.op = .quiet → (Mm.at M b).live → (∀ ρ e D c r ro, ERl ρ ve e → ρ b = some (r, c) → (r, ro) ∈ D.flatten → ObR ρ c (Mm.at M b) ro → ∃ u, Rl ρ v u ∧ StabV W0 P e D o u) → Fact W0 P ve M nx o v M nx
  | quiet {v : VV} : klassOp cfg0 o.op = .quiet → (∀ ρ e C, ERl ρ ve e → MR W0 ρ M nx C → ∃ u, Rl ρ v u ∧ QuietV W0 P e C o u) → Fact W0 P ve M nx o v M nx
  | fresh {v : VV} {ob : OB} (cap : Rho → Nat) : isFresh (klassOp cfg0 o.op) = true → (∀ ρ e, ERl ρ ve e → ∃ mk ro, FreshV P e o mk ro ∧ ∀ r ρ', Ext ρ ρ' → ρ' nx = some (r, cap ρ) → Rl ρ' v (mk r) ∧ ObR ρ' (cap ρ) ob ro) → Fact W0 P ve M nx o v (Tr.set .dead M nx ob) nx.succ
  | m {v : VV} {M' : Mem} {nx' : Den.P} : isM (klassOp cfg0 o.op) = true → Mono M nx M' nx' → (∀ ρ e C, ERl ρ ve e → MR W0 ρ M nx C → MV W0 P e C o fun u C' => ∃ ρ', Ext ρ ρ' ∧ MR W0 ρ' M' nx' C' ∧ Keep ρ M M' C C' ∧ (Rl ρ' v u ∨ v = .no)) → Fact W0 P ve M nx o v M' nx'
theorem Fact.mono {W0 : World} {P : Program} {ve : Tr VV} {M : Mem} {nx : Den.P} {o : Oper} {v : VV} {M' : Mem} {nx' : Den.P} (h : Fact W0 P ve M nx o v M' nx') : Mono M nx M' nx' := by
  cases h with
  | pure _ _ => exact Mono.refl _ _
  | read _ _ _ _ => exact Mono.refl _ _
  | quiet _ _ => exact Mono.refl _ _
  | fresh _ _ _ => exact Mono.new
  | m _ h _ => exact h
theorem MV.post {W0 : World} {P : Program} {e : Env} {C : Heap} {o : Oper} {R R' : Value → Heap → Prop} (h : MV W0 P e C o R) (k : ∀ v C', R v C' → R' v C') : MV W0 P e C o R' := fun X a ha w next Q hw hn =>
  h X a ha w next Q hw fun v C' w' hr hs => hn v C' w' (k v C' hr) hs
def MeOk (P : Program) (T : Tab) (name : String) (q : Nat × Den.P × Bool) : Prop := ∃ ti m el s b, P.info? q.1 = some ti ∧ ti.methods.find? (·.name == name) = some m ∧ m.path = #[] ∧ m.func = some (q.2.1.num, !q.2.2) ∧ T.find q.1 = some ⟨.ptr el, s, b⟩ ∧ (q.2.2 = true → ∃ i, T.find el = some i ∧ i.d.known = true ∧ i.d.agg = false)
inductive TrY (T : Tab) (P : Program) : Oper → Y → Prop
  | p {o : Oper} {y : Y1} : Tr1 T o.op y → TrY T P o (.p y)
  | ld {d ty q af g t x x' i} : T.find t = some i → i.d.known = true → XR x' x → TrY T P ⟨d, .load t x, ty, q, af, g⟩ (.ld x' i.size i.d.agg)
  | st {ty q af g t x y x' y' i} : T.find t = some i → XR x' x → XR y' y → TrY T P ⟨none, .store t x y, ty, q, af, g⟩ (.st x' y' i.size)
  | al {d ty q af g t zs zs'} : zeroC T zeroFuel t = some zs → (∀ ρ, Rls ρ zs' zs) → zs'.all VV.one = true → TrY T P ⟨d, .alloc t, ty, q, af, g⟩ (.al t zs')
  | bx {d ty q af g t x x'} : XR x' x → TrY T P ⟨d, .box t x, ty, q, af, g⟩ (.bx t x')
  | bsl {d ty q af g t el s0 b0 n ie zs zs' parts ps} : T.find t = some ⟨.slice el, s0, b0⟩ → T.find el = some ie → zeroC T zeroFuel el = some zs → Nat.beq zs.length ie.size = true → (∀ ρ, Rls ρ zs' (baseL n zs)) → zs'.all VV.one = true → zs'.length = n * ie.size →
      BR (fun i => some (i * ie.size, ie.size)) zs'.length ps parts → Nat.ble (n * ie.size) 16777216 = true → Nat.ble n maxLen = true → TrY T P ⟨d, .buildSlice t n parts.toArray, ty, q, af, g⟩ (.bsl el ie.size n zs' ps)
  | mks {d ty q af g t el s0 b0 ie zs zs' x y x' y'} : T.find t = some ⟨.slice el, s0, b0⟩ → T.find el = some ie → zeroC T zeroFuel el = some zs → Nat.beq zs.length ie.size = true → (∀ ρ, Rls ρ zs' zs) → zs'.all VV.one = true → Nat.ble 1 ie.bytes = true → XR x' x → XR y' y →
      TrY T P ⟨d, .makeSlice t x y, ty, q, af, g⟩ (.mks el ie.size ie.bytes zs' x' y')
  | app {d ty q af g t el s0 b0 ie zs x y x' y'} : T.find t = some ⟨.slice el, s0, b0⟩ → T.find el = some ie → zeroC T zeroFuel el = some zs → Nat.beq zs.length ie.size = true → Nat.ble 1 ie.bytes = true → Nat.ble 1 ie.size = true → XR x' x → XR y' y →
      TrY T P ⟨d, .call { callee := .builtin .append, args := [x, y].toArray, argTypes := [t, t].toArray }, ty, q, af, g⟩ (.app el ie.size ie.bytes x' y')
  | cpy {d ty q af g t el s0 b0 ie x y x' y'} : T.find t = some ⟨.slice el, s0, b0⟩ → T.find el = some ie → XR x' x → XR y' y → TrY T P ⟨d, .call { callee := .builtin .copy, args := [x, y].toArray, argTypes := [t, t].toArray }, ty, q, af, g⟩ (.cpy ie.size x' y')
  | mkm {d ty q af g t} : TrY T P ⟨d, .makeMap t none, ty, q, af, g⟩ .mkm
  | lku {d ty q af g t key el s0 b0 s1 b1 x y x' y' ok z zv} : T.find t = some ⟨.map key el, s0, b0⟩ → T.find key = some ⟨.int .i64, s1, b1⟩ → (∀ w, (zeroValue el).run P w = .ok zv w) → (∀ ρ, Rl ρ z zv) → XR x' x → XR y' y → TrY T P ⟨d, .lookup t x y ok, ty, q, af, g⟩ (.lku z ok x' y')
  | mup {ty q af g t key el s0 b0 s1 b1 x y z x' y' z'} : T.find t = some ⟨.map key el, s0, b0⟩ → T.find key = some ⟨.int .i64, s1, b1⟩ → XR x' x → XR y' y → XR z' z → TrY T P ⟨none, .mapUpdate t x y z, ty, q, af, g⟩ (.mup x' y' z')
  | ins {ty q af g t key el s0 b0 s1 b1 x y z x' y' z'} : T.find t = some ⟨.map key el, s0, b0⟩ → T.find key = some ⟨.int .i64, s1, b1⟩ → XR x' x → XR y' y → XR z' z → TrY T P ⟨none, .insert t x y z, ty, q, af, g⟩ (.mup x' y' z')
  | mdl {d ty q af g t kt key el s0 b0 s1 b1 x y x' y'} : T.find t = some ⟨.map key el, s0, b0⟩ → T.find key = some ⟨.int .i64, s1, b1⟩ → XR x' x → XR y' y → TrY T P ⟨d, .call { callee := .builtin .delete, args := [x, y].toArray, argTypes := [t, kt].toArray }, ty, q, af, g⟩ (.mdl x' y')
  | call {d ty q af g ts} {f : Den.P} {l : List Operand} {xs : List X} : XRs xs l → TrY T P ⟨d, .call { callee := .value (.func f.num), args := l.toArray, argTypes := ts }, ty, q, af, g⟩ (.call f xs)
  | cv {d ty q af g ts} {x : Nat} {x' : X} {l : List Operand} {xs : List X} : XR x' (.tmp x) → XRs xs l → TrY T P ⟨d, .call { callee := .value (.tmp x), args := l.toArray, argTypes := ts }, ty, q, af, g⟩ (.cv x' xs)
  | peq {d q af g ty t t' el s b ie n op} {x y : Den.P} : T.find t = some ⟨.ptr el, s, b⟩ → T.find el = some ie → Nat.beq ie.size 0 = false → (n = false ∧ op = .eql ∨ n = true ∧ op = .neq) → TrY T P ⟨d, .binOp op t (.tmp x.num) (.tmp y.num) t', ty, q, af, g⟩ (.peq n (.t x) (.t y))
  | cvs {d ty q af g src dst el s0 b0 s1 b1 s2 b2 x x'} : T.find src = some ⟨.str, s0, b0⟩ → T.find dst = some ⟨.slice el, s1, b1⟩ → T.find el = some ⟨.int .u8, s2, b2⟩ → XR x' x → TrY T P ⟨d, .convert src dst x, ty, q, af, g⟩ (.cvs el x')
  | inv {d ty q af g ts tbl name} {x : Nat} {x' : X} {l : List Operand} {xs : List X} : (∀ q ∈ tbl, MeOk P T name q) → XR x' (.tmp x) → XRs xs l → TrY T P ⟨d, .call { callee := .invoke (.tmp x) name, args := l.toArray, argTypes := ts }, ty, q, af, g⟩ (.inv tbl x' xs)
  | cvb {d ty q af g src dst el s0 b0 s1 b1 s2 b2 x x'} : T.find src = some ⟨.slice el, s0, b0⟩ → T.find dst = some ⟨.str, s1, b1⟩ → T.find el = some ⟨.int .u8, s2, b2⟩ → XR x' x → TrY T P ⟨d, .convert src dst x, ty, q, af, g⟩ (.cvb x')
  | req {d q af g ty t t' el s b b1 n op} {x y : Den.P} : T.find t = some ⟨.arr 2 el, s, b⟩ → T.find el = some ⟨.int .i64, 1, b1⟩ → P.eqGuardType P.depth t = false → (n = false ∧ op = .eql ∨ n = true ∧ op = .neq) → TrY T P ⟨d, .binOp op t (.tmp x.num) (.tmp y.num) t', ty, q, af, g⟩ (.req n (.t x) (.t y))
  | bad {o : Oper} : TrY T P o badY
section
variable {W0 : World} {P : Program} {T : Tab} {ve : Tr VV} {M : Mem} {nx : Den.P} {k : Kv}
theorem OB.onC_true {o : OB} {k : Nat → Nat → List VV → Nat → Bool} (h : o.onC k = true) : ∃ t s l v, o = .cells t s l v ∧ k t s l v = true := by
  cases o with
  | cells t s l v => exact ⟨t, s, l, v, rfl, h⟩
  | dead => cases h
  | mp E c v => cases h
  | ro t l => cases h
  | dg _ _ _ _ _ => cases h
  | ev _ _ => cases h
  | bs _ _ _ => cases h
  | byt _ _ _ => cases h
  | rows _ _ _ _ _ _ _ => cases h
def OB.row : OB → Option (List VV)
  | .cells _ _ l _ => some l
  | .ro _ l => some l
  | _ => none
theorem OB.row_live {o : OB} {l : List VV} (h : o.row = some l) : o.live := by
  cases o <;> first | (cases h; done) | trivial
theorem OB.onR_true {o : OB} {k : List VV → Bool} (h : o.onR k = true) : ∃ l, o.row = some l ∧ k l = true := by
  cases o with
  | cells t s l v => exact ⟨l, rfl, h⟩
  | dead => cases h
  | mp E c v => cases h
  | ro t l => exact ⟨l, rfl, h⟩
  | dg _ _ _ _ _ => cases h
  | ev _ _ => cases h
  | bs _ _ _ => cases h
  | byt _ _ _ => cases h
  | rows _ _ _ _ _ _ _ => cases h
theorem OB.onV_true {o : OB} {k : Nat → Bool} (h : o.onV k = true) : ∃ v, o.live ∧ o.ver = v ∧ k v = true := by
  cases o with
  | cells t s l v => exact ⟨v, trivial, rfl, h⟩
  | dead => cases h
  | mp E c v => cases h
  | ro t l => exact ⟨0, trivial, rfl, h⟩
  | dg _ _ _ _ _ => cases h
  | ev _ _ => cases h
  | bs _ _ _ => cases h
  | byt _ _ _ => cases h
  | rows _ _ _ _ _ _ _ => cases h
theorem ObR.row {ρ : Rho} {c : Nat} {o : OB} {ro : Obj} {l : List VV} (h : o.row = some l) (k : ObR ρ c o ro) : ∃ us rest t fz, ro = .cells (us ++ rest).toArray t fz ∧ Rls ρ l us ∧ l.all VV.one = true := by
  cases o with
  | cells t s l' v => cases h; obtain ⟨us, rest, h1, h2, h3, _⟩ := k; exact ⟨us, rest, _, _, h1, h2, h3⟩
  | dead => cases h
  | mp E c v => cases h
  | ro t l' => cases h; obtain ⟨us, rest, fz, h1, h2, h3⟩ := k; exact ⟨us, rest, _, fz, h1, h2, h3⟩
  | dg _ _ _ _ _ => cases h
  | ev _ _ => cases h
  | bs _ _ _ => cases h
  | byt _ _ _ => cases h
  | rows _ _ _ _ _ _ _ => cases h
theorem OB.onM_true {o : OB} {k : List (Int × VV × Nat) → Nat → Nat → Bool} (h : o.onM k = true) : ∃ E c v, o = .mp E c v ∧ k E c v = true := by
  cases o with
  | cells t s l v => cases h
  | dead => cases h
  | ro t l => cases h
  | dg _ _ _ _ _ => cases h
  | ev _ _ => cases h
  | bs _ _ _ => cases h
  | byt _ _ _ => cases h
  | rows _ _ _ _ _ _ _ => cases h
  | mp E c v => exact ⟨E, c, v, rfl, h⟩
theorem getM_eq (M : Mem) (b : Den.P) (k : OB → Bool) : Tr.getK .dead M b k = k (Mm.at M b) := Tr.getK_eq _ _ _ _
theorem takeX_true {α : Type} : ∀ {n : Nat} {l : List α} {k : List α → Bool}, takeX n l k = true → n ≤ l.length ∧ k (l.take n) = true
  | 0, l, k, h => ⟨Nat.zero_le _, h⟩
  | n + 1, [], k, h => by cases h
  | n + 1, x :: l, k, h => by
    have := takeX_true (n := n) (l := l) (k := fun r => k (x :: r)) h
    exact ⟨Nat.succ_le_succ this.1, this.2⟩
theorem overX_true {α : Type} : ∀ {vs l : List α} {k : List α → Bool}, overX vs l k = true → vs.length ≤ l.length ∧ k (vs ++ l.drop vs.length) = true
  | [], l, k, h => ⟨Nat.zero_le _, h⟩
  | v :: vs, [], k, h => by cases h
  | v :: vs, x :: l, k, h => by
    have := overX_true (vs := vs) (l := l) (k := fun r => k (v :: r)) h
    exact ⟨Nat.succ_le_succ this.1, by simpa using this.2⟩
theorem putX_true {α : Type} : ∀ {n : Nat} {vs l : List α} {k : List α → Bool}, putX n vs l k = true → n + vs.length ≤ l.length ∧ k (putL n vs l) = true
  | 0, vs, l, k, h => by
    obtain ⟨h1, h2⟩ := overX_true (k := k) h
    exact ⟨by omega, by simpa [putL] using h2⟩
  | n + 1, vs, [], k, h => by cases h
  | n + 1, vs, x :: l, k, h => by
    obtain ⟨h1, h2⟩ := putX_true (n := n) (vs := vs) (l := l) (k := fun r => k (x :: r)) h
    exact ⟨by simp only [List.length_cons]; omega, by simpa [putL, Nat.add_right_comm] using h2⟩
theorem cells_rdL {D : Heap} {r t : Nat} {fz : Nat × Nat} {us rest vs : List Value} {o : Nat} (h : (r, Obj.cells (us ++ rest).toArray t fz) ∈ D.flatten) (hv : ∀ j u, vs[j]? = some u → us[o + j]? = some u) : RdL W0 D r o vs :=
  RdL.of_at (mem_at h) fun j u hj => by
    have := hv j u hj
    have hlt := (List.getElem?_eq_some_iff.1 this).1
    rw [List.getElem?_append_left hlt]; exact this
theorem cutK_true {o sz : Nat} {agg : Bool} {l : List VV} {k : VV → Bool} (h : cutK o sz agg l k = true) :
    (agg = false ∧ ∃ v, l[o]? = some v ∧ k v = true) ∨ (agg = true ∧ o + sz ≤ l.length ∧ k (.agg ((l.drop o).take sz)) = true) ∨ (agg = true ∧ sz = 0 ∧ k (.agg []) = true) := by
  cases agg with
  | false =>
    obtain ⟨v, h1, h2⟩ := nthK_true (k := k) (l := l) (j := o) h
    exact .inl ⟨rfl, v, h1, h2⟩
  | true =>
    have h : (dropK o l fun l => takeX sz l fun l => k (.agg l)) = true := h
    rw [dropK_eq] at h
    obtain ⟨h1, h2⟩ := takeX_true (k := fun l => k (.agg l)) h
    rw [List.length_drop] at h1
    by_cases hz : sz = 0
    · subst hz; exact .inr (.inr ⟨rfl, rfl, by simpa using h2⟩)
    · exact .inr (.inl ⟨rfl, by omega, h2⟩)
theorem ld_ok (hT : TabOk P T) {d ty q af g t x x' i} (ht : T.find t = some i) (hk : i.d.known = true) (hx : XR x' x) {K : Den.P → VV → Bool} (h : ldK ve M x' i.size i.d.agg K = true) :
    ∃ b v, K b v = true ∧ (Mm.at M b).live ∧ ∀ ρ e D c r ro, ERl ρ ve e → ρ b = some (r, c) → (r, ro) ∈ D.flatten → ObR ρ c (Mm.at M b) ro → ∃ u, Rl ρ v u ∧ StabV W0 P e D ⟨d, .load t x, ty, q, af, g⟩ u := by
  have h : (x'.getK ve fun v => v.onP fun b o => Tr.getK .dead M b fun ob => ob.onR fun l => cutK o i.size i.d.agg l fun v => K b v) = true := h
  rw [X.getK_eq] at h
  obtain ⟨b, o, hv, h⟩ := VV.onP_true h
  rw [getM_eq] at h
  obtain ⟨l, hb, h⟩ := OB.onR_true h
  rcases cutK_true h with ⟨hag, v, hlv, h⟩ | ⟨hag, hle, h⟩ | ⟨hag, hz, h⟩
  · refine ⟨b, v, h, OB.row_live hb, fun ρ e D c r ro he hρ hm ho => ?_⟩
    obtain ⟨us, rest, bt, fz, rfl, hl, hone⟩ := ho.row hb
    obtain ⟨u, hu, hvu⟩ := hl.get hlv
    obtain ⟨w, hw, r', c', hρ', rfl⟩ := hx.look he hv rfl
    rw [hρ] at hρ'
    cases hρ'
    refine ⟨u, hvu, stab_load hT ht (by rw [hk, hag]; rfl) hw ?_⟩
    have hlt := (List.getElem?_eq_some_iff.1 hu).1
    exact Rd.of_at (mem_at hm) (by simp [List.getElem?_append_left hlt, hu])
  · refine ⟨b, _, h, OB.row_live hb, fun ρ e D c r ro he hρ hm ho => ?_⟩
    obtain ⟨us, rest, bt, fz, rfl, hl, hone⟩ := ho.row hb
    obtain ⟨w, hw, r', c', hρ', rfl⟩ := hx.look he hv rfl
    rw [hρ] at hρ'
    cases hρ'
    have hus := hl.length
    refine ⟨_, ⟨_, rfl, (hl.drop o).take i.size, ?_⟩, stab_loadN hT ht hag (by rw [List.length_take, List.length_drop]; omega) hw (cells_rdL hm fun j u hj => ?_)⟩
    · rw [List.all_eq_true] at hone ⊢
      exact fun z hz => hone z (List.mem_of_mem_drop (List.mem_of_mem_take hz))
    · rw [List.getElem?_take] at hj
      split at hj
      · rwa [List.getElem?_drop] at hj
      · cases hj
  · refine ⟨b, _, h, OB.row_live hb, fun ρ e D c r ro he hρ hm ho => ?_⟩
    obtain ⟨w, hw, r', c', hρ', rfl⟩ := hx.look he hv rfl
    rw [hρ] at hρ'
    cases hρ'
    exact ⟨_, ⟨[], rfl, rfl, rfl⟩, stab_loadN hT ht hag (by simp [hz]) hw fun j u hj => by simp at hj⟩
theorem MR.at_row {ρ : Rho} {M : Mem} {nx : Den.P} {C : Heap} (h : MR W0 ρ M nx C) {b : Den.P} {r c : Nat} {l : List VV} (hb : (Mm.at M b).row = some l) (hρ : ρ b = some (r, c)) :
    ∃ us rest t fz, (r, Obj.cells (us ++ rest).toArray t fz) ∈ C.flatten ∧ Rls ρ l us ∧ l.all VV.one = true := by
  obtain ⟨r', c', ro, h1, h2, h3⟩ := h.live b (OB.row_live hb)
  rw [hρ] at h1
  cases h1
  obtain ⟨us, rest, t, fz, rfl, h4, h5⟩ := h3.row hb
  exact ⟨us, rest, t, fz, h2, h4, h5⟩
theorem MR.at_cells {ρ : Rho} {M : Mem} {nx : Den.P} {C : Heap} (h : MR W0 ρ M nx C) {b : Den.P} {t s v r c : Nat} {l : List VV} (hb : Mm.at M b = .cells t s l v) (hρ : ρ b = some (r, c)) :
    ∃ us rest, (r, Obj.cells (us ++ rest).toArray t (0, 0)) ∈ C.flatten ∧ Rls ρ l us ∧ l.all VV.one = true ∧ (s ≠ 0 → (us ++ rest).length = c * s ∧ c ≤ maxLen) := by
  obtain ⟨r', c', ro, h1, h2, h3⟩ := h.live b (by rw [hb]; trivial)
  rw [hρ] at h1
  cases h1
  rw [hb] at h3
  obtain ⟨us, rest, rfl, h4, h5, h6⟩ := h3
  exact ⟨us, rest, h2, h4, h5, h6⟩
theorem wr_mr {ρ : Rho} {C : Heap} (h : MR W0 ρ M nx C) {b : Den.P} {t s v v' r c o : Nat} {l m : List VV} {us rest ws : List Value} (hb : Mm.at M b = .cells t s l v) (hρ : ρ b = some (r, c)) (hl : Rls ρ l us) (hone : l.all VV.one = true)
    (hcap : s ≠ 0 → (us ++ rest).length = c * s ∧ c ≤ maxLen) (hm : Rls ρ m ws) (hmo : m.all VV.one = true) (hle : o + m.length ≤ l.length) {C' : Heap}
    (h1 : (r, Obj.cells ((us.take o ++ ws ++ us.drop (o + ws.length)) ++ rest).toArray t (0, 0)) ∈ C'.flatten) (h2 : ∀ p ∈ C.flatten, p.1 ≠ r → p ∈ C'.flatten) :
    MR W0 ρ (Tr.set .dead M b (.cells t s (putL o m l) v')) nx C' := by
  refine h.write (by rw [hb]; trivial) hρ ⟨_, rest, rfl, hl.put o hm, all_put hone hmo, fun hs => ?_⟩ h1 h2
  obtain ⟨h3, h4⟩ := hcap hs
  refine ⟨?_, h4⟩
  rw [← h3]
  have e1 := hl.length
  have e2 := hm.length
  simp only [List.length_append, List.length_take, List.length_drop]
  omega
theorem keep_wr {ρ : Rho} {C C' : Heap} (h : MR W0 ρ M nx C) {b : Den.P} {r c : Nat} {ob : OB} (hl : (Mm.at M b).live) (hρ : ρ b = some (r, c)) (hne : ob ≠ Mm.at M b) (h2 : ∀ p ∈ C.flatten, p.1 ≠ r → p ∈ C'.flatten) : Keep ρ M (Tr.set .dead M b ob) C C' := by
  intro q r' c' ro hq hsame hq2 hin
  refine h2 _ hin fun e => ?_
  have e : r' = r := e
  subst e
  have := h.inj q b r' c' c hq hl hq2 hρ
  subst this
  rw [show Mm.at (Tr.set .dead M q ob) q = ob from at_set M q ob] at hsame
  exact hne hsame
theorem wrK_true {b : Den.P} {o : Nat} {vs : List VV} {K : Mem → Bool} (h : wrK M b o vs K = true) : ∃ t s l ver, Mm.at M b = .cells t s l ver ∧ o + vs.length ≤ l.length ∧ K (Tr.set .dead M b (.cells t s (putL o vs l) (ver + 1))) = true := by
  unfold wrK at h
  rw [getM_eq] at h
  obtain ⟨t, s, l, ver, hb, h⟩ := OB.onC_true h
  obtain ⟨h1, h⟩ := putX_true h
  rw [forceN_eq, Tr.setK_eq] at h
  exact ⟨t, s, l, ver, hb, h1, h⟩
theorem mono_wr {b : Den.P} {t s ver : Nat} {l l' : List VV} (hb : Mm.at M b = .cells t s l ver) : Mono M nx (Tr.set .dead M b (.cells t s l' (ver + 1))) nx :=
  Mono.set (fun _ _ => by rw [hb]; exact Nat.lt_succ_self ver) (.inl (by rw [hb]; trivial))
theorem st_ok (hT : TabOk P T) {ty q af g t x y x' y' i} (ht : T.find t = some i) (hx : XR x' x) (hy : XR y' y) {K : Mem → Bool} (h : stK ve M x' y' i.size K = true) :
    ∃ M', K M' = true ∧ Fact W0 P ve M nx ⟨none, .store t x y, ty, q, af, g⟩ .no M' nx := by
  have h : (x'.getK ve fun p => p.onP fun b o => y'.getK ve fun v => v.onC (Bool.rec false (wrK M b o [v] K) (Nat.beq i.size 1)) fun m => Bool.rec false (wrK M b o m K) (Nat.beq (lenN m) i.size)) = true := h
  rw [X.getK_eq] at h
  obtain ⟨b, o, hv, h⟩ := VV.onP_true h
  rw [X.getK_eq] at h
  have step : ∀ m : List VV, wrK M b o m K = true → (y'.get ve).ok = true → (∀ ρ u, Rl ρ (y'.get ve) u → m.all VV.one = true ∧ ((i.size = 1 ∧ m = [y'.get ve] ∧ u.oneCell' = true) ∨ ∃ ws, u = .agg ws.toArray ∧ i.size = ws.length ∧ Rls ρ m ws ∧ ∀ z ∈ ws, z.oneCell' = true)) →
      ∃ M', K M' = true ∧ Fact W0 P ve M nx ⟨none, .store t x y, ty, q, af, g⟩ .no M' nx := by
    intro m h hok hval
    obtain ⟨bt, s, l, ver, hb, hle, h⟩ := wrK_true h
    refine ⟨_, h, .m rfl (mono_wr hb) fun ρ e C he hM => ?_⟩
    obtain ⟨w, hw, r, c, hρ, rfl⟩ := hx.look he hv rfl
    obtain ⟨u, hu, hru⟩ := hy.look he rfl hok
    obtain ⟨hmo, hcase⟩ := hval ρ u hru
    obtain ⟨us, rest, hin, hl, hone, hcap⟩ := hM.at_cells hb hρ
    have hll := hl.length
    have fin : ∀ ws, Rls ρ m ws → ∀ C', (r, Obj.cells ((us.take o ++ ws ++ us.drop (o + ws.length)) ++ rest).toArray bt (0, 0)) ∈ C'.flatten → (∀ p ∈ C.flatten, p.1 ≠ r → p ∈ C'.flatten) →
        ∃ ρ', Ext ρ ρ' ∧ MR W0 ρ' (Tr.set .dead M b (.cells bt s (putL o m l) (ver + 1))) nx C' ∧ Keep ρ M (Tr.set .dead M b (.cells bt s (putL o m l) (ver + 1))) C C' ∧ (Rl ρ' .no undef ∨ VV.no = .no) := by
      intro ws hmw C' h1 h2
      refine ⟨ρ, Ext.refl ρ, wr_mr hM hb hρ hl hone hcap hmw hmo hle h1 h2, keep_wr hM (by rw [hb]; trivial) hρ (fun e => ?_) h2, .inr rfl⟩
      rw [hb] at e
      simp only [OB.cells.injEq] at e
      omega
    rcases hcase with ⟨hsz, rfl, h1⟩ | ⟨ws, rfl, hsz, hmw, hws⟩
    · obtain ⟨C', hup, hin', hoth⟩ := mem_upd (Obj.cells (((us ++ rest).set o u)).toArray bt (0, 0)) hin
      have hlt : o < us.length := by simp only [List.length_singleton] at hle; omega
      have hset : (us ++ rest).set o u = (us.take o ++ [u] ++ us.drop (o + [u].length)) ++ rest := by
        rw [List.set_append_left _ _ hlt, set_put (by omega)]; rfl
      have hmv := m_store (W0 := W0) (P := P) (e := e) (C := C) hT (ty := ty) (p := q) (af := af) (g := g) ht (by rw [hsz]; rfl) hw hu h1 (by rw [List.length_append]; omega) hup
      refine MV.post hmv ?_
      rintro v' C'' ⟨rfl, rfl⟩
      rw [hset] at hin'
      exact fin [u] ⟨u, [], rfl, hru, rfl⟩ C'' hin' hoth
    · have hml := hmw.length
      obtain ⟨C', hup, hin', hoth⟩ := mem_upd (Obj.cells ((us ++ rest).take o ++ ws ++ (us ++ rest).drop (o + ws.length)).toArray bt (0, 0)) hin
      have hput : (us ++ rest).take o ++ ws ++ (us ++ rest).drop (o + ws.length) = (us.take o ++ ws ++ us.drop (o + ws.length)) ++ rest := by
        rw [List.take_append_of_le_length (by omega), List.drop_append_of_le_length (by omega)]; simp
      have hmv := m_storeN (W0 := W0) (P := P) (e := e) (C := C) hT (ty := ty) (p := q) (af := af) (g := g) ht hsz hw hu hws (by rw [List.length_append]; omega) hup
      refine MV.post hmv ?_
      rintro v' C'' ⟨rfl, rfl⟩
      rw [hput] at hin'
      exact fin ws hmw C'' hin' hoth
  rcases VV.onC_true h with ⟨h1, h⟩ | ⟨m, hm, h⟩
  · obtain ⟨hsz, h⟩ := brec_true h
    exact step _ h (VV.one_ok h1) fun ρ u hu => ⟨by simp [h1], .inl ⟨Nat.eq_of_beq_eq_true hsz, rfl, hu.one h1⟩⟩
  · obtain ⟨hsz, h⟩ := brec_true h
    have hsz := Nat.eq_of_beq_eq_true hsz
    rw [lenN_eq] at hsz
    refine step m h (by rw [hm]; rfl) fun ρ u hu => ?_
    rw [hm] at hu
    obtain ⟨ws, rfl, h2, h3⟩ := hu
    exact ⟨h3, .inr ⟨ws, rfl, by rw [h2.length, hsz], h2, fun z hz => by simpa using List.all_eq_true.1 (h2.all_one h3) z hz⟩⟩
theorem mkK_true {ob : OB} {K : Mem → Den.P → Bool} (h : mkK M nx ob K = true) : K (Tr.set .dead M nx ob) nx.succ = true := by
  unfold mkK at h
  rwa [Tr.setK_eq, P.succK_eq] at h
theorem al_ok (hT : TabOk P T) {d ty q af g t zs zs'} (hz : zeroC T zeroFuel t = some zs) (hzs : ∀ ρ, Rls ρ zs' zs) (hone : zs'.all VV.one = true) (h : mkK M nx (.cells t 0 zs' 0) (fun M nx' => k (.ptr nx 0) M nx') = true) :
    ∃ v M' nx', k v M' nx' = true ∧ Fact W0 P ve M nx ⟨d, .alloc t, ty, q, af, g⟩ v M' nx' :=
  ⟨_, _, _, mkK_true h, .fresh (fun _ => 0) rfl fun ρ e he => ⟨_, _, fresh_alloc hT hz, fun r ρ' hx hr => ⟨⟨r, 0, hr, rfl⟩, zs, [], by simp, hzs ρ', hone, fun h => absurd rfl h⟩⟩⟩
theorem bx_ok {d ty q af g t x x'} (hx : XR x' x) (h : (x'.getK ve fun v => v.onC (mkK M nx (.cells t 0 [v] 0) fun M nx' => k (.ptr nx 0) M nx') fun l => mkK M nx (.cells t 0 l 0) fun M nx' => k (.ptr nx 0) M nx') = true) :
    ∃ v M' nx', k v M' nx' = true ∧ Fact W0 P ve M nx ⟨d, .box t x, ty, q, af, g⟩ v M' nx' := by
  rw [X.getK_eq] at h
  rcases VV.onC_true h with ⟨h1, h⟩ | ⟨l, hl, h⟩
  · refine ⟨_, _, _, mkK_true h, .fresh (fun _ => 0) rfl fun ρ e he => ?_⟩
    obtain ⟨u, hu, hru⟩ := hx.look he rfl (VV.one_ok h1)
    exact ⟨_, _, fresh_box hu (hru.one h1), fun r ρ' hx' hr => ⟨⟨r, 0, hr, rfl⟩, [u], [], by simp, ⟨u, [], rfl, Rl.ext hx' _ _ hru, rfl⟩, by simp [h1], fun h => absurd rfl h⟩⟩
  · refine ⟨_, _, _, mkK_true h, .fresh (fun _ => 0) rfl fun ρ e he => ?_⟩
    obtain ⟨u, hu, us, rfl, h2, h3⟩ := hx.look he hl rfl
    exact ⟨_, _, fresh_boxN hu, fun r ρ' hx' hr => ⟨⟨r, 0, hr, rfl⟩, us, [], by simp, Rls.ext hx' _ _ h2, h3, fun h => absurd rfl h⟩⟩
theorem fillL_length {place : Nat → Option (Nat × Nat)} : ∀ {l : List (Nat × Value)} {cells r : List Value}, fillL place cells l = some r → r.length = cells.length
  | [], cells, r, h => by simp only [fillL, Option.some.injEq] at h; rw [h]
  | (i, v) :: l, cells, r, h => by
    simp only [fillL] at h
    cases hp : place i with
    | none => simp [hp] at h
    | some os =>
      obtain ⟨off, size⟩ := os
      simp only [hp] at h
      cases hb : Nat.beq v.cells.size size && Nat.ble (off + size) cells.length with
      | false => simp [hb] at h
      | true =>
        simp only [hb, cond_true] at h
        simp only [Bool.and_eq_true] at hb
        have h1 := Nat.eq_of_beq_eq_true hb.1
        have h2 := Nat.le_of_ble_eq_true hb.2
        rw [fillL_length h]
        simp only [List.length_append, List.length_take, List.length_drop, Array.length_toList]
        omega
theorem bsl_ok (hT : TabOk P T) {d ty q af g t el s0 b0 n ie zs zs' parts ps} (ht : T.find t = some ⟨.slice el, s0, b0⟩) (he : T.find el = some ie) (hz : zeroC T zeroFuel el = some zs) (hzl : Nat.beq zs.length ie.size = true) (hzs : ∀ ρ, Rls ρ zs' (baseL n zs)) (hone : zs'.all VV.one = true)
    (hlen : zs'.length = n * ie.size) (hbr : BR (fun i => some (i * ie.size, ie.size)) zs'.length ps parts) (hb : Nat.ble (n * ie.size) 16777216 = true) (hn : Nat.ble n maxLen = true) (h : bldK ve ps zs' (fun l => mkK M nx (.cells el ie.size l 0) fun M nx' => k (.slc nx 0 n n true) M nx') = true) :
    ∃ v M' nx', k v M' nx' = true ∧ Fact W0 P ve M nx ⟨d, .buildSlice t n parts.toArray, ty, q, af, g⟩ v M' nx' := by
  obtain ⟨r, h, hr⟩ := bldK_true (ve := ve) hbr rfl h
  refine ⟨_, _, _, mkK_true h, .fresh (fun _ => n) rfl fun ρ e hee => ?_⟩
  obtain ⟨h1, vs, h2, rR, h3, h4⟩ := hr ρ e hee hone _ (hzs ρ)
  have hrl : rR.length = n * ie.size := by
    have e1 := fillL_length h3
    rw [e1, (hzs ρ).length, hlen]
  exact ⟨_, _, fresh_buildSlice hT ht he hz hzl h2 hb h3, fun r' ρ' hx' hr' => ⟨⟨r', n, n, hr', rfl, Nat.le_refl _, fun _ => rfl, fun h => by cases h⟩, rR, [], by simp, Rls.ext hx' _ _ h4, h1, fun _ => ⟨by simpa using hrl, Nat.le_of_ble_eq_true hn⟩⟩⟩
theorem repK_true {zs : List VV} : ∀ {n : Nat} {K : List VV → Bool}, repK zs n K = true → K ((List.replicate n zs).flatten) = true
  | 0, K, h => h
  | n + 1, K, h => by
    have h : (repK zs n fun r => appK zs r K) = true := h
    have := repK_true h
    rw [appK_eq] at this
    simpa [List.replicate_succ] using this
theorem rep_base {ρ : Rho} {zs' : List VV} {zs : List Value} (h : Rls ρ zs' zs) : ∀ n, Rls ρ ((List.replicate n zs').flatten) (baseL n zs)
  | 0 => by simp [baseL, Rls]
  | n + 1 => by
    rw [List.replicate_succ, List.flatten_cons]
    exact h.append (rep_base h n)
theorem rep_one {zs' : List VV} (h : zs'.all VV.one = true) : ∀ n, ((List.replicate n zs').flatten).all VV.one = true
  | 0 => rfl
  | n + 1 => by rw [List.replicate_succ, List.flatten_cons, List.all_append, h, rep_one h n]; rfl
theorem and1 {a b : Bool} (h : (a && b) = true) : a = true := by cases a with | true => rfl | false => cases h
theorem and2 {a b : Bool} (h : (a && b) = true) : b = true := by cases a with | true => exact h | false => cases h
theorem mks_ok (hT : TabOk P T) {d ty q af g t el s0 b0 ie zs zs' x y x' y'} (ht : T.find t = some ⟨.slice el, s0, b0⟩) (he : T.find el = some ie) (hz : zeroC T zeroFuel el = some zs) (hzl : Nat.beq zs.length ie.size = true) (hzs : ∀ ρ, Rls ρ zs' zs) (hone : zs'.all VV.one = true) (hby1 : Nat.ble 1 ie.bytes = true) (hx : XR x' x) (hy : XR y' y)
    (h : (x'.getK ve fun a => y'.getK ve fun b => mksV el ie.size ie.bytes zs' a b M nx k) = true) :
    ∃ v M' nx', k v M' nx' = true ∧ Fact W0 P ve M nx ⟨d, .makeSlice t x y, ty, q, af, g⟩ v M' nx' := by
  rw [X.getK_eq, X.getK_eq] at h
  rcases VV.onY_true h with ⟨a, ha, h⟩ | ⟨sq, lo, hi, c, ha, h⟩
  rotate_left
  · rcases VV.onSy_true h with h | ⟨sq', lo', hi', c', hb, h⟩
    · cases h
    obtain ⟨hn, hnh, h⟩ := natK_true h
    obtain ⟨hcc, hk⟩ := brec_true h
    have hk := mkK_true hk
    have e1 := Den.P.eqb_eq.1 (and1 (and1 (and1 (and1 hcc))))
    have e2 : c = Int.ofNat 0 := of_decide_eq_true ((eqZ_eq _ _).symm.trans (and2 (and1 (and1 (and1 hcc)))))
    have e3 : c' = Int.ofNat 0 := of_decide_eq_true ((eqZ_eq _ _).symm.trans (and2 (and1 (and1 hcc))))
    have e4 : Int.ofNat 1 ≤ lo := of_decide_eq_true ((leZ_eq _ _).symm.trans (and2 (and1 hcc)))
    have e5 : ie.bytes * hn ≤ 140737488355328 := Nat.le_of_ble_eq_true (and2 hcc)
    subst e1 e2 e3 hnh
    simp only [Int.ofNat_eq_natCast] at e4
    have hby1 := Nat.le_of_ble_eq_true hby1
    refine ⟨_, _, _, hk, .fresh (fun ρ => match ρ sq with | some (n, _) => n | none => 0) rfl fun ρ e hee => ?_⟩
    obtain ⟨u, hu, n, s, g1, g2, g3, rfl⟩ := hx.look hee ha rfl
    obtain ⟨w, hw, n', s', g4, _, _, rfl⟩ := hy.look hee hb rfl
    rw [g1] at g4
    cases g4
    have hnn : n ≤ hn := by omega
    have hby : ie.bytes * n ≤ 140737488355328 := Nat.le_trans (Nat.mul_le_mul_left _ hnn) e5
    have hcl : n ≤ 140737488355328 := Nat.le_trans (Nat.le_mul_of_pos_left n hby1) hby
    simp only [Int.ofNat_eq_natCast, Int.natCast_zero, Int.add_zero] at hu hw
    have hf := fresh_makeSlice (P := P) (e := e) hT (dd := d) (ty := ty) (p := q) (af := af) (g := g) ht he hz hzl hu hw ⟨by omega, by omega, by omega⟩ (by
      have h5 : ((ie.bytes * n : Nat) : Int) ≤ ((140737488355328 : Nat) : Int) := Int.ofNat_le.2 hby
      rw [Int.natCast_mul] at h5
      generalize (ie.bytes : Int) * (n : Int) = z at h5 ⊢
      omega)
    rw [Int.toNat_natCast] at hf
    have hzl := Nat.eq_of_beq_eq_true hzl
    have ho1 : (baseL n zs).all (·.oneCell') = true := (rep_base (hzs ρ) n).all_one (rep_one hone n)
    simp only [g1]
    exact ⟨_, _, hf, fun r' ρ' hx' hr' => ⟨⟨r', n, n, s, hr', hx' _ _ g1, Nat.le_refl _, rfl⟩, n, s, baseL n zs, [], n, s, hx' _ _ g1, hx' _ _ g1, hnn, Nat.le_refl _, by omega, by rw [List.append_nil], by rw [baseL_length, hzl], ho1, by rw [List.append_nil, baseL_length, hzl], Nat.le_trans hcl (by decide), fun w hw => by cases hw⟩⟩
  obtain ⟨n, hn, h⟩ := natK_true h
  obtain ⟨b, hb, h⟩ := VV.onI_true h
  obtain ⟨c, hc, h⟩ := natK_true h
  rcases rec_ble h with ⟨hnc, h⟩ | ⟨_, h⟩
  rotate_left
  · cases h
  rcases rec_ble h with ⟨hby, h⟩ | ⟨_, h⟩
  rotate_left
  · cases h
  have h := repK_true h
  refine ⟨_, _, _, mkK_true h, .fresh (fun _ => c) rfl fun ρ e hee => ?_⟩
  subst hn; subst hc
  obtain ⟨u, hu, rfl⟩ := hx.look hee ha rfl
  obtain ⟨w, hw, rfl⟩ := hy.look hee hb rfl
  have h1 := Nat.le_of_ble_eq_true hby1
  have hby : ie.bytes * c ≤ 140737488355328 := hby
  have hcl : c ≤ 140737488355328 := Nat.le_trans (Nat.le_mul_of_pos_left c h1) hby
  have hf := fresh_makeSlice (P := P) (e := e) hT (dd := d) (ty := ty) (p := q) (af := af) (g := g) ht he hz hzl hu hw ⟨by omega, by omega, by omega⟩ (by
    have h5 : ((ie.bytes * c : Nat) : Int) ≤ ((140737488355328 : Nat) : Int) := Int.ofNat_le.2 hby
    rw [Int.natCast_mul] at h5
    generalize (ie.bytes : Int) * (c : Int) = z at h5 ⊢
    omega)
  rw [Int.toNat_natCast, Int.toNat_natCast] at hf
  have hzl := Nat.eq_of_beq_eq_true hzl
  refine ⟨_, _, hf, fun r' ρ' hx' hr' => ⟨⟨r', c, c, hr', rfl, hnc, fun _ => rfl, fun h => by cases h⟩, baseL c zs, [], (by rw [List.append_nil]), rep_base (hzs ρ') c, rep_one hone c, fun _ => ⟨?_, ?_⟩⟩⟩
  · rw [List.append_nil, baseL_length, hzl]
  · exact Nat.le_trans hcl (by decide)
end
end Den
set_option linter.unusedVariables false
namespace Den
open Go Eng
section
variable {W0 : World} {P : Program} {T : Tab} {ve : Tr VV} {M : Mem} {nx : Den.P} {k : Kv}
theorem MV.nodup {e : Env} {C : Heap} {o : Oper} {R : Value → Heap → Prop} (h : MV W0 P e C o R) : MV W0 P e C o fun v C' => R v C' ∧ (C'.flatten.map Prod.fst).Nodup := fun X a ha w next Q hw hn =>
  h X a ha w next Q hw fun v C' w' hr hs => hn v C' w' ⟨hr, (hs.weak (Weak.skip X C')).nodup⟩ hs
theorem split_mem {C : Heap} {p : Blk} (h : p ∈ C.flatten) : ∃ C0 : List Blk, Weak C ([p] :: [C0]) ∧ ∀ q ∈ C.flatten, q = p ∨ q ∈ C0 := by
  obtain ⟨l, r, hlr⟩ := List.append_of_mem h
  refine ⟨l ++ r, ⟨[], ?_⟩, fun q hq => ?_⟩
  · rw [hlr]; simp only [List.flatten_cons, List.flatten_nil, List.append_nil, List.cons_append, List.nil_append]
    exact List.perm_middle
  · rw [hlr] at hq
    simp only [List.mem_append, List.mem_cons] at hq ⊢
    rcases hq with h | h | h
    · exact .inr (.inl h)
    · exact .inl h
    · exact .inr (.inr h)
theorem rowE_true {sz : Nat} {v : VV} {K : Nat → List VV → Bool} (h : rowE M sz v K = true) :
    ∃ n l, K n l = true ∧ l.length = n * sz ∧ v.ok = true ∧ ∀ ρ C u, Rl ρ v u → MR W0 ρ M nx C → l.all VV.one = true ∧ ∃ a cap us, u = .slice a n cap ∧ n ≤ cap ∧ Rls ρ l us ∧ (n ≠ 0 → ∃ sa, a = some sa ∧ ∀ D : Heap, (∀ p ∈ C.flatten, p ∈ D.flatten) → RdA W0 D sa us) ∧ ∀ D : Heap, (∀ p ∈ C.flatten, p ∈ D.flatten) → RdS W0 D sz u n us := by
  have hE : (v = .nils ∨ v = .emp) ∧ K 0 [] = true ∨ ∃ b o n c kn, v = .slc b o n c kn ∧ (Tr.getK .dead M b fun ob => ob.onR fun l => dropK o l fun l => takeX (Nat.mul n sz) l fun l => K n l) = true := by
    unfold rowE at h
    cases v <;> first | (cases h; done) | skip
    case nils => exact .inl ⟨.inl rfl, h⟩
    case emp => exact .inl ⟨.inr rfl, h⟩
    case slc b o n c kn => exact .inr ⟨b, o, n, c, kn, rfl, h⟩
  clear h
  rcases hE with ⟨hv, h⟩ | ⟨b, o, n, c, kn, rfl, h⟩
  · refine ⟨0, [], h, by simp, by rcases hv with rfl | rfl <;> rfl, fun ρ C u hu hM => ⟨rfl, ?_⟩⟩
    rcases hv with rfl | rfl
    · obtain rfl := hu; exact ⟨none, 0, [], rfl, Nat.le_refl _, rfl, fun h => absurd rfl h, fun D _ => ⟨⟨none, 0, rfl, Nat.le_refl _, fun h => absurd h (by omega)⟩, by simp⟩⟩
    · obtain ⟨a, cap, rfl⟩ := hu; exact ⟨_, cap, [], rfl, Nat.zero_le _, rfl, fun h => absurd rfl h, fun D _ => ⟨⟨_, cap, rfl, Nat.zero_le _, fun h => absurd h (by omega)⟩, by simp⟩⟩
  · rw [getM_eq] at h
    obtain ⟨l, hb, h⟩ := OB.onR_true h
    rw [dropK_eq] at h
    obtain ⟨h1, h⟩ := takeX_true h
    have h1 : n * sz ≤ (l.drop o).length := h1
    have h : K n ((l.drop o).take (n * sz)) = true := h
    refine ⟨n, _, h, by rw [List.length_take]; omega, rfl, fun ρ C u hu hM => ?_⟩
    obtain ⟨r, m, cap, hρ, rfl, hn, _⟩ := hu
    obtain ⟨us, rest, _, _, hin, hl, hone⟩ := hM.at_row hb hρ
    have hrd : ∀ D : Heap, (∀ p ∈ C.flatten, p ∈ D.flatten) → RdL W0 D r o ((us.drop o).take (n * sz)) := fun D hD => cells_rdL (hD _ hin) fun j w hj => by
      rw [List.getElem?_take] at hj
      split at hj
      · rwa [List.getElem?_drop] at hj
      · cases hj
    have hul := hl.length
    refine ⟨?_, _, cap, _, rfl, hn, (hl.drop o).take (n * sz), fun _ => ⟨_, rfl, fun D hD => RdL.a (hrd D hD)⟩, fun D hD => ⟨⟨_, cap, rfl, hn, fun _ => ⟨r, o, rfl, hrd D hD⟩⟩, ?_⟩⟩
    · rw [List.all_eq_true] at hone ⊢
      exact fun z hz => hone z (List.mem_of_mem_drop (List.mem_of_mem_take hz))
    · rw [List.length_drop] at h1
      rw [List.length_take, List.length_drop]; omega
theorem pure_append0 (hT : TabOk P T) {lk : Lk} {d : Option Nat} {ty : TypeId} {p : String} {af : Array Edge} {g : Option (Nat × Bool)} {t el : TypeId} {s0 b0 : Nat} {ie : TyI} {x y : Operand} {a b : Option Addr} {n cap c2 : Nat} (ht : T.find t = some ⟨.slice el, s0, b0⟩) (he : T.find el = some ie)
    (hx : lk x = some (true, .slice a n cap)) (hy : lk y = some (true, .slice b 0 c2)) (hn : n ≤ cap) : PureL P lk ⟨d, .call { callee := .builtin .append, args := [x, y].toArray, argTypes := [t, t].toArray }, ty, p, af, g⟩ (.slice a n cap) := fun ρ ha w => by
  have h3 := ha x (by simp [Op.operands, Call.operands]) _ hx
  have h4 := ha y (by simp [Op.operands, Call.operands]) _ hy
  obtain ⟨pi, pd, hpi, hpd, hsz, hby, hdo⟩ := hT.info he
  have hx : execOp ρ ⟨d, .call { callee := .builtin .append, args := #[x, y], argTypes := #[t, t] }, ty, p, af, g⟩ = (do let d ← resolve ρ { callee := .builtin .append, args := #[x, y], argTypes := #[t, t] } ty; invoke d.target d.args) := rfl
  show (execOp ρ ⟨d, .call { callee := .builtin .append, args := #[x, y], argTypes := #[t, t] }, ty, p, af, g⟩).run P w = _
  rw [hx]
  cases a <;> cases b <;> simp [resolve, invoke, builtin, h3, h4, Builtin.append_, run_underlying (hT.slice ht), Go.sizeOf, typeInfo, hpi, Builtin.lenOf, Builtin.firstCells, hn, storeCells, loadCells, loadCellsFrom]
theorem m_appendG (hT : TabOk P T) {e : Env} {C : Heap} {d : Option Nat} {ty : TypeId} {p : String} {af : Array Edge} {g : Option (Nat × Bool)} {t el : TypeId} {s0 b0 : Nat} {ie : TyI} {zs : List Value} {x y : Operand} {ba : Addr} {n gcap : Nat} {xs : List Value} {sa : Addr} {m cap : Nat} {ys : List Value}
    (hx : look e x = some (true, .slice (some ba) n gcap)) (hy : look e y = some (true, .slice (some sa) m cap)) (hb0 : RdA W0 C ba xs) (hxl : xs.length = n * ie.size) (hr : RdA W0 C sa ys) (hl : ys.length = m * ie.size)
    (hfull : gcap < n + m) (hn : n + m ≤ maxLen) (hb : (n + m) * ie.bytes ≤ 140737488355328)
    (ht : T.find t = some ⟨.slice el, s0, b0⟩) (he : T.find el = some ie) (hz : zeroC T zeroFuel el = some zs) (hzl : zs.length = ie.size) :
    MV W0 P e C ⟨d, .call { callee := .builtin .append, args := #[x, y], argTypes := #[t, t] }, ty, p, af, g⟩ (fun v C' => ∃ b rest c', v = .slice (some ⟨b, 0, none⟩) (n + m) c' ∧ C' = [(b, .cells (xs ++ ys ++ rest).toArray el (0, 0))] :: C ∧ n + m ≤ c' ∧ c' ≤ maxLen ∧ (xs ++ ys ++ rest).length = c' * ie.size) := fun X ac ha w next Q hw hnx => by
  have h3 := ha x (by simp [Op.operands, Call.operands]) _ hx
  have h4 := ha y (by simp [Op.operands, Call.operands]) _ hy
  obtain ⟨pi, pd, hpi, hpd, hsz, hby, hdo⟩ := hT.info he
  obtain ⟨z, hz1, hz2⟩ := hT.zero hz w
  have hz3 : pi.zero = some z := by
    unfold zeroValue typeInfo at hz1
    simp only [Sem.run_bind, program, Sem.run, Result.andThen_ok, hpi, Sem.run_pure] at hz1
    cases hpz : pi.zero with
    | none => simp [hpz, unsupported] at hz1
    | some z' =>
      simp only [hpz, Sem.run_pure, Result.ok.injEq, and_true] at hz1
      rw [hz1]
  have hzc : z.cells.size = ie.size := by rw [hz2]; simpa using hzl
  have hsmall : n + m ≤ 9223372036854775807 := by simpa only [maxLen] using hn
  have hcx := cells_at (hw.weak (Weak.skip X C)) hb0
  have hcy := cells_at (hw.weak (Weak.skip X C)) hr
  rw [← hsz] at hxl hl
  rw [← hby] at hb
  have hrun := run_append_grow (P := P) w t ty el pi z (hT.slice ht) hpi hz3 ba n gcap xs hxl hcx sa m cap ys hl hcy hfull (by omega) (growslice_fits (by omega) hb)
  have hge := grownCap_ge w (n + m) gcap el
  have hcm' := grownCap_le_maxLen w (n + m) gcap el hn
  have hd := hw.ext (Ext.drew w)
  have hal := hd.alloc (.cells (xs.toArray ++ ys.toArray ++ Builtin.zeroCells z.cells (grownCap w (n + m) gcap el - (n + m))) el)
  simp only [World.size_drew] at hal
  have hee : (xs ++ ys ++ (Builtin.zeroCells z.cells (grownCap w (n + m) gcap el - (n + m))).toList).toArray = xs.toArray ++ ys.toArray ++ Builtin.zeroCells z.cells (grownCap w (n + m) gcap el - (n + m)) := by
    apply Array.toList_inj.1; simp
  rw [← hee] at hal
  refine exec_value (w' := w.drew.alloc (.cells (xs ++ ys ++ (Builtin.zeroCells z.cells (grownCap w (n + m) gcap el - (n + m))).toList).toArray el)) (v := .slice (some ⟨w.heap.size, 0, none⟩) (n + m) (grownCap w (n + m) gcap el)) ?_ (hnx _ _ _ ⟨w.heap.size, _, _, rfl, rfl, hge, hcm', ?_⟩ (hal.weak (Weak.swap _ _ _)))
  · have hx : execOp ac.eval ⟨d, .call { callee := .builtin .append, args := #[x, y], argTypes := #[t, t] }, ty, p, af, g⟩ = (do let d ← resolve ac.eval { callee := .builtin .append, args := #[x, y], argTypes := #[t, t] } ty; invoke d.target d.args) := rfl
    rw [hx, hee]
    simp [resolve, invoke, builtin, h3, h4, hrun]
  · rw [List.length_append, List.length_append, hxl, hl, Array.length_toList, size_zeroCells, hzc, ← hsz, ← Nat.add_mul, ← Nat.add_mul]
    congr 1
    omega
theorem app_mr {ρ : Rho} {C C0 : Heap} (hM : MR W0 ρ M nx C0) {r c t sz : Nat} {l : List VV} {us rest : List Value} (hl : Rls ρ l us) (hone : l.all VV.one = true) (hlen : (us ++ rest).length = c * sz) (hc : c ≤ maxLen)
    {C' : Heap} (hC : C' = [(r, Obj.cells (us ++ rest).toArray t (0, 0))] :: C0) (hnd : (C'.flatten.map Prod.fst).Nodup) :
    MR W0 (ρ.put nx (r, c)) (Tr.set .dead M nx (.cells t sz l 0)) nx.succ C' := by
  subst hC
  simp only [List.flatten_cons, List.cons_append, List.nil_append, List.map_cons, List.nodup_cons] at hnd
  refine hM.new ⟨us, rest, rfl, Rls.ext (hM.ext_put _) _ _ hl, hone, fun _ => ⟨hlen, hc⟩⟩ (fun p hp e => hnd.1 (List.mem_map.2 ⟨p, hp, e⟩)) (by simp) (fun p hp => by simp [hp])
theorem slc_new {t sz : Nat} {v : Value} {n : Nat} {xs : List Value} {c : List Blk} (h : Slc t sz v n xs c) (hn : 0 < n) : ∃ b cap rest, v = .slice (some ⟨b, 0, none⟩) n cap ∧ c = [(b, Obj.cells (xs ++ rest).toArray t (0, 0))] ∧ n ≤ cap ∧ cap ≤ maxLen ∧ (xs ++ rest).length = cap * sz := by
  rcases h.2 with ⟨_, h1, _⟩ | h
  · omega
  · exact h
theorem app0_ok (hT : TabOk P T) {d ty q af g t el s0 b0 ie zs x y x' y'} (ht : T.find t = some ⟨.slice el, s0, b0⟩) (he : T.find el = some ie) (hz : zeroC T zeroFuel el = some zs) (hzl : Nat.beq zs.length ie.size = true) (hby1 : Nat.ble 1 ie.bytes = true) (hsz1 : Nat.ble 1 ie.size = true) (hx : XR x' x) (hy : XR y' y)
    (h : appendV0 M nx el ie.size ie.bytes (x'.get ve) (y'.get ve) k = true) :
    ∃ v M' nx', k v M' nx' = true ∧ Fact W0 P ve M nx ⟨d, .call { callee := .builtin .append, args := [x, y].toArray, argTypes := [t, t].toArray }, ty, q, af, g⟩ v M' nx' := by
  have hzl := Nat.eq_of_beq_eq_true hzl
  have hby1 := Nat.le_of_ble_eq_true hby1
  have hsz1 := Nat.le_of_ble_eq_true hsz1
  have hlim : ∀ {a : Nat}, Nat.ble (Nat.mul a ie.bytes) 140737488355328 = true → a * ie.bytes ≤ 140737488355328 ∧ a ≤ maxLen := fun {a} h => by
    have h1 : a * ie.bytes ≤ 140737488355328 := Nat.le_of_ble_eq_true h
    exact ⟨h1, Nat.le_trans (Nat.le_trans (Nat.le_mul_of_pos_right a hby1) h1) (by decide)⟩
  obtain ⟨m, ys, h, hys, hyok, hyr⟩ := rowE_true (W0 := W0) (nx := nx) h
  rcases rec_beq h with ⟨hm, h⟩ | ⟨hm, h⟩
  · -- nothing is put behind
    subst hm
    have go : ∀ v, k v M nx = true → x'.get ve = v → v.ok = true → (∀ ρ u, Rl ρ v u → ∃ a n cap, u = .slice a n cap ∧ n ≤ cap) → ∃ v M' nx', k v M' nx' = true ∧ Fact W0 P ve M nx ⟨d, .call { callee := .builtin .append, args := [x, y].toArray, argTypes := [t, t].toArray }, ty, q, af, g⟩ v M' nx' := by
      intro v h hv hok hu
      refine ⟨v, M, nx, h, .m rfl (Mono.refl _ _) fun ρ e C hee hM => ?_⟩
      obtain ⟨u, h1, h2⟩ := hx.look hee hv hok
      obtain ⟨a, n, cap, rfl, hn⟩ := hu ρ u h2
      obtain ⟨w, h3, h4⟩ := hy.look hee rfl hyok
      obtain ⟨_, a2, c2, us, rfl, _⟩ := hyr ρ C w h4 hM
      refine MV.post (PureV.m (W0 := W0) (C := C) (C' := C) (pure_append0 hT ht he h1 h3 hn) (Weak.refl C)) ?_
      rintro _ _ ⟨rfl, rfl⟩
      exact ⟨ρ, Ext.refl ρ, hM, Keep.refl _ _ _, .inl h2⟩
    rcases VV.onS_true h with ⟨hv, h⟩ | ⟨b, o, n, c, kn, hv, h⟩
    · exact go .nils h hv rfl fun ρ u hu => ⟨none, 0, 0, hu, Nat.le_refl _⟩
    · exact go _ h rfl (by rw [hv]; rfl) fun ρ u hu => by rw [hv] at hu; obtain ⟨r, mm, cap, _, rfl, hn, _⟩ := hu; exact ⟨_, _, _, rfl, hn⟩
  · rcases VV.onS_true h with ⟨hv, h⟩ | ⟨b, o, n, c, kn, hv, h⟩
    · -- nil
      obtain ⟨hb, h⟩ := brec_true h
      obtain ⟨hb, hml⟩ := hlim hb
      refine ⟨_, _, _, mkK_true h, .m rfl Mono.new fun ρ e C hee hM => ?_⟩
      obtain ⟨u, h1, rfl⟩ := hx.look hee hv rfl
      obtain ⟨w, h3, h4⟩ := hy.look hee rfl hyok
      obtain ⟨hyo, a2, c2, us, rfl, _, hyl, hrd, _⟩ := hyr ρ C w h4 hM
      obtain ⟨sa, rfl, hrd'⟩ := hrd hm
      have hul := hyl.length
      refine MV.post (MV.nodup (m_append hT (ty := ty) (p := q) (af := af) (g := g) (d := d) h1 h3 (Weak.nil C) (Slc.nil el ie.size) (hrd' ([] :: C) (fun p hp => by simpa using hp)) (by rw [hul, hys]) (hyl.all_one hyo) (by simpa using hml) (by simpa using hb) ht he hz hzl)) ?_
      rintro v C' ⟨⟨c', hs, rfl⟩, hnd⟩
      rw [Nat.zero_add, List.nil_append] at hs
      obtain ⟨r, cap, rest, rfl, rfl, h5, h6, h7⟩ := slc_new hs (by omega)
      refine ⟨_, hM.ext_put (r, cap), app_mr (C := C) hM hyl hyo h7 h6 rfl hnd, fun q r' c' ro hq hsame hq2 hin => by simp [hin], .inl ⟨r, cap, cap, Rho.put_self _ _ _, rfl, h5, (fun h => (by cases h)), fun _ => rfl⟩⟩
    · rw [getM_eq] at h
      obtain ⟨t', s', l, ver, hb0, h⟩ := OB.onC_true h
      rw [dropK_eq] at h
      obtain ⟨hxlen, h⟩ := takeX_true h
      have hxlen : n * ie.size ≤ (l.drop o).length := hxlen
      rw [appK_eq, forceN_eq] at h
      obtain ⟨hb, h⟩ := brec_true h
      obtain ⟨hb, hml⟩ := hlim hb
      have hnm : Nat.add n m = n + m := rfl
      rw [hnm] at hb hml h
      have hmul : Nat.mul n ie.size = n * ie.size := rfl
      rw [hmul] at h
      have hxone : ∀ {l : List VV}, l.all VV.one = true → ((l.drop o).take (n * ie.size)).all VV.one = true := fun {l} hl => by
        rw [List.all_eq_true] at hl ⊢
        exact fun z hz => hl z (List.mem_of_mem_drop (List.mem_of_mem_take hz))
      cases kn with
      | false =>
        obtain ⟨hchk, hk⟩ := brec_true (b := _) h
        clear h
        obtain ⟨ho, hchk⟩ := brec_true hchk
        obtain ⟨hc, hchk⟩ := brec_true hchk
        obtain ⟨htt, hss⟩ := brec_true hchk
        have ho := Nat.eq_of_beq_eq_true ho
        have hc := Nat.eq_of_beq_eq_true hc
        have htt := Nat.eq_of_beq_eq_true htt
        have hss := Nat.eq_of_beq_eq_true hss
        subst ho; subst hc; subst htt; subst hss
        rw [Tr.setK_eq] at hk
        have h := mkK_true hk
        clear hk
        refine ⟨_, _, _, h, .m rfl ((Mono.set (o := .dead) (fun _ (h : False) => h.elim) (.inr fun (h : False) => h)).trans Mono.new) fun ρ e C hee hM => ?_⟩
        obtain ⟨u, h1, r, mm, cap, hρ, rfl, hncap, _, hcap⟩ := hx.look hee hv rfl
        have hcap := hcap rfl
        obtain ⟨w, h3, h4⟩ := hy.look hee rfl hyok
        obtain ⟨hyo, a2, c2, us, rfl, _, hyl, hrd, _⟩ := hyr ρ C w h4 hM
        obtain ⟨sa, rfl, hrd'⟩ := hrd hm
        have hul := hyl.length
        obtain ⟨ls, rest, hin, hl, hone, hroom⟩ := hM.at_cells hb0 hρ
        obtain ⟨htot, hcm⟩ := hroom (by omega)
        have hll := hl.length
        simp only [List.drop_zero] at hxlen h ⊢
        obtain ⟨C0, hW, hC0⟩ := split_mem hin
        have hslc : Slc el ie.size (.slice (some ⟨r, 0, none⟩) n cap) n (ls.take (n * ie.size)) [(r, Obj.cells (ls ++ rest).toArray el (0, 0))] := by
          refine ⟨by rw [List.length_take]; omega, .inr ⟨r, cap, ls.drop (n * ie.size) ++ rest, rfl, ?_, hncap, by omega, ?_⟩⟩
          · rw [← List.append_assoc, List.take_append_drop]
          · rw [← List.append_assoc, List.take_append_drop, htot]; congr 1; omega
        refine MV.post (MV.nodup (m_append hT (ty := ty) (p := q) (af := af) (g := g) (d := d) h1 h3 hW hslc (hrd' _ (fun p hp => by
          rcases hC0 p hp with rfl | h
          · simp
          · simp [h])) (by rw [hul, hys]) (hyl.all_one hyo) hml hb ht he hz hzl)) ?_
        rintro v C' ⟨⟨c', hs, rfl⟩, hnd⟩
        obtain ⟨r', cap', rest', rfl, rfl, h5, h6, h7⟩ := slc_new hs (by omega)
        have hM0 : MR W0 ρ (Tr.set .dead M b .dead) nx [C0] := by
          have hk := hM.kill b
          refine ⟨hk.old, fun p hp => ?_, hk.inj, fun p ty ti t e q hp => ?_, hk.one, hk.bas⟩
          rotate_left
          · have hpb : p ≠ b := fun e => by rw [e, at_set] at hp; cases hp
            rw [at_set_ne M _ hpb] at hp
            refine (hM.dgs p ty ti t e q hp).mono (Ext.refl _) fun x hx hf => ⟨?_, fun b' hb' => hf b' ?_⟩
            · rcases hC0 _ hx with h11 | h11
              · subst h11; exact absurd hρ (hf b (by rw [hb0]; trivial) _)
              · simpa using h11
            · by_cases hbb : b' = b
              · subst hbb; rw [at_set] at hb'; exact hb'.elim
              · rwa [at_set_ne M _ hbb] at hb'
          obtain ⟨r2, c2, ro2, h8, h9, h10⟩ := hk.live p hp
          refine ⟨r2, c2, ro2, h8, ?_, h10⟩
          rcases hC0 _ h9 with h11 | h11
          · exfalso
            have hpb : p ≠ b := fun e => by rw [e, at_set] at hp; exact hp
            have hp' := hp
            rw [at_set_ne M _ hpb] at hp'
            simp only [Prod.mk.injEq] at h11
            obtain ⟨rfl, _⟩ := h11
            exact hpb (hM.inj p b _ _ _ hp' (by rw [hb0]; trivial) h8 hρ)
          · simpa using h11
        refine ⟨_, hM.ext_put (r', cap'), app_mr (C := C) hM0 ((hl.take (n * ie.size)).append hyl) (by rw [List.all_append, hyo, Bool.and_true]; simpa using hxone (l := l) hone) h7 h6 rfl hnd, fun p r2 c2 ro hp hsame hp2 hpin => ?_, .inl ⟨r', cap', cap', Rho.put_self _ _ _, rfl, h5, (fun h => (by cases h)), fun _ => rfl⟩⟩
        rcases hC0 _ hpin with h11 | h11
        · exfalso
          simp only [Prod.mk.injEq] at h11
          obtain ⟨rfl, _⟩ := h11
          have := hM.inj p b _ _ _ hp (by rw [hb0]; trivial) hp2 hρ
          subst this
          have hlt := hM.old p _ hρ
          rw [show Mm.at (Tr.set .dead (Tr.set .dead M p .dead) nx _) p = .dead by rw [at_set_ne _ _ (fun e => by rw [e] at hlt; omega), at_set]] at hsame
          rw [← hsame] at hp
          exact hp
        · simp [h11]
      | true =>
        rcases rec_ble (b := false) h with ⟨_, h⟩ | ⟨hfull, h⟩
        · cases h
        have h := mkK_true h
        refine ⟨_, _, _, h, .m rfl Mono.new fun ρ e C hee hM => ?_⟩
        obtain ⟨u, h1, r, mm, cap, hρ, rfl, hncap, hcap, _⟩ := hx.look hee hv rfl
        have hcap := hcap rfl
        subst hcap
        obtain ⟨w, h3, h4⟩ := hy.look hee rfl hyok
        obtain ⟨hyo, a2, c2, us, rfl, _, hyl, hrd, _⟩ := hyr ρ C w h4 hM
        obtain ⟨sa, rfl, hrd'⟩ := hrd hm
        have hul := hyl.length
        obtain ⟨ls, rest, hin, hl, hone, hroom⟩ := hM.at_cells hb0 hρ
        have hll := hl.length
        have hbase : RdA W0 C ⟨r, o, none⟩ ((ls.drop o).take (n * ie.size)) := RdL.a (cells_rdL hin fun j w hj => by
          rw [List.getElem?_take] at hj
          split at hj
          · rwa [List.getElem?_drop] at hj
          · cases hj)
        have hxl : ((ls.drop o).take (n * ie.size)).length = n * ie.size := by
          rw [List.length_drop] at hxlen
          rw [List.length_take, List.length_drop]; omega
        refine MV.post (MV.nodup (m_appendG hT (ty := ty) (p := q) (af := af) (g := g) (d := d) h1 h3 hbase hxl (hrd' C fun _ h => h) (by rw [hul, hys]) hfull hml hb ht he hz hzl)) ?_
        rintro v C' ⟨⟨r', rest', cap', rfl, rfl, h5, h6, h7⟩, hnd⟩
        refine ⟨_, hM.ext_put (r', cap'), app_mr (C := C) hM (((hl.drop o).take (n * ie.size)).append hyl) (by rw [List.all_append, hyo, Bool.and_true]; exact hxone hone) h7 h6 rfl hnd, fun p r2 c2 ro hp hsame hp2 hpin => by simp [hpin], .inl ⟨r', cap', cap', Rho.put_self _ _ _, rfl, h5, (fun h => (by cases h)), fun _ => rfl⟩⟩
theorem m_append0 (hT : TabOk P T) {e : Env} {C : Heap} {d : Option Nat} {ty : TypeId} {p : String} {af : Array Edge} {g : Option (Nat × Bool)} {t el : TypeId} {s0 b0 : Nat} {ie : TyI} {zs : List Value} {x y : Operand} {u : Value} {sa : Addr} {m cap : Nat} {ys : List Value}
    (hx : look e x = some (true, u)) (hu : u = .slice none 0 0 ∨ ∃ a, u = .slice (some a) 0 0) (hy : look e y = some (true, .slice (some sa) m cap)) (hr : RdA W0 C sa ys) (hl : ys.length = m * ie.size) (h1 : ys.all (·.oneCell') = true)
    (hm : 1 ≤ m) (hn : m ≤ maxLen) (hb : m * ie.bytes ≤ 140737488355328) (ht : T.find t = some ⟨.slice el, s0, b0⟩) (he : T.find el = some ie) (hz : zeroC T zeroFuel el = some zs) (hzl : zs.length = ie.size) :
    MV W0 P e C ⟨d, .call { callee := .builtin .append, args := #[x, y], argTypes := #[t, t] }, ty, p, af, g⟩ (fun v C' => ∃ r rest c', v = .slice (some ⟨r, 0, none⟩) m c' ∧ C' = [(r, .cells (ys ++ rest).toArray el (0, 0))] :: C ∧ m ≤ c' ∧ c' ≤ maxLen ∧ (ys ++ rest).length = c' * ie.size) := by
  rcases hu with rfl | ⟨a, rfl⟩
  · refine MV.post (m_append hT hx hy (Weak.nil C) (Slc.nil el ie.size) (hr.mono (Weak.skip [] C)) hl h1 (by simpa using hn) (by simpa using hb) ht he hz hzl) ?_
    rintro v C' ⟨c', hs, rfl⟩
    rw [Nat.zero_add, List.nil_append] at hs
    obtain ⟨r, cap, rest, rfl, rfl, h5, h6, h7⟩ := slc_new hs (by omega)
    exact ⟨r, rest, cap, rfl, rfl, h5, h6, h7⟩
  · refine MV.post (m_appendG hT (n := 0) (gcap := 0) (xs := []) hx hy RdA.nil (by simp) hr hl (by omega) (by simpa using hn) (by simpa using hb) ht he hz hzl) ?_
    rintro v C' ⟨r, rest, c', rfl, rfl, h5, h6, h7⟩
    rw [Nat.zero_add] at *
    exact ⟨r, rest, c', rfl, by simp, h5, h6, by simpa using h7⟩
theorem OB.onBb_true {o : OB} {k : Nat → Den.P → Den.P → Bool} (h : o.onBb k = true) : ∃ t q ql, o = .byt t q ql ∧ k t q ql = true := by
  cases o with
  | byt t q ql => exact ⟨t, q, ql, rfl, h⟩
  | _ => cases h
theorem OB.onRw_true {o : OB} {k : Nat → Nat → Den.P → Den.P → Nat → Nat → Option Atoms → Bool} (h : o.onRw k = true) : ∃ t sz q s hs hc W, o = .rows t sz q s hs hc W ∧ k t sz q s hs hc W = true := by
  cases o with
  | rows t sz q s hs hc W => exact ⟨t, sz, q, s, hs, hc, W, rfl, h⟩
  | _ => cases h
theorem bandL {a b : Bool} (h : (a && b) = true) : a = true := by cases a with | true => rfl | false => cases h
theorem bandR {a b : Bool} (h : (a && b) = true) : b = true := by cases a with | true => exact h | false => cases h
theorem Rl.nil0 {ρ : Rho} {v : VV} {u : Value} (hv : v.nil0) (h : Rl ρ v u) : u = .slice none 0 0 ∨ ∃ a, u = .slice (some a) 0 0 := by
  rcases hv with rfl | rfl | ⟨b, o, rfl⟩
  · exact .inl h
  · obtain ⟨a, rfl⟩ := h
    cases a with
    | none => exact .inl rfl
    | some a => exact .inr ⟨a, rfl⟩
  · obtain ⟨r, m, cap, _, rfl, _, h3, _⟩ := h
    rw [h3 rfl]
    exact .inr ⟨_, rfl⟩
theorem nil0_ok {v : VV} (hv : v.nil0) : v.ok = true := by rcases hv with rfl | rfl | ⟨_, _, rfl⟩ <;> rfl
theorem byCells_one (b : ByteArray) : (byCells b).all (·.oneCell') = true := by
  rw [List.all_eq_true]
  intro x hx
  obtain ⟨y, _, rfl⟩ := List.mem_map.1 hx
  rfl
theorem byCells_len (b : ByteArray) : (byCells b).length = b.size := by unfold byCells; rw [List.length_map, Array.length_toList]; rfl
section
variable {d : Option Nat} {ty : TypeId} {q : String} {af : Array Edge} {g : Option (Nat × Bool)} {t el s0 b0 : Nat} {ie : TyI} {zs : List Value} {x y : Operand} {x' y' : X}
theorem appB_ok (hT : TabOk P T) (ht : T.find t = some ⟨.slice el, s0, b0⟩) (he : T.find el = some ie) (hz : zeroC T zeroFuel el = some zs) (hzl : zs.length = ie.size) (hby1 : 1 ≤ ie.bytes) (hx : XR x' x) (hy : XR y' y) {b ql : Den.P} {lo hi : Nat} (hw : y'.get ve = .byv b ql lo hi)
    (h : appendB M nx el ie.size ie.bytes (x'.get ve) b ql lo hi k = true) :
    ∃ v M' nx', k v M' nx' = true ∧ Fact W0 P ve M nx ⟨d, .call { callee := .builtin .append, args := [x, y].toArray, argTypes := [t, t].toArray }, ty, q, af, g⟩ v M' nx' := by
  rcases VV.onNil0_true h with h | ⟨hv, h⟩
  · cases h
  rw [getM_eq] at h
  obtain ⟨t', q0, ql', hb0, h⟩ := OB.onBb_true h
  obtain ⟨hc, h⟩ := brec_true h
  have h := mkK_true h
  have c1 := Nat.eq_of_beq_eq_true (bandL (bandL (bandL (bandL hc))))
  have c2 := Nat.eq_of_beq_eq_true (bandR (bandL (bandL (bandL hc))))
  have c3 := Den.P.eqb_eq.1 (bandR (bandL (bandL hc)))
  have c4 := Nat.le_of_ble_eq_true (bandR (bandL hc))
  have c5 : hi * ie.bytes ≤ 140737488355328 := Nat.le_of_ble_eq_true (bandR hc)
  subst c1 c3
  have c6 : hi ≤ 140737488355328 := Nat.le_trans (Nat.le_mul_of_pos_right hi hby1) c5
  refine ⟨_, _, _, h, .m rfl Mono.new fun ρ e C hee hM => ?_⟩
  obtain ⟨u, h1, h2⟩ := hx.look hee rfl (nil0_ok hv)
  obtain ⟨w, h3, r, mm, n, s', cap, g1, g2, g3, g4, g5, rfl⟩ := hy.look hee hw rfl
  obtain ⟨r2, c2', ro, g6, g7, g8⟩ := hM.live b (by rw [hb0]; trivial)
  rw [g1] at g6
  cases g6
  rw [hb0] at g8
  obtain ⟨rq, s1, s2, rest, fz, g9, g10, rfl⟩ := g8
  rw [g2] at g10
  cases g10
  have hn : (txt rq).size ≤ maxLen := Nat.le_trans g4 (Nat.le_trans c6 (by decide))
  have hnb : (txt rq).size * ie.bytes ≤ 140737488355328 := Nat.le_trans (Nat.mul_le_mul_right _ g4) c5
  refine MV.post (MV.nodup (m_append0 hT (ty := ty) (p := q) (af := af) (g := g) (d := d) h1 (h2.nil0 hv) h3 (RdL.a (cells_rdL g7 fun j u hj => by simpa using hj)) (by rw [byCells_len, c2, Nat.mul_one]) (byCells_one _) (by omega) hn hnb ht he hz hzl)) ?_
  rintro v C' ⟨⟨r', rest', c', rfl, rfl, h5, h6, h7⟩, hnd⟩
  simp only [List.flatten_cons, List.cons_append, List.nil_append, List.map_cons, List.nodup_cons] at hnd
  have hx' := hM.ext_put (r', c')
  exact ⟨_, hx', hM.new (o := .byt t' q0 ql') ⟨rq, s1, s', rest', (0, 0), hx' _ _ g9, hx' _ _ g2, rfl⟩ (fun p hp e => hnd.1 (List.mem_map.2 ⟨p, hp, e⟩)) (by simp) (fun p hp => by simp [hp]), fun q r' c' ro hq hsame hq2 hin => by simp [hin],
    .inl ⟨r', c', _, s', c', Rho.put_self _ _ _, hx' _ _ g2, g3, g4, h5, rfl⟩⟩
theorem appC_ok (hT : TabOk P T) (ht : T.find t = some ⟨.slice el, s0, b0⟩) (he : T.find el = some ie) (hz : zeroC T zeroFuel el = some zs) (hzl : zs.length = ie.size) (hby1 : 1 ≤ ie.bytes) (hx : XR x' x) (hy : XR y' y) {b q0 : Den.P} (hw : y'.get ve = .lsl b q0)
    (h : appendC M nx el ie.size ie.bytes (x'.get ve) b q0 k = true) :
    ∃ v M' nx', k v M' nx' = true ∧ Fact W0 P ve M nx ⟨d, .call { callee := .builtin .append, args := [x, y].toArray, argTypes := [t, t].toArray }, ty, q, af, g⟩ v M' nx' := by
  rcases VV.onNil0_true h with h | ⟨hv, h⟩
  · cases h
  rw [getM_eq] at h
  obtain ⟨t', sz', q', sT, hs, hc, W, hb0, h⟩ := OB.onRw_true h
  obtain ⟨hcc, hk⟩ := brec_true h
  have hk := mkK_true hk
  have c1 := Nat.eq_of_beq_eq_true (bandL (bandL (bandL hcc)))
  have c2 := Nat.eq_of_beq_eq_true (bandR (bandL (bandL hcc)))
  have c3 := Den.P.eqb_eq.1 (bandR (bandL hcc))
  have c5 : (hs + hc) * ie.bytes ≤ 140737488355328 := Nat.le_of_ble_eq_true (bandR hcc)
  subst c1 c2 c3
  have c6 : hs + hc ≤ 140737488355328 := Nat.le_trans (Nat.le_mul_of_pos_right _ hby1) c5
  refine ⟨_, _, _, hk, .m rfl Mono.new fun ρ e C hee hM => ?_⟩
  obtain ⟨u, h1, h2⟩ := hx.look hee rfl (nil0_ok hv)
  obtain ⟨w, h3, r, cap, n, s, g1, g2, g3, rfl⟩ := hy.look hee hw rfl
  obtain ⟨r2, c2', ro, g6, g7, g8⟩ := hM.live b (by rw [hb0]; trivial)
  rw [g1] at g6
  cases g6
  rw [hb0] at g8
  obtain ⟨n', s', us, rest, τ, s2, k1, k2, k3, k4, k5, rfl, k6, k7, k8, k9, k10⟩ := g8
  rw [g2] at k1
  cases k1
  have hnb : n * ie.bytes ≤ 140737488355328 := Nat.le_trans (Nat.mul_le_mul_right _ (by omega)) c5
  refine MV.post (MV.nodup (m_append0 hT (ty := ty) (p := q) (af := af) (g := g) (d := d) h1 (h2.nil0 hv) h3 (RdL.a (cells_rdL g7 fun j u hj => by simpa using hj)) k6 k7 k5 (Nat.le_trans (by omega) (Nat.le_trans c6 (by decide))) hnb ht he hz hzl)) ?_
  rintro v C' ⟨⟨r', rest', c', rfl, rfl, h5, h6, h7⟩, hnd⟩
  simp only [List.flatten_cons, List.cons_append, List.nil_append, List.map_cons, List.nodup_cons] at hnd
  have hx' := hM.ext_put (r', c')
  exact ⟨_, hx', hM.new (o := .rows t' ie.size q' sT hs hc W) ⟨n, s, us, rest', τ, s2, hx' _ _ g2, hx' _ _ k2, k3, k4, k5, rfl, k6, k7, h7, h6, fun w hw => by obtain ⟨b, h9, h10⟩ := k10 w hw; exact ⟨b, h9.ext hx', h10⟩⟩ (fun p hp e => hnd.1 (List.mem_map.2 ⟨p, hp, e⟩)) (by simp) (fun p hp => by simp [hp]), fun q r' c' ro hq hsame hq2 hin => by simp [hin],
    .inl ⟨r', c', n, s, Rho.put_self _ _ _, hx' _ _ g2, h5, rfl⟩⟩
theorem noteK_true {ys : List VV} {w : Atoms} {K : Atoms → Bool} (h : noteK ys w K = true) : ∃ w', K w' = true ∧ ys.length = 11 ∧ ∀ ρ usR us b, Rls ρ ys usR → TxR ρ w b → Notes us b → ∃ b', TxR ρ w' b' ∧ Notes (us ++ usR) b' := by
  unfold noteK at h
  split at h
  rotate_left
  · cases h
  rename_i tk th kd sys a b s t z vl dv
  obtain ⟨hz, h⟩ := brec_true h
  have hz : z = Int.ofNat 0 := of_decide_eq_true ((eqZ_eq _ _).symm.trans hz)
  subst hz
  have hcond : (Bool.rec false (eqZ sys (.ofNat 3)) (eqZ th (.ofNat 0)) : Bool) = decide (th = 0 ∧ sys = 3) := by
    rw [eqZ_eq, eqZ_eq]
    by_cases h1 : th = 0
    · subst h1; simp
    · simp [h1]
  have open11 : ∀ {ρ : Rho} {usR : List Value}, Rls ρ [tk, .i th, kd, .i sys, a, b, s, t, .i (Int.ofNat 0), vl, dv] usR → ∃ u1 u3 u5 u6 u7 u8 u10 u11, usR = [u1, .int .i64 th, u3, .int .i64 sys, u5, u6, u7, u8, .int .i64 0, u10, u11] ∧ Rl ρ dv u11 := fun {ρ usR} hr => by
    obtain ⟨u1, _, rfl, _, hr⟩ := hr
    obtain ⟨u2, _, rfl, e2, hr⟩ := hr
    obtain ⟨u3, _, rfl, _, hr⟩ := hr
    obtain ⟨u4, _, rfl, e4, hr⟩ := hr
    obtain ⟨u5, _, rfl, _, hr⟩ := hr
    obtain ⟨u6, _, rfl, _, hr⟩ := hr
    obtain ⟨u7, _, rfl, _, hr⟩ := hr
    obtain ⟨u8, _, rfl, _, hr⟩ := hr
    obtain ⟨u9, _, rfl, e9, hr⟩ := hr
    obtain ⟨u10, _, rfl, _, hr⟩ := hr
    obtain ⟨u11, _, rfl, e11, hr⟩ := hr
    cases hr
    cases e2
    cases e4
    cases e9
    exact ⟨u1, u3, u5, u6, u7, u8, u10, u11, rfl, e11⟩
  rcases VV.onSt_true h with ⟨l, rfl, h⟩ | ⟨l, rfl, h⟩
  · rw [hcond] at h
    by_cases hc : th = 0 ∧ sys = 3
    · rw [decide_eq_true hc] at h
      obtain ⟨hl, h⟩ := brec_true h
      have hl := nilB_true hl
      refine ⟨w, h, rfl, fun ρ usR us b hr hw hn => ?_⟩
      obtain ⟨u1, u3, u5, u6, u7, u8, u10, u11, rfl, e11, _⟩ := open11 hr
      subst hl e11
      have := Notes.snoc (tk := u1) (kd := u3) (a := u5) (c := u6) (s := u7) (t := u8) (vl := u10) (d := bytesOf []) (th := th) (sys := sys) hn
      rw [if_pos hc, show bytesOf [] = ByteArray.empty from rfl, ByteArray.append_empty] at this
      exact ⟨b, hw, this⟩
    · rw [decide_eq_false hc] at h
      refine ⟨w, h, rfl, fun ρ usR us b hr hw hn => ?_⟩
      obtain ⟨u1, u3, u5, u6, u7, u8, u10, u11, rfl, e11, _⟩ := open11 hr
      subst e11
      have := Notes.snoc (tk := u1) (kd := u3) (a := u5) (c := u6) (s := u7) (t := u8) (vl := u10) (d := bytesOf l) (th := th) (sys := sys) hn
      rw [if_neg hc, ByteArray.append_empty] at this
      exact ⟨b, hw, this⟩
  · rw [hcond] at h
    by_cases hc : th = 0 ∧ sys = 3
    · rw [decide_eq_true hc] at h
      have h : appK w l K = true := h
      rw [appK_eq] at h
      refine ⟨w ++ l, h, rfl, fun ρ usR us b hr hw hn => ?_⟩
      obtain ⟨u1, u3, u5, u6, u7, u8, u10, u11, rfl, d0, rfl, hd⟩ := open11 hr
      have := Notes.snoc (tk := u1) (kd := u3) (a := u5) (c := u6) (s := u7) (t := u8) (vl := u10) (d := d0) (th := th) (sys := sys) hn
      rw [if_pos hc] at this
      exact ⟨b ++ d0, hw.append hd, this⟩
    · rw [decide_eq_false hc] at h
      refine ⟨w, h, rfl, fun ρ usR us b hr hw hn => ?_⟩
      obtain ⟨u1, u3, u5, u6, u7, u8, u10, u11, rfl, d0, rfl, hd⟩ := open11 hr
      have := Notes.snoc (tk := u1) (kd := u3) (a := u5) (c := u6) (s := u7) (t := u8) (vl := u10) (d := d0) (th := th) (sys := sys) hn
      rw [if_neg hc, ByteArray.append_empty] at this
      exact ⟨b, hw, this⟩
theorem rowsK_true {ys : List VV} {sz m : Nat} {W : Option Atoms} {K : Option Atoms → Bool} (h : rowsK ys sz m W K = true) : ∃ W', K W' = true ∧ ∀ ρ usR us, Rls ρ ys usR → (∀ w, W = some w → ∃ b, TxR ρ w b ∧ Notes us b) → ∀ w, W' = some w → ∃ b, TxR ρ w b ∧ Notes (us ++ usR) b := by
  unfold rowsK at h
  split at h
  · exact ⟨none, h, fun _ _ _ _ _ _ hw => by cases hw⟩
  · rename_i w
    obtain ⟨_, h⟩ := brec_true h
    obtain ⟨w', h, _, hw'⟩ := noteK_true (K := fun w => K (some w)) h
    refine ⟨some w', h, fun ρ usR us hr hW w2 hw2 => ?_⟩
    cases hw2
    obtain ⟨b, h1, h2⟩ := hW w rfl
    exact hw' ρ usR us b hr h1 h2
theorem MR.kill0 {ρ : Rho} {M : Mem} {nx : Den.P} {C : Heap} (hM : MR W0 ρ M nx C) {b : Den.P} {r c : Nat} {ro : Obj} (hb : (Mm.at M b).live) (hρ : ρ b = some (r, c)) {C0 : List Blk} (hC0 : ∀ p ∈ C.flatten, p = (r, ro) ∨ p ∈ C0) : MR W0 ρ (Tr.set .dead M b .dead) nx [C0] := by
  have hk := hM.kill b
  refine ⟨hk.old, fun p hp => ?_, hk.inj, fun p ty ti t e q hp => ?_, hk.one, hk.bas⟩
  rotate_left
  · have hpb : p ≠ b := fun e => by rw [e, at_set] at hp; cases hp
    rw [at_set_ne M _ hpb] at hp
    refine (hM.dgs p ty ti t e q hp).mono (Ext.refl _) fun x hx hf => ⟨?_, fun b' hb' => hf b' ?_⟩
    · rcases hC0 _ hx with h11 | h11
      · subst h11; exact absurd hρ (hf b hb _)
      · simpa using h11
    · by_cases hbb : b' = b
      · subst hbb; rw [at_set] at hb'; exact hb'.elim
      · rwa [at_set_ne M _ hbb] at hb'
  obtain ⟨r2, c2, ro2, h8, h9, h10⟩ := hk.live p hp
  refine ⟨r2, c2, ro2, h8, ?_, h10⟩
  rcases hC0 _ h9 with h11 | h11
  · exfalso
    have hpb : p ≠ b := fun e => by rw [e, at_set] at hp; exact hp
    have hp' := hp
    rw [at_set_ne M _ hpb] at hp'
    simp only [Prod.mk.injEq] at h11
    obtain ⟨rfl, _⟩ := h11
    exact hpb (hM.inj p b _ _ _ hp' hb h8 hρ)
  · simpa using h11
theorem appL_ok (hT : TabOk P T) (ht : T.find t = some ⟨.slice el, s0, b0⟩) (he : T.find el = some ie) (hz : zeroC T zeroFuel el = some zs) (hzl : zs.length = ie.size) (hby1 : 1 ≤ ie.bytes) (hx : XR x' x) (hy : XR y' y) {b q0 : Den.P} (hv : x'.get ve = .lsl b q0)
    (h : appendL M nx el ie.size ie.bytes b q0 (y'.get ve) k = true) :
    ∃ v M' nx', k v M' nx' = true ∧ Fact W0 P ve M nx ⟨d, .call { callee := .builtin .append, args := [x, y].toArray, argTypes := [t, t].toArray }, ty, q, af, g⟩ v M' nx' := by
  obtain ⟨m, ys, h, hys, hyok, hyr⟩ := rowE_true (W0 := W0) (nx := nx) h
  rw [getM_eq] at h
  obtain ⟨t', sz', q', sT, hs, hc, W, hb0, h⟩ := OB.onRw_true h
  rw [forceN_eq] at h
  obtain ⟨hcc, hk⟩ := brec_true h
  obtain ⟨W', hk, hW'⟩ := rowsK_true hk
  rw [Tr.setK_eq, Den.P.succK_eq] at hk
  have hk := mkK_true hk
  have c0 := Nat.le_of_ble_eq_true (bandL (bandL (bandL (bandL hcc))))
  have c1 := Nat.eq_of_beq_eq_true (bandR (bandL (bandL (bandL hcc))))
  have c2 := Nat.eq_of_beq_eq_true (bandL (bandR (bandL (bandL hcc))))
  have c3 := Den.P.eqb_eq.1 (bandR (bandR (bandL (bandL hcc))))
  have c5 : (hs + (hc + m)) * ie.bytes ≤ 140737488355328 := Nat.le_of_ble_eq_true (bandR (bandL hcc))
  have c7 := bandR hcc
  subst c1 c2 c3
  have c6 : hs + (hc + m) ≤ 140737488355328 := Nat.le_trans (Nat.le_mul_of_pos_right _ hby1) c5
  refine ⟨_, _, _, hk, .m rfl (((Mono.set (o := .dead) (fun _ (h : False) => h.elim) (.inr fun (h : False) => h)).trans Mono.sym).trans Mono.new) fun ρ e C hee hM => ?_⟩
  obtain ⟨u, h1, r, cap, n, s, g1, g2, g3, rfl⟩ := hx.look hee hv rfl
  obtain ⟨w, h3, h4⟩ := hy.look hee rfl hyok
  obtain ⟨hyo, a2, c2', usR, rfl, _, hyl, hrd, _⟩ := hyr ρ C w h4 hM
  obtain ⟨sa, rfl, hrd'⟩ := hrd (by omega)
  obtain ⟨r2, c3', ro, g6, g7, g8⟩ := hM.live b (by rw [hb0]; trivial)
  rw [g1] at g6
  cases g6
  rw [hb0] at g8
  obtain ⟨n', s', us, rest, τ, s2, k1, k2, k3, k4, k5, rfl, k6, k7, k8, k9, k10⟩ := g8
  rw [g2] at k1
  cases k1
  have hul := hyl.length
  obtain ⟨C0, hWk, hC0⟩ := split_mem g7
  have hslc : Slc t' ie.size (.slice (some ⟨r, 0, none⟩) n cap) n us [(r, Obj.cells (us ++ rest).toArray t' (0, 0))] := ⟨k6, .inr ⟨r, cap, rest, rfl, rfl, g3, k9, k8⟩⟩
  have hnb : (n + m) * ie.bytes ≤ 140737488355328 := Nat.le_trans (Nat.mul_le_mul_right _ (by omega)) c5
  refine MV.post (MV.nodup (m_append hT (ty := ty) (p := q) (af := af) (g := g) (d := d) h1 h3 hWk hslc (hrd' _ (fun p hp => by
    rcases hC0 p hp with rfl | h
    · simp
    · simp [h])) (by rw [hul, hys]) (hyl.all_one hyo) (Nat.le_trans (by omega) (Nat.le_trans c6 (by decide))) hnb ht he hz hzl)) ?_
  rintro v C' ⟨⟨c', hsl, rfl⟩, hnd⟩
  obtain ⟨r', cap', rest', rfl, rfl, h5, h6, h7⟩ := slc_new hsl (by omega)
  have hM0 := (hM.kill0 (by rw [hb0]; trivial) g1 hC0).sym (n + m, 0)
  simp only [List.flatten_cons, List.cons_append, List.nil_append, List.map_cons, List.nodup_cons] at hnd
  have hx0 : Den.Ext ρ (ρ.put nx (n + m, 0)) := hM.ext_put _
  have hx' := hM0.ext_put (r', cap')
  have hxx := hx0.trans hx'
  have hself : (ρ.put nx (n + m, 0)).put nx.succ (r', cap') nx = some (n + m, 0) := by
    rw [Rho.put_ne _ _ (fun e => by have := congrArg Den.P.num e; rw [Den.P.num_succ] at this; omega), Rho.put_self]
  refine ⟨_, hxx, hM0.new (o := .rows t' ie.size nx sT hs (hc + m) W') (ro := Obj.cells (us ++ usR ++ rest').toArray t' (0, 0)) ⟨n + m, 0, us ++ usR, rest', τ, s2, hself, hxx _ _ k2, k3, by omega, by omega, rfl, by rw [List.length_append, k6, hul, hys, Nat.add_mul], by rw [List.all_append, k7, hyl.all_one hyo]; rfl, h7, h6, fun w hw => ?_⟩ (fun p hp e => hnd.1 (List.mem_map.2 ⟨p, by simpa using hp, e⟩)) (by simp) (fun p hp => by simp at hp; simp [hp]), fun p r2 c2 ro hp hsame hp2 hpin => ?_, .inl ⟨r', cap', n + m, 0, Rho.put_self _ _ _, hself, h5, rfl⟩⟩
  · obtain ⟨b', h9, h10⟩ := hW' ρ usR us hyl k10 w hw
    exact ⟨b', h9.ext hxx, h10⟩
  · rcases hC0 _ hpin with h11 | h11
    · exfalso
      simp only [Prod.mk.injEq] at h11
      obtain ⟨rfl, _⟩ := h11
      have := hM.inj p b _ _ _ hp (by rw [hb0]; trivial) hp2 g1
      subst this
      have hlt := hM.old p _ g1
      rw [show Mm.at (Tr.set .dead (Tr.set .dead M p .dead) nx.succ _) p = .dead by rw [at_set_ne _ _ (fun e => by rw [e, Den.P.num_succ] at hlt; omega), at_set]] at hsame
      rw [← hsame] at hp
      exact hp
    · simp [h11]
theorem app_ok (hT : TabOk P T) (ht : T.find t = some ⟨.slice el, s0, b0⟩) (he : T.find el = some ie) (hz : zeroC T zeroFuel el = some zs) (hzl : Nat.beq zs.length ie.size = true) (hby1 : Nat.ble 1 ie.bytes = true) (hsz1 : Nat.ble 1 ie.size = true) (hx : XR x' x) (hy : XR y' y)
    (h : (x'.getK ve fun v => y'.getK ve fun w => appendV M nx el ie.size ie.bytes v w k) = true) :
    ∃ v M' nx', k v M' nx' = true ∧ Fact W0 P ve M nx ⟨d, .call { callee := .builtin .append, args := [x, y].toArray, argTypes := [t, t].toArray }, ty, q, af, g⟩ v M' nx' := by
  rw [X.getK_eq, X.getK_eq] at h
  have hzl' := Nat.eq_of_beq_eq_true hzl
  have hby' := Nat.le_of_ble_eq_true hby1
  rcases VV.onBy_true h with h | ⟨b, ql, lo, hi, hw, h⟩
  rotate_left
  · exact appB_ok hT ht he hz hzl' hby' hx hy hw h
  rcases VV.onLs_true h with h | ⟨b, q0, hw, h⟩
  rotate_left
  · exact appC_ok hT ht he hz hzl' hby' hx hy hw h
  rcases VV.onLs_true h with h | ⟨b, q0, hv, h⟩
  rotate_left
  · exact appL_ok hT ht he hz hzl' hby' hx hy hv h
  rcases VV.onE0_true h with h | ⟨hv, h⟩
  · exact app0_ok hT ht he hz hzl hby1 hsz1 hx hy h
  have key : k .em0 M nx = true → (y'.get ve).ok = true → (∀ ρ u, Rl ρ (y'.get ve) u → ∃ a c, u = .slice a 0 c) → ∃ v M' nx', k v M' nx' = true ∧ Fact W0 P ve M nx ⟨d, .call { callee := .builtin .append, args := [x, y].toArray, argTypes := [t, t].toArray }, ty, q, af, g⟩ v M' nx' := fun h hok hu => by
    refine ⟨_, M, nx, h, .m rfl (Mono.refl _ _) fun ρ e C hee hM => ?_⟩
    obtain ⟨u, h1, a, rfl⟩ := hx.look hee hv rfl
    obtain ⟨w, h3, h4⟩ := hy.look hee rfl hok
    obtain ⟨a2, c2, rfl⟩ := hu ρ w h4
    refine MV.post (PureV.m (W0 := W0) (C := C) (C' := C) (pure_append0 hT ht he h1 h3 (Nat.le_refl _)) (Weak.refl C)) ?_
    rintro _ _ ⟨rfl, rfl⟩
    exact ⟨ρ, Ext.refl ρ, hM, Keep.refl _ _ _, .inl ⟨a, rfl⟩⟩
  rcases VV.onE0_true h with h | ⟨hw, h⟩
  · rcases VV.onS_true h with ⟨hw, h⟩ | ⟨_, _, _, _, _, _, h⟩
    · exact key h (by rw [hw]; rfl) fun ρ u hu => by rw [hw] at hu; exact ⟨none, 0, hu⟩
    · cases h
  · exact key h (by rw [hw]; rfl) fun ρ u hu => by rw [hw] at hu; obtain ⟨a, rfl⟩ := hu; exact ⟨_, _, rfl⟩
end
end
end Den
set_option linter.unusedVariables false
namespace Den
open Go Eng
section
variable {W0 : World} {P : Program} {T : Tab} {ve : Tr VV} {M : Mem} {nx : Den.P} {k : Kv}
theorem cpy0_ok (hT : TabOk P T) {d ty q af g t el s0 b0 ie x y x' y'} (ht : T.find t = some ⟨.slice el, s0, b0⟩) (he : T.find el = some ie) (hx : XR x' x) (hy : XR y' y)
    (h : copyV0 M ie.size (x'.get ve) (y'.get ve) (fun v M => k v M nx) = true) :
    ∃ v M' nx', k v M' nx' = true ∧ Fact W0 P ve M nx ⟨d, .call { callee := .builtin .copy, args := [x, y].toArray, argTypes := [t, t].toArray }, ty, q, af, g⟩ v M' nx' := by
  obtain ⟨m, ys, h, hys, hyok, hyr⟩ := rowE_true (W0 := W0) (nx := nx) h
  rcases VV.onS_true h with ⟨_, h⟩ | ⟨b, o, n, c, kn, hv, h⟩
  · cases h
  rcases rec_ble h with ⟨hmn, h⟩ | ⟨_, h⟩
  rotate_left
  · cases h
  obtain ⟨bt, s, l, ver, hb, hle, h⟩ := wrK_true h
  refine ⟨_, _, _, h, .m rfl (mono_wr hb) fun ρ e C hee hM => ?_⟩
  obtain ⟨u, h1, r, mm, cap, hρ, rfl, hncap, _, _⟩ := hx.look hee hv rfl
  obtain ⟨w, h3, h4⟩ := hy.look hee rfl hyok
  obtain ⟨hyo, a2, c2, ws, rfl, _, hyl, _, hrs⟩ := hyr ρ C w h4 hM
  obtain ⟨us, rest, hin, hl, hone, hcap⟩ := hM.at_cells hb hρ
  have hll := hl.length
  have hwl := hyl.length
  obtain ⟨C', hup, hin', hoth⟩ := mem_upd (Obj.cells ((us ++ rest).take o ++ ws ++ (us ++ rest).drop (o + ws.length)).toArray bt (0, 0)) hin
  have hput : (us ++ rest).take o ++ ws ++ (us ++ rest).drop (o + ws.length) = (us.take o ++ ws ++ us.drop (o + ws.length)) ++ rest := by
    rw [List.take_append_of_le_length (by omega), List.drop_append_of_le_length (by omega)]; simp
  refine MV.post (m_copy (W0 := W0) (P := P) (e := e) (C := C) hT (ty := ty) (p := q) (af := af) (g := g) (dd := d) ht he rfl h1 h3 (hrs C fun _ h => h) hmn (fun z hz => by simpa using List.all_eq_true.1 (hyl.all_one hyo) z hz) (by rw [List.length_append]; omega) hup) ?_
  rintro v' C'' ⟨rfl, rfl⟩
  rw [hput] at hin'
  refine ⟨ρ, Ext.refl ρ, wr_mr hM hb hρ hl hone hcap hyl hyo hle hin' hoth, keep_wr hM (by rw [hb]; trivial) hρ (fun e => ?_) hoth, .inl rfl⟩
  rw [hb] at e
  simp only [OB.cells.injEq] at e
  omega
theorem cpy_ok (hT : TabOk P T) {d ty q af g t el s0 b0 ie x y x' y'} (ht : T.find t = some ⟨.slice el, s0, b0⟩) (he : T.find el = some ie) (hx : XR x' x) (hy : XR y' y)
    (h : (x'.getK ve fun v => y'.getK ve fun w => copyV M ie.size v w fun v M => k v M nx) = true) :
    ∃ v M' nx', k v M' nx' = true ∧ Fact W0 P ve M nx ⟨d, .call { callee := .builtin .copy, args := [x, y].toArray, argTypes := [t, t].toArray }, ty, q, af, g⟩ v M' nx' := by
  rw [X.getK_eq, X.getK_eq] at h
  rcases VV.onBy_true h with h | ⟨bs, ql, lo, hi, hw, h⟩
  · exact cpy0_ok hT ht he hx hy h
  rcases VV.onLs_true h with h | ⟨bd, qd, hv, h⟩
  · cases h
  rw [getM_eq] at h
  obtain ⟨t1, sq, ql', hb1, h⟩ := OB.onBb_true h
  rw [getM_eq] at h
  obtain ⟨t2, sd, q', sT, hs, hc, W, hb2, h⟩ := OB.onRw_true h
  obtain ⟨hcc, hk⟩ := brec_true h
  rw [Tr.setK_eq] at hk
  have e1 := Den.P.eqb_eq.1 (bandR (bandL (bandL hcc)))
  have e2 := Den.P.eqb_eq.1 (bandL (bandR (bandL hcc)))
  have e3 := Den.P.eqb_eq.1 (bandR (bandR (bandL hcc)))
  have e4 := Nat.eq_of_beq_eq_true (bandL (bandR hcc))
  have e5 := Nat.eq_of_beq_eq_true (bandR (bandR hcc))
  subst e1 e2 e3 e5
  refine ⟨_, _, _, hk, .m rfl (Mono.set (fun _ _ => by rw [hb2]; exact Nat.lt_succ_self 0) (.inl (by rw [hb2]; trivial))) fun ρ e C hee hM => ?_⟩
  obtain ⟨u, h1, r, cap, n, s, g1, g2, g3, rfl⟩ := hx.look hee hv rfl
  obtain ⟨w, h3, r2, m2, n2, s2, cap2, k1, k2, k3, k4, k5, rfl⟩ := hy.look hee hw rfl
  rw [g2] at k2
  cases k2
  obtain ⟨_, _, ro1, a1, a2, a3⟩ := hM.live bs (by rw [hb1]; trivial)
  rw [k1] at a1
  cases a1
  rw [hb1] at a3
  obtain ⟨rt, s3, s4, rest1, fz, a4, a5, rfl⟩ := a3
  rw [g2] at a5
  cases a5
  obtain ⟨_, _, ro2, b1, b2, b3⟩ := hM.live bd (by rw [hb2]; trivial)
  rw [g1] at b1
  cases b1
  rw [hb2] at b3
  obtain ⟨n3, s5, us, rest, τ, s6, c1, c2, c3, c4, c5, rfl, c6, c7, c8, c9, c10⟩ := b3
  rw [g2] at c1
  cases c1
  have hbl : (byCells (txt rt)).length = (txt rt).size := byCells_len _
  obtain ⟨C', hup, hin', hoth⟩ := mem_upd (Obj.cells ((us ++ rest).take 0 ++ byCells (txt rt) ++ (us ++ rest).drop (0 + (byCells (txt rt)).length)).toArray t2 (0, 0)) b2
  refine MV.post (m_copy (W0 := W0) (P := P) (e := e) (C := C) hT (ty := ty) (p := q) (af := af) (g := g) (dd := d) ht he rfl h1 h3 ⟨⟨_, _, rfl, k5, fun _ => ⟨_, _, rfl, cells_rdL a2 fun j u hj => by simpa using hj⟩⟩, by rw [hbl, e4, Nat.mul_one]⟩ (Nat.le_refl _) (fun z hz => by simpa using List.all_eq_true.1 (byCells_one _) z hz) (by rw [List.length_append, hbl, c6]; omega) hup) ?_
  rintro v' C'' ⟨rfl, rfl⟩
  refine ⟨ρ, Ext.refl ρ, hM.write (by rw [hb2]; trivial) g1 ⟨rt, s3, _, rest, (0, 0), a4, g2, ?_⟩ hin' hoth, keep_wr hM (by rw [hb2]; trivial) g1 (fun e => by rw [hb2] at e; cases e) hoth, .inl ⟨_, _, g2, ?_, ?_, ?_⟩⟩
  · rw [List.take_zero, List.nil_append, Nat.zero_add, hbl, List.drop_append_of_le_length (by rw [c6]; omega), List.drop_eq_nil_of_le (by rw [c6]; omega), List.nil_append]
  · simp only [Int.ofNat_eq_natCast]; omega
  · simp only [Int.ofNat_eq_natCast]; omega
  · simp
theorem mkm_ok {d ty q af g t} (h : mkK M nx (.mp [] 0 0) (fun M nx' => k (.map nx) M nx') = true) :
    ∃ v M' nx', k v M' nx' = true ∧ Fact W0 P ve M nx ⟨d, .makeMap t none, ty, q, af, g⟩ v M' nx' := by
  refine ⟨_, _, _, mkK_true h, .m rfl Mono.new fun ρ e C he hM => MV.post (MV.nodup m_makeMap) ?_⟩
  rintro v C' ⟨⟨m, rfl, rfl⟩, hnd⟩
  simp only [mapC, List.flatten_cons, List.cons_append, List.nil_append, List.map_cons, List.nodup_cons] at hnd
  exact ⟨_, hM.ext_put (m, 0), hM.new ⟨[], rfl, rfl⟩ (fun p hp e => hnd.1 (List.mem_map.2 ⟨p, hp, e⟩)) (by simp [mapC]) (fun p hp => by simp [mapC, hp]), fun q r' c' ro hq hsame hq2 hin => by simp [mapC, hin], .inl ⟨m, 0, Rho.put_self _ _ _, rfl⟩⟩
theorem m_bytes (hT : TabOk P T) {d : Option Nat} {g : Option (Nat × Bool)} {ty : TypeId} {q af} {e : Env} {C : Heap} {src dst el : TypeId} {s0 b0 s1 b1 s2 b2 : Nat} {x : Operand} {s : ByteArray} (h0 : T.find src = some ⟨.str, s0, b0⟩) (h1 : T.find dst = some ⟨.slice el, s1, b1⟩) (h2 : T.find el = some ⟨.int .u8, s2, b2⟩)
    (hx : look e x = some (true, .string s)) (hs : s.size ≤ 140737488355328) :
    MV W0 P e C ⟨d, .convert src dst x, ty, q, af, g⟩ (fun v C' => ∃ r cap rest fz, v = .slice (some ⟨r, 0, none⟩) s.size cap ∧ s.size ≤ cap ∧ C' = [(r, .cells ((s.data.toList.map fun b => Value.int .u8 b.toNat) ++ rest).toArray el fz)] :: C) := fun X ac ha w next Q hw hn => by
  have g1 := ha x (by simp [Op.operands]) _ hx
  have hd := hw.ext (Ext.drew w)
  have hal := hd.alloc (.cells (bytesRow s (grownCap w s.size 0 el)) el ((bytesRow s (grownCap w s.size 0 el)).size, (bytesRow s (grownCap w s.size 0 el)).size + 1))
  simp only [World.size_drew] at hal
  have hge := grownCap_ge w s.size 0 el
  have hrun := run_bytes_of_string (P := P) w src dst el s (hT.str h0) (hT.slice h1) (hT.int h2)
  have hrow : bytesRow s (grownCap w s.size 0 el) = ((s.data.toList.map fun (b : UInt8) => Value.int .u8 b.toNat) ++ List.replicate (grownCap w s.size 0 el - s.size) (Value.int .u8 0)).toArray := by
    simp [bytesRow]
  refine exec_value (w' := w.drew.alloc (.cells (bytesRow s (grownCap w s.size 0 el)) el ((bytesRow s (grownCap w s.size 0 el)).size, (bytesRow s (grownCap w s.size 0 el)).size + 1))) (v := .slice (some ⟨w.heap.size, 0, none⟩) s.size (grownCap w s.size 0 el)) ?_ (hn _ ([(w.heap.size, .cells (bytesRow s (grownCap w s.size 0 el)) el ((bytesRow s (grownCap w s.size 0 el)).size, (bytesRow s (grownCap w s.size 0 el)).size + 1))] :: C) _ ⟨_, _, _, _, rfl, hge, by rw [hrow]⟩ ?_)
  · have : execOp ac.eval ⟨d, .convert src dst x, ty, q, af, g⟩ = (do pure (.value (← convert src dst (ac.eval x)))) := rfl
    rw [this, g1]
    simp only [Sem.run_bind, hrun, Result.andThen_ok, Sem.run_pure]
  · exact hal.weak (Weak.swap _ X C)
theorem bytesK_true {l : List Nat} : ∀ {K : List VV → Bool}, bytesK l K = true → K (l.map fun n => .int .u8 (.ofNat n)) = true := by
  induction l with
  | nil => exact fun h => h
  | cons n l ih => exact fun {K} h => ih (K := fun r => K (.int .u8 (.ofNat n) :: r)) h
theorem bytes_rls {ρ : Rho} : ∀ {l : List Nat}, (∀ x ∈ l, x < 256) → Rls ρ (l.map fun n => .int .u8 (.ofNat n)) ((bytesOf l).data.toList.map fun b => Value.int .u8 b.toNat)
  | [], _ => rfl
  | n :: l, h => ⟨_, _, rfl, by
      have : n < 256 := h n (List.mem_cons_self ..)
      show Value.int .u8 ((UInt8.ofNat n).toNat : Int) = .int .u8 (.ofNat n)
      rw [show (UInt8.ofNat n).toNat = n by simp [Nat.mod_eq_of_lt this]]
      rfl, bytes_rls fun x hx => h x (List.mem_cons_of_mem _ hx)⟩
theorem cvs_ok (hT : TabOk P T) {d ty q af g src dst el s0 b0 s1 b1 s2 b2 x x'} (h0 : T.find src = some ⟨.str, s0, b0⟩) (h1 : T.find dst = some ⟨.slice el, s1, b1⟩) (h2 : T.find el = some ⟨.int .u8, s2, b2⟩) (hx : XR x' x) {call : Call} (h : doK call ve M nx (.cvs el x') k = true) :
    ∃ v M' nx', k v M' nx' = true ∧ Fact W0 P ve M nx ⟨d, .convert src dst x, ty, q, af, g⟩ v M' nx' := by
  have h : (x'.getK ve fun v => cvsV el v M nx k) = true := h
  rw [X.getK_eq] at h
  rcases VV.onSt_true h with ⟨l, hl, h⟩ | ⟨l, hl, h⟩
  rotate_left
  · obtain ⟨q0, ql, lo, hi, rfl, h⟩ := atomK_true h
    obtain ⟨hb, h⟩ := brec_true h
    have h := mkK_true h
    have hb := Nat.le_of_ble_eq_true hb
    refine ⟨_, _, _, h, .m rfl Mono.new fun ρ e C he hM => ?_⟩
    obtain ⟨u, hu, a, rfl, ha⟩ := hx.look he hl rfl
    obtain ⟨rq, s, s', g1, g2, rfl, g3, g4⟩ := ha.one
    refine MV.post (MV.nodup (m_bytes hT h0 h1 h2 hu (by omega))) ?_
    rintro v C' ⟨⟨r, cap, rest, fz, rfl, hcap, rfl⟩, hnd⟩
    simp only [List.flatten_cons, List.cons_append, List.nil_append, List.map_cons, List.nodup_cons] at hnd
    have hx' := hM.ext_put (r, cap)
    exact ⟨_, hx', hM.new (o := .byt el q0 ql) ⟨rq, s, s', rest, fz, hx' _ _ g1, hx' _ _ g2, rfl⟩ (fun p hp e => hnd.1 (List.mem_map.2 ⟨p, hp, e⟩)) (List.mem_append_left _ (List.mem_singleton.2 rfl)) (fun p hp => List.mem_append_right _ hp), fun q r' c' ro hq hsame hq2 hin => by simp [hin],
      .inl ⟨r, cap, _, s', cap, Rho.put_self _ _ _, hx' _ _ g2, g3, g4, hcap, rfl⟩⟩
  rw [forceN_eq, lenN_eq] at h
  obtain ⟨hb, h⟩ := brec_true h
  have h := mkK_true (bytesK_true h)
  have hb := Nat.le_of_ble_eq_true hb
  have hsz : (bytesOf l).size = l.length := by simp [bytesOf, ByteArray.size]
  refine ⟨_, _, _, h, .m rfl Mono.new fun ρ e C he hM => ?_⟩
  obtain ⟨u, hu, rfl, hl'⟩ := hx.look he hl rfl
  refine MV.post (MV.nodup (m_bytes hT h0 h1 h2 hu (by rw [hsz]; exact hb))) ?_
  rintro v C' ⟨⟨r, cap, rest, fz, rfl, hcap, rfl⟩, hnd⟩
  simp only [List.flatten_cons, List.cons_append, List.nil_append, List.map_cons, List.nodup_cons] at hnd
  exact ⟨_, hM.ext_put (r, cap), hM.new ⟨_, rest, fz, rfl, bytes_rls hl', by simp [VV.one]⟩ (fun p hp e => hnd.1 (List.mem_map.2 ⟨p, hp, e⟩)) (by simp) (fun p hp => by simp [hp]), fun q r' c' ro hq hsame hq2 hin => by simp [hin],
    .inl ⟨r, cap, cap, Rho.put_self _ _ _, by rw [hsz], by rw [← hsz]; exact hcap, fun h => (by cases h), fun _ => rfl⟩⟩
theorem m_string (hT : TabOk P T) {d : Option Nat} {g : Option (Nat × Bool)} {ty : TypeId} {q af} {e : Env} {C : Heap} {src dst el : TypeId} {s0 b0 s1 b1 s2 b2 : Nat} {x : Operand} {s : ByteArray} {b cap : Nat} (h0 : T.find src = some ⟨.slice el, s0, b0⟩) (h1 : T.find dst = some ⟨.str, s1, b1⟩) (h2 : T.find el = some ⟨.int .u8, s2, b2⟩)
    (hx : look e x = some (true, .slice (some ⟨b, 0, none⟩) s.size cap)) (hr : RdL W0 C b 0 (byCells s)) : MV W0 P e C ⟨d, .convert src dst x, ty, q, af, g⟩ (fun v C' => v = .string s ∧ C' = C) := fun X ac ha w next Q hw hn => by
  have g1 := ha x (by simp [Op.operands]) _ hx
  have hw' := hw.weak (Weak.skip X C)
  have hrun := run_convert_bytes_arg (P := P) w src el (hT.slice h0) (hT.int h2) b 0 s.size cap (s.data.toList.map fun x => (x.toNat : Int)) (by rw [List.length_map, Array.length_toList]; rfl) (fun i hi => by
    have hi' : i < s.data.toList.length := by rw [Array.length_toList]; exact hi
    have := hr i (.int .u8 (s.data.toList[i].toNat : Int)) (by unfold byCells; rw [List.getElem?_map, List.getElem?_eq_getElem hi']; rfl) w hw'
    rw [this, List.getD_eq_getElem?_getD, List.getElem?_map, List.getElem?_eq_getElem hi']
    rfl) dst (hT.str h1)
  have es : strOfNums (s.data.toList.map fun x => (x.toNat : Int)) = s := by
    apply ByteArray.ext
    apply Array.toList_inj.1
    rw [strOfNums_data, List.map_map]
    conv => rhs; rw [← List.map_id s.data.toList]
    exact List.map_congr_left fun x _ => by simp
  rw [es] at hrun
  refine exec_value (w' := w) (v := .string s) ?_ (hn _ _ _ ⟨rfl, rfl⟩ hw)
  have : execOp ac.eval ⟨d, .convert src dst x, ty, q, af, g⟩ = (do pure (.value (← convert src dst (ac.eval x)))) := rfl
  rw [this, g1]
  simp only [Sem.run_bind, hrun, Result.andThen_ok, Sem.run_pure]
theorem m_string0 (hT : TabOk P T) {d : Option Nat} {g : Option (Nat × Bool)} {ty : TypeId} {q af} {e : Env} {C : Heap} {src dst el : TypeId} {s0 b0 s1 b1 s2 b2 : Nat} {x : Operand} (h0 : T.find src = some ⟨.slice el, s0, b0⟩) (h1 : T.find dst = some ⟨.str, s1, b1⟩) (h2 : T.find el = some ⟨.int .u8, s2, b2⟩)
    (hx : look e x = some (true, .slice none 0 0)) : MV W0 P e C ⟨d, .convert src dst x, ty, q, af, g⟩ (fun v C' => v = .string ByteArray.empty ∧ C' = C) := fun X ac ha w next Q hw hn => by
  have g1 := ha x (by simp [Op.operands]) _ hx
  refine exec_value (w' := w) (v := .string ByteArray.empty) ?_ (hn _ _ _ ⟨rfl, rfl⟩ hw)
  have : execOp ac.eval ⟨d, .convert src dst x, ty, q, af, g⟩ = (do pure (.value (← convert src dst (ac.eval x)))) := rfl
  rw [this, g1]
  simp only [Sem.run_bind, run_convert_bytes_nil (P := P) w src el (hT.slice h0) (hT.int h2) 0 0 dst (hT.str h1), Result.andThen_ok, Sem.run_pure]
theorem cvb_ok (hT : TabOk P T) {d ty q af g src dst el s0 b0 s1 b1 s2 b2 x x'} (h0 : T.find src = some ⟨.slice el, s0, b0⟩) (h1 : T.find dst = some ⟨.str, s1, b1⟩) (h2 : T.find el = some ⟨.int .u8, s2, b2⟩) (hx : XR x' x) {call : Call} (h : doK call ve M nx (.cvb x') k = true) :
    ∃ v M' nx', k v M' nx' = true ∧ Fact W0 P ve M nx ⟨d, .convert src dst x, ty, q, af, g⟩ v M' nx' := by
  have h : (x'.getK ve fun v => cvbV v M fun v => k v M nx) = true := h
  rw [X.getK_eq] at h
  rcases VV.onBy_true h with h | ⟨b, ql, lo, hi, hv, h⟩
  · rcases VV.onS_true h with ⟨hv, h⟩ | ⟨_, _, _, _, _, _, h⟩
    rotate_left
    · cases h
    refine ⟨_, M, nx, h, .m rfl (Mono.refl _ _) fun ρ e C he hM => ?_⟩
    obtain ⟨u, hu, rfl⟩ := hx.look he hv rfl
    refine MV.post (m_string0 hT h0 h1 h2 hu) ?_
    rintro _ _ ⟨rfl, rfl⟩
    exact ⟨ρ, Ext.refl ρ, hM, Keep.refl _ _ _, .inl ⟨rfl, fun x hx => by cases hx⟩⟩
  · rw [getM_eq] at h
    obtain ⟨t', q0, ql', hb0, h⟩ := OB.onBb_true h
    obtain ⟨hq, h⟩ := eqb_rec h
    subst hq
    refine ⟨_, M, nx, h, .m rfl (Mono.refl _ _) fun ρ e C he hM => ?_⟩
    obtain ⟨u, hu, r, m, n, s', cap, g1, g2, g3, g4, g5, rfl⟩ := hx.look he hv rfl
    obtain ⟨r2, c2, ro, g6, g7, g8⟩ := hM.live b (by rw [hb0]; trivial)
    rw [g1] at g6
    cases g6
    rw [hb0] at g8
    obtain ⟨rq, s1, s2, rest, fz, g9, g10, rfl⟩ := g8
    rw [g2] at g10
    cases g10
    refine MV.post (m_string hT h0 h1 h2 hu (cells_rdL g7 fun j u hj => by simpa using hj)) ?_
    rintro _ _ ⟨rfl, rfl⟩
    exact ⟨ρ, Ext.refl ρ, hM, Keep.refl _ _ _, .inl ⟨_, rfl, rq, s1, s', ByteArray.empty, g9, g2, g3, g4, by rw [ByteArray.append_empty], rfl⟩⟩
def aggFlag (P : Program) (t : Nat) : Bool := match (P.info? t).bind (·.zero) with
  | some (.agg _) => true
  | _ => false
def zerosOk (P : Program) (T : Tab) : Bool := T.all fun t i => match i.d with
  | .arr n _ => !Nat.beq n 2 || !P.eqGuardType P.depth t
  | .map _ el => match T.find el with
    | some ie => aggFlag P el == ie.d.agg
    | none => true
  | _ => true
theorem zero_run (hT : TabOk P T) {el : Nat} {zs : List Value} (hz : zeroC T zeroFuel el = some zs) : ∃ z, (∀ w, (zeroValue el).run P w = .ok z w) ∧ z.cells = zs.toArray ∧ (aggFlag P el = true → z = .agg zs.toArray) ∧ (aggFlag P el = false → ∀ u, zs = [u] → z = u) := by
  obtain ⟨z, hz1, hz2⟩ := hT.zero hz default
  have hp : (P.info? el).bind (·.zero) = some z := by
    unfold zeroValue typeInfo at hz1
    cases hp : P.info? el with
    | none => simp [hp, program, Sem.run, stuck] at hz1
    | some i =>
      simp only [Sem.run_bind, program, Sem.run, Result.andThen_ok, hp, Sem.run_pure] at hz1
      cases hpz : i.zero with
      | none => simp [hpz, unsupported] at hz1
      | some z' =>
        simp only [hpz, Sem.run_pure, Result.ok.injEq, and_true] at hz1
        simp [hpz, hz1]
  refine ⟨z, fun w => ?_, hz2, fun h => ?_, fun h u hu => ?_⟩
  · cases hi : P.info? el with
    | none => rw [hi] at hp; cases hp
    | some i =>
      rw [hi] at hp
      simp only [Option.bind_some] at hp
      simp [zeroValue, typeInfo, hi, hp]
  · unfold aggFlag at h
    rw [hp] at h
    cases z with
    | agg cs =>
      have : cs = zs.toArray := hz2
      rw [this]
    | _ => cases h
  · unfold aggFlag at h
    rw [hp] at h
    subst hu
    cases z with
    | agg cs => cases h
    | _ => simpa [Value.cells] using hz2
theorem m_lookupG (hT : TabOk P T) {e : Env} {C : Heap} {ty : TypeId} {p : String} {af : Array Edge} {dd : Option Nat} {g : Option (Nat × Bool)} {t key elem : TypeId} {s0 b0 : Nat} {s1 b1 : Nat} {x y : Operand} {m clock : Nat} {E : List Ent} {n : Int} {ok : Bool} {z : Value} (ht : T.find t = some ⟨.map key elem, s0, b0⟩) (hki : T.find key = some ⟨.int .i64, s1, b1⟩) (hz : ∀ w, (zeroValue elem).run P w = .ok z w)
    (hx : look e x = some (true, .map (some m))) (hy : look e y = some (true, .int .i64 n)) (hr : At W0 C m (mapO E clock)) {v : Value} (hv : v = bif ok then (match mval n E with | some u => .tuple #[u, .bool true] | none => .tuple #[z, .bool false]) else (mval n E).getD z) :
    MV W0 P e C ⟨dd, .lookup t x y ok, ty, p, af, g⟩ (fun v' C' => v' = v ∧ C' = C) := fun X ac ha w next Q hw hn => by
  have h1 := ha x (by simp [Op.operands]) _ hx
  have h2 := ha y (by simp [Op.operands]) _ hy
  refine exec_value (w' := w) (v := v) ?_ (hn v C w ⟨rfl, rfl⟩ hw)
  have : execOp ac.eval ⟨dd, .lookup t x y ok, ty, p, af, g⟩ = (do pure (.value (← Instr.lookup t (ac.eval x) (ac.eval y) ok))) := rfl
  rw [this, h1, h2]
  have hb := hr w (hw.weak (Weak.skip X C))
  have hd := hT.int hki
  have hck := fun em => MapKept.run_checkKey (w := w) (k := .int .i64 n) hd (by simp [MapKept.IsKey]) em 9999
  have hf := MapKept.run_findKey (w := w) hd (findNow_ent n E 0)
  have hz2 := hz w
  subst hv
  unfold mval
  cases hm : mfind n E 0 with
  | none =>
    rw [hm] at hf
    cases ok <;> simp [Instr.lookup, run_underlying (hT.map ht), MapKept.run_getObj_map hb, hck, hf, hz2]
  | some q =>
    obtain ⟨i, u⟩ := q
    rw [hm] at hf
    cases ok <;> simp [Instr.lookup, run_underlying (hT.map ht), MapKept.run_getObj_map hb, hck, hf]
theorem MR.at_map {ρ : Rho} {C : Heap} (h : MR W0 ρ M nx C) {b : Den.P} {v r c clock : Nat} {E : List (Int × VV × Nat)} (hb : Mm.at M b = .mp E clock v) (hρ : ρ b = some (r, c)) : ∃ E', (r, mapO E' clock) ∈ C.flatten ∧ EnR ρ E E' := by
  obtain ⟨r', c', ro, h1, h2, h3⟩ := h.live b (by rw [hb]; trivial)
  rw [hρ] at h1
  cases h1
  rw [hb] at h3
  obtain ⟨E', rfl, h4⟩ := h3
  exact ⟨E', h2, h4⟩
theorem findK_true {q : Int} {no : Bool} {K : VV → Bool} : ∀ {E : List (Int × VV × Nat)}, findK q E no K = true →
    (no = true ∧ ∀ ρ E', EnR ρ E E' → mval q E' = none) ∨ ∃ v, K v = true ∧ ∀ ρ E', EnR ρ E E' → ∃ u, mval q E' = some u ∧ Rl ρ v u := by
  have key : ∀ {E : List (Int × VV × Nat)}, findK q E no K = true → (no = true ∧ ∀ ρ E', EnR ρ E E' → ∀ i, mfind q E' i = none) ∨ ∃ v, K v = true ∧ ∀ ρ E', EnR ρ E E' → ∀ i, ∃ j u, mfind q E' i = some (j, u) ∧ Rl ρ v u := by
    intro E
    induction E with
    | nil => intro h; exact .inl ⟨h, fun ρ E' hE i => by simp only [EnR] at hE; subst hE; rfl⟩
    | cons p E ih =>
      obtain ⟨key, v, born⟩ := p
      intro h
      have h : (Bool.rec (findK q E no K) (K v) (eqZ key q) : Bool) = true := h
      rw [eqZ_eq] at h
      by_cases hk : key = q
      · rw [decide_eq_true hk] at h
        refine .inr ⟨v, h, fun ρ E' hE i => ?_⟩
        obtain ⟨u, r, rfl, hv, _⟩ := hE
        exact ⟨i, u, by simp [mfind, hk], hv⟩
      · rw [decide_eq_false hk] at h
        rcases ih h with ⟨h1, h2⟩ | ⟨v', h1, h2⟩
        · refine .inl ⟨h1, fun ρ E' hE i => ?_⟩
          obtain ⟨u, r, rfl, _, hr⟩ := hE
          simp only [mfind, if_neg (fun e : q = key => hk e.symm)]
          exact h2 ρ r hr _
        · refine .inr ⟨v', h1, fun ρ E' hE i => ?_⟩
          obtain ⟨u, r, rfl, _, hr⟩ := hE
          simp only [mfind, if_neg (fun e : q = key => hk e.symm)]
          exact h2 ρ r hr _
  intro E h
  rcases key h with ⟨h1, h2⟩ | ⟨v, h1, h2⟩
  · exact .inl ⟨h1, fun ρ E' hE => by simp [mval, h2 ρ E' hE 0]⟩
  · refine .inr ⟨v, h1, fun ρ E' hE => ?_⟩
    obtain ⟨j, u, h3, h4⟩ := h2 ρ E' hE 0
    exact ⟨u, by simp [mval, h3], h4⟩
theorem lku_ok (hT : TabOk P T) {d ty q af g t key el s0 b0 s1 b1 x y x' y' ok z zv} (ht : T.find t = some ⟨.map key el, s0, b0⟩) (hki : T.find key = some ⟨.int .i64, s1, b1⟩) (hz : ∀ w, (zeroValue el).run P w = .ok zv w) (hzv : ∀ ρ, Rl ρ z zv) (hx : XR x' x) (hy : XR y' y)
    (h : (x'.getK ve fun m => y'.getK ve fun q => q.onI fun q => m.onM false fun b => Tr.getK .dead M b fun ob => ob.onM fun E _ _ =>
      Bool.rec (findK q E (k z M nx) fun v => k v M nx) (findK q E (k (.tup [z, .bool false]) M nx) fun v => k (.tup [v, .bool true]) M nx) ok) = true) :
    ∃ v M' nx', k v M' nx' = true ∧ Fact W0 P ve M nx ⟨d, .lookup t x y ok, ty, q, af, g⟩ v M' nx' := by
  rw [X.getK_eq, X.getK_eq] at h
  obtain ⟨n, hn, h⟩ := VV.onI_true h
  rcases VV.onM_true h with ⟨_, h⟩ | ⟨b, hb, h⟩
  · cases h
  rw [getM_eq] at h
  obtain ⟨E, clock, ver, hob, h⟩ := OB.onM_true h
  have go : ∀ v : VV, k v M nx = true → (∀ ρ E', EnR ρ E E' → Rl ρ v (bif ok then (match mval n E' with | some u => .tuple #[u, .bool true] | none => .tuple #[zv, .bool false]) else (mval n E').getD zv)) →
      ∃ v M' nx', k v M' nx' = true ∧ Fact W0 P ve M nx ⟨d, .lookup t x y ok, ty, q, af, g⟩ v M' nx' := by
    intro v h hv
    refine ⟨v, M, nx, h, .m rfl (Mono.refl _ _) fun ρ e C he hM => ?_⟩
    obtain ⟨u, h1, r, c, hρ, rfl⟩ := hx.look he hb rfl
    obtain ⟨w, h2, rfl⟩ := hy.look he hn rfl
    obtain ⟨E', hin, hE⟩ := hM.at_map hob hρ
    refine MV.post (m_lookupG hT (ty := ty) (p := q) (af := af) (g := g) (dd := d) ht hki hz h1 h2 (mem_at hin) rfl) ?_
    rintro _ _ ⟨rfl, rfl⟩
    exact ⟨ρ, Ext.refl ρ, hM, Keep.refl _ _ _, .inl (hv ρ E' hE)⟩
  cases ok with
  | false =>
    have h : findK n E (k z M nx) (fun v => k v M nx) = true := h
    rcases findK_true h with ⟨h1, h2⟩ | ⟨v, h1, h2⟩
    · exact go z h1 fun ρ E' hE => by rw [h2 ρ E' hE]; exact hzv ρ
    · exact go v h1 fun ρ E' hE => by obtain ⟨u, h3, h4⟩ := h2 ρ E' hE; rw [h3]; exact h4
  | true =>
    have h : findK n E (k (.tup [z, .bool false]) M nx) (fun v => k (.tup [v, .bool true]) M nx) = true := h
    rcases findK_true h with ⟨h1, h2⟩ | ⟨v, h1, h2⟩
    · exact go _ h1 fun ρ E' hE => by rw [h2 ρ E' hE]; exact ⟨[zv, .bool false], rfl, zv, _, rfl, hzv ρ, _, _, rfl, rfl, rfl⟩
    · exact go _ h1 fun ρ E' hE => by obtain ⟨u, h3, h4⟩ := h2 ρ E' hE; rw [h3]; exact ⟨[u, .bool true], rfl, u, _, rfl, h4, _, _, rfl, rfl, rfl⟩
def mset (k : Int) (v : Value) : List Ent → List Ent
  | [] => []
  | p :: r => if k = p.1 then (p.1, v, p.2.2) :: r else p :: mset k v r
theorem mfind_mset (k : Int) (v : Value) (f : MapEntry → MapEntry) (hf : ∀ e, e.key = .int .i64 k → f e = { e with val := v }) : ∀ (E : List Ent) (i j : Nat) (u : Value), mfind k E i = some (j, u) → i ≤ j ∧ (∃ b, E[j - i]? = some (k, u, b)) ∧ (E.map entE).modify (j - i) f = (mset k v E).map entE
  | [], i, j, u, h => by cases h
  | p :: r, i, j, u, h => by
    simp only [mfind] at h
    by_cases hk : k = p.1
    · rw [if_pos hk] at h
      simp only [Option.some.injEq, Prod.mk.injEq] at h
      obtain ⟨rfl, rfl⟩ := h
      refine ⟨Nat.le_refl _, ⟨p.2.2, by simp [hk]⟩, ?_⟩
      rw [Nat.sub_self, List.map_cons, List.modify_zero_cons, hf (entE p) (by simp [entE, hk]), mset, if_pos hk]
      simp [entE]
    · rw [if_neg hk] at h
      obtain ⟨h1, ⟨b, h2⟩, h3⟩ := mfind_mset k v f hf r (i + 1) j u h
      have e1 : j - i = (j - (i + 1)) + 1 := by omega
      refine ⟨by omega, ⟨b, by rw [e1]; simpa using h2⟩, ?_⟩
      rw [e1, List.map_cons, List.modify_succ_cons, h3, mset, if_neg hk, List.map_cons]
theorem m_mapSet (hT : TabOk P T) {e : Env} {C : Heap} {ty : TypeId} {p : String} {af : Array Edge} {g : Option (Nat × Bool)} {t key elem : TypeId} {s0 b0 : Nat} {s1 b1 : Nat} {x y z : Operand} {m clock : Nat} {E : List Ent} {n : Int} {v : Value} {C0 : Heap} (ht : T.find t = some ⟨.map key elem, s0, b0⟩) (hki : T.find key = some ⟨.int .i64, s1, b1⟩)
    (hx : look e x = some (true, .map (some m))) (hy : look e y = some (true, .int .i64 n)) (hzz : look e z = some (true, v)) (hC : Weak C (mapC m E clock :: C0)) {i : Nat} {u : Value} (hm0 : mfind n E 0 = some (i, u)) :
    MV W0 P e C ⟨none, .mapUpdate t x y z, ty, p, af, g⟩ (fun v' C' => v' = undef ∧ C' = mapC m (mset n v E) clock :: C0) := fun X ac ha w next Q hw hnx => by
  have h1 := ha x (by simp [Op.operands]) _ hx
  have h2 := ha y (by simp [Op.operands]) _ hy
  have h3 := ha z (by simp [Op.operands]) _ hzz
  have hw2 := hw.weak ((hC.cons X).trans (Weak.swap X _ C0))
  have hb := (hw2.own (m, mapO E clock) (by simp)).2
  simp only at hb
  have hd := hT.int hki
  have hck := fun em => MapKept.run_checkKey (w := w) (k := .int .i64 n) hd (by simp [MapKept.IsKey]) em 9999
  have hf := MapKept.run_findKey (w := w) hd (findNow_ent n E 0)
  rw [hm0] at hf
  obtain ⟨_, ⟨b, hat⟩, hmod⟩ := mfind_mset n v (fun e => { e with key := .int .i64 n, val := v }) (fun e he => by rw [← he]) E 0 i u hm0
  rw [Nat.sub_zero] at hat hmod
  have hkey : ((((E.map entE).toArray[i]?).map (·.key)).getD (.int .i64 n)) = .int .i64 n := by
    simp [hat, entE]
  have hst : (Instr.keyThatStays (.int .i64 n) (.int .i64 n)).run P w = .ok (.int .i64 n) w := MapKept.run_keyThatStays (d := .int .i64) (by simp [MapKept.IsKey])
  have hset : ((E.map entE).toArray.modify i fun e => { e with key := .int .i64 n, val := v }) = ((mset n v E).map entE).toArray := by
    apply Array.toList_inj.1
    rw [Array.toList_modify]
    exact hmod
  have hsat := hw2.setObj (b := m) (o := mapO E clock) (o' := mapO (mset n v E) clock) Upd.here
  refine exec_skip (w' := { w with heap := w.heap.setIfInBounds m (mapO (mset n v E) clock) }) ?_ (hnx _ _ _ ⟨rfl, rfl⟩ (hsat.weak (Weak.swap _ X C0)))
  have : execOp ac.eval ⟨none, .mapUpdate t x y z, ty, p, af, g⟩ = (do Instr.mapUpdate t (ac.eval x) (ac.eval y) (ac.eval z); pure .skip) := rfl
  rw [this, h1, h2, h3]
  simp only [Sem.run_bind, Instr.mapUpdate, run_underlying (hT.map ht), MapKept.run_getObj_map hb, hck, hf, hkey, hst, hset, Result.andThen]
  rw [MapKept.run_setObj_map _ hb]
  rfl
theorem map_mr {ρ : Rho} {C C0 : Heap} (hM : MR W0 ρ M nx C) {b : Den.P} {r c clock clock' ver : Nat} {E E2 : List (Int × VV × Nat)} {E2' : List Ent} (hb : Mm.at M b = .mp E clock ver) (hρ : ρ b = some (r, c)) (hE : EnR ρ E2 E2') (hC0 : ∀ q ∈ C.flatten, q.1 ≠ r → q ∈ C0.flatten) :
    MR W0 ρ (Tr.set .dead M b (.mp E2 clock' (ver + 1))) nx (mapC r E2' clock' :: C0) ∧ Keep ρ M (Tr.set .dead M b (.mp E2 clock' (ver + 1))) C (mapC r E2' clock' :: C0) := by
  have hoth : ∀ p ∈ C.flatten, p.1 ≠ r → p ∈ (mapC r E2' clock' :: C0).flatten := fun p hp hne => by
    simp only [mapC, List.flatten_cons, List.cons_append, List.nil_append, List.mem_cons]
    exact .inr (hC0 p hp hne)
  refine ⟨hM.write (by rw [hb]; trivial) hρ ⟨E2', rfl, hE⟩ (by simp [mapC]) hoth, keep_wr hM (by rw [hb]; trivial) hρ (fun e => ?_) hoth⟩
  rw [hb] at e
  simp only [OB.mp.injEq] at e
  omega
theorem mono_map {b : Den.P} {clock clock' ver : Nat} {E E2 : List (Int × VV × Nat)} (hb : Mm.at M b = .mp E clock ver) : Mono M nx (Tr.set .dead M b (.mp E2 clock' (ver + 1))) nx :=
  Mono.set (fun _ _ => by rw [hb]; exact Nat.lt_succ_self ver) (.inl (by rw [hb]; trivial))
theorem mfind_shift {q : Int} : ∀ {E : List Ent} {i j : Nat}, mfind q E i = none → mfind q E j = none
  | [], i, j, _ => rfl
  | p :: r, i, j, h => by
    simp only [mfind] at h ⊢
    by_cases hk : q = p.1
    · rw [if_pos hk] at h; cases h
    · rw [if_neg hk] at h ⊢; exact mfind_shift h
theorem updK_true {q : Int} {v : VV} {clock : Nat} : ∀ {E : List (Int × VV × Nat)} {K : List (Int × VV × Nat) → Nat → Bool}, updK q v clock E K = true → ∃ E2 c2, K E2 c2 = true ∧ ∀ ρ E' u, EnR ρ E E' → Rl ρ v u →
    ∃ E2', EnR ρ E2 E2' ∧ ((mval q E' = none ∧ E2' = E' ++ [(q, u, clock)] ∧ c2 = clock + 1) ∨ ((∃ j w, ∀ i, mfind q E' i = some (i + j, w)) ∧ E2' = mset q u E' ∧ c2 = clock)) := by
  intro E
  induction E with
  | nil =>
    intro K h
    have h : (forceN (Nat.succ clock) fun c => K [(q, v, clock)] c) = true := h
    rw [forceN_eq] at h
    refine ⟨_, _, h, fun ρ E' u hE hv => ?_⟩
    simp only [EnR] at hE
    subst hE
    exact ⟨[(q, u, clock)], ⟨u, [], rfl, hv, rfl⟩, .inl ⟨rfl, rfl, rfl⟩⟩
  | cons p E ih =>
    obtain ⟨key, w, born⟩ := p
    intro K h
    have h : (Bool.rec (updK q v clock E fun r c => K ((key, w, born) :: r) c) (K ((key, v, born) :: E) clock) (eqZ key q) : Bool) = true := h
    rw [eqZ_eq] at h
    by_cases hk : key = q
    · rw [decide_eq_true hk] at h
      refine ⟨_, _, h, fun ρ E' u hE hv => ?_⟩
      obtain ⟨w', r, rfl, hw, hr⟩ := hE
      refine ⟨(key, u, born) :: r, ⟨u, r, rfl, hv, hr⟩, .inr ⟨⟨0, w', fun i => by simp [mfind, hk]⟩, by simp [mset, hk], rfl⟩⟩
    · rw [decide_eq_false hk] at h
      obtain ⟨E2, c2, h1, h2⟩ := ih h
      refine ⟨_, c2, h1, fun ρ E' u hE hv => ?_⟩
      obtain ⟨w', r, rfl, hw, hr⟩ := hE
      obtain ⟨E2', h3, h4⟩ := h2 ρ r u hr hv
      have hne : ¬ q = key := fun e => hk e.symm
      refine ⟨(key, w', born) :: E2', ⟨w', E2', rfl, hw, h3⟩, ?_⟩
      rcases h4 with ⟨h5, rfl, rfl⟩ | ⟨⟨j, w2, h5⟩, rfl, rfl⟩
      · refine .inl ⟨?_, rfl, rfl⟩
        simp only [mval, Option.map_eq_none_iff] at h5 ⊢
        simp only [mfind, if_neg hne]
        exact mfind_shift h5
      · refine .inr ⟨⟨j + 1, w2, fun i => ?_⟩, by simp [mset, hne], rfl⟩
        simp only [mfind, if_neg hne]
        rw [h5 (i + 1)]
        congr 2
        omega
theorem mupK_true {b : Den.P} {q : Int} {v : VV} {K : Mem → Bool} (h : mupK M b q v K = true) : ∃ E clock ver, Mm.at M b = .mp E clock ver ∧ ∃ E2 c2, K (Tr.set .dead M b (.mp E2 c2 (ver + 1))) = true ∧ ∀ ρ E' u, EnR ρ E E' → Rl ρ v u →
    ∃ E2', EnR ρ E2 E2' ∧ ((mval q E' = none ∧ E2' = E' ++ [(q, u, clock)] ∧ c2 = clock + 1) ∨ ((∃ j w, ∀ i, mfind q E' i = some (i + j, w)) ∧ E2' = mset q u E' ∧ c2 = clock)) := by
  unfold mupK at h
  rw [getM_eq] at h
  obtain ⟨E, clock, ver, hob, h⟩ := OB.onM_true h
  obtain ⟨E2, c2, h, h2⟩ := updK_true h
  rw [forceN_eq, Tr.setK_eq] at h
  exact ⟨E, clock, ver, hob, E2, c2, h, h2⟩
theorem map_split {C : Heap} {r : Nat} {o : Obj} (h : (r, o) ∈ C.flatten) : ∃ C0, Weak C ([(r, o)] :: [C0]) ∧ ∀ q ∈ C.flatten, q.1 ≠ r → q ∈ ([C0] : Heap).flatten := by
  obtain ⟨C0, h1, h2⟩ := split_mem h
  refine ⟨C0, h1, fun q hq hne => ?_⟩
  rcases h2 q hq with rfl | h3
  · exact absurd rfl hne
  · simpa using h3
theorem MV.ins {ty q af g t x y z} {op : Op} (hop : op = .mapUpdate t x y z ∨ op = .insert t x y z) {e : Env} {C : Heap} {R : Value → Heap → Prop} (h : MV W0 P e C ⟨none, .mapUpdate t x y z, ty, q, af, g⟩ R) : MV W0 P e C ⟨none, op, ty, q, af, g⟩ R := by
  rcases hop with rfl | rfl
  · exact h
  · exact h
theorem mup_ok (hT : TabOk P T) {ty q af g t key el s0 b0 s1 b1 x y z x' y' z'} {op : Op} (hop : op = .mapUpdate t x y z ∨ op = .insert t x y z) (ht : T.find t = some ⟨.map key el, s0, b0⟩) (hki : T.find key = some ⟨.int .i64, s1, b1⟩) (hx : XR x' x) (hy : XR y' y) (hz : XR z' z)
    (h : (x'.getK ve fun m => m.onM false fun b => y'.getK ve fun q => q.onI fun q => z'.getK ve fun v => v.onC (mupK M b q v fun M => k .no M nx) fun _ => mupK M b q v fun M => k .no M nx) = true) :
    ∃ v M' nx', k v M' nx' = true ∧ Fact W0 P ve M nx ⟨none, op, ty, q, af, g⟩ v M' nx' := by
  rw [X.getK_eq] at h
  rcases VV.onM_true h with ⟨_, h⟩ | ⟨b, hb, h⟩
  · cases h
  rw [X.getK_eq] at h
  obtain ⟨n, hn, h⟩ := VV.onI_true h
  rw [X.getK_eq] at h
  have hvk : (z'.get ve).ok = true ∧ mupK M b n (z'.get ve) (fun M => k .no M nx) = true := by
    rcases VV.onC_true h with ⟨h1, h⟩ | ⟨l, hl, h⟩
    · exact ⟨VV.one_ok h1, h⟩
    · exact ⟨by rw [hl]; rfl, h⟩
  obtain ⟨hok, h⟩ := hvk
  obtain ⟨E, clock, ver, hob, E2, c2, h, hE2⟩ := mupK_true h
  refine ⟨_, _, _, h, .m (by rcases hop with rfl | rfl <;> rfl) (mono_map hob) fun ρ e C he hM => ?_⟩
  obtain ⟨u, h1, r, c, hρ, rfl⟩ := hx.look he hb rfl
  obtain ⟨w, h2, rfl⟩ := hy.look he hn rfl
  obtain ⟨vz, h3, hvz⟩ := hz.look he rfl hok
  obtain ⟨E', hin, hE⟩ := hM.at_map hob hρ
  obtain ⟨E2', hEn, hcase⟩ := hE2 ρ E' vz hE hvz
  obtain ⟨C0, hW, hC0⟩ := map_split hin
  rcases hcase with ⟨hnone, rfl, rfl⟩ | ⟨⟨j, w, hfind⟩, rfl, rfl⟩
  · refine MV.post (MV.ins hop (m_mapPush hT (ty := ty) (p := q) (af := af) (g := g) ht hki h1 h2 h3 hW hnone)) ?_
    rintro _ _ ⟨rfl, rfl⟩
    obtain ⟨h5, h6⟩ := map_mr (clock' := clock + 1) hM hob hρ hEn hC0
    exact ⟨ρ, Ext.refl ρ, h5, h6, .inr rfl⟩
  · refine MV.post (MV.ins hop (m_mapSet hT (ty := ty) (p := q) (af := af) (g := g) ht hki h1 h2 h3 hW (hfind 0))) ?_
    rintro _ _ ⟨rfl, rfl⟩
    obtain ⟨h5, h6⟩ := map_mr (clock' := c2) hM hob hρ hEn hC0
    exact ⟨ρ, Ext.refl ρ, h5, h6, .inr rfl⟩
theorem delK_true {q : Int} : ∀ {E : List (Int × VV × Nat)} {K : List (Int × VV × Nat) → Bool}, delK q E K = true → ∃ E2, K E2 = true ∧ ∀ ρ E', EnR ρ E E' → EnR ρ E2 (mdel q E') := by
  intro E
  induction E with
  | nil => intro K h; exact ⟨[], h, fun ρ E' hE => by simp only [EnR] at hE; subst hE; rfl⟩
  | cons p E ih =>
    obtain ⟨key, w, born⟩ := p
    intro K h
    have h : (Bool.rec (delK q E fun r => K ((key, w, born) :: r)) (K E) (eqZ key q) : Bool) = true := h
    rw [eqZ_eq] at h
    by_cases hk : key = q
    · rw [decide_eq_true hk] at h
      refine ⟨_, h, fun ρ E' hE => ?_⟩
      obtain ⟨w', r, rfl, hw, hr⟩ := hE
      simpa [mdel, hk] using hr
    · rw [decide_eq_false hk] at h
      obtain ⟨E2, h1, h2⟩ := ih h
      refine ⟨_, h1, fun ρ E' hE => ?_⟩
      obtain ⟨w', r, rfl, hw, hr⟩ := hE
      have hne : ¬ q = key := fun e => hk e.symm
      simp only [mdel, if_neg hne]
      exact ⟨w', _, rfl, hw, h2 ρ r hr⟩
theorem mdl_ok (hT : TabOk P T) {d ty q af g t kt key el s0 b0 s1 b1 x y x' y'} (ht : T.find t = some ⟨.map key el, s0, b0⟩) (hki : T.find key = some ⟨.int .i64, s1, b1⟩) (hx : XR x' x) (hy : XR y' y)
    (h : (x'.getK ve fun m => m.onM false fun b => y'.getK ve fun q => q.onI fun q =>
      Tr.getK .dead M b fun ob => ob.onM fun E c ver => delK q E fun E => forceN (Nat.succ ver) fun ver => Tr.setK .dead M b (.mp E c ver) fun M => k .no M nx) = true) :
    ∃ v M' nx', k v M' nx' = true ∧ Fact W0 P ve M nx ⟨d, .call { callee := .builtin .delete, args := [x, y].toArray, argTypes := [t, kt].toArray }, ty, q, af, g⟩ v M' nx' := by
  rw [X.getK_eq] at h
  rcases VV.onM_true h with ⟨_, h⟩ | ⟨b, hb, h⟩
  · cases h
  rw [X.getK_eq] at h
  obtain ⟨n, hn, h⟩ := VV.onI_true h
  rw [getM_eq] at h
  obtain ⟨E, clock, ver, hob, h⟩ := OB.onM_true h
  obtain ⟨E2, h, hE2⟩ := delK_true h
  rw [forceN_eq, Tr.setK_eq] at h
  refine ⟨_, _, _, h, .m rfl (mono_map hob) fun ρ e C he hM => ?_⟩
  obtain ⟨u, h1, r, c, hρ, rfl⟩ := hx.look he hb rfl
  obtain ⟨w, h2, rfl⟩ := hy.look he hn rfl
  obtain ⟨E', hin, hE⟩ := hM.at_map hob hρ
  obtain ⟨C0, hW, hC0⟩ := map_split hin
  refine MV.post (m_mapDel hT (ty := ty) (p := q) (af := af) (g := g) (dd := d) (kt := kt) ht hki h1 h2 hW) ?_
  rintro _ _ ⟨rfl, rfl⟩
  obtain ⟨h5, h6⟩ := map_mr (clock' := clock) hM hob hρ (hE2 ρ E' hE) hC0
  exact ⟨ρ, Ext.refl ρ, h5, h6, .inr rfl⟩
def DoesC (W0 : World) (P : Program) (f : FuncId) (args : Array Value) (C : Heap) (R : Value → Heap → Prop) : Prop :=
  callable P f = true ∧ Does W0 P f args C R ∨ ∃ u, (∀ w, (callFunc f args).run P w = .ok (.value u) w) ∧ R u C
theorem DoesC.does {f : FuncId} {args : Array Value} {C : Heap} {R : Value → Heap → Prop} (h : DoesC W0 P f args C R) (hc : callable P f = true) : Does W0 P f args C R := by
  rcases h with h | ⟨u, h, _⟩
  · exact h.2
  · have h1 := run_callFunc hc args default
    rw [h default] at h1
    cases h1
theorem m_callC {d ty q af g} {e : Env} {C : Heap} {x : Operand} {l : List Operand} {vs : List Value} {ts : Array TypeId} {f : FuncId} {fs cs : List Value} {R : Value → Heap → Prop}
    (hx : look e x = some (true, .func (.func f) fs.toArray cs.toArray)) (hl : Looks e l vs) (hs : DoesC W0 P f (fs ++ vs ++ cs).toArray C R) :
    MV W0 P e C ⟨d, .call { callee := .value x, args := l.toArray, argTypes := ts }, ty, q, af, g⟩ R := by
  rcases hs with ⟨hc, hs⟩ | ⟨u, h, hr⟩
  · exact m_call hc hx hl hs
  · intro X ac ha w next Q hw hn
    refine exec_value (w' := w) (v := u) ?_ (hn u C w hr hw)
    have h1 := ha x (by simp [Op.operands, Call.operands]) _ hx
    have h2 := agree_map ha l vs (by intro y hy; simp [Op.operands, Call.operands, hy]) hl
    have hx : execOp ac.eval ⟨d, .call { callee := .value x, args := l.toArray, argTypes := ts }, ty, q, af, g⟩ = (do let d ← resolve ac.eval { callee := .value x, args := l.toArray, argTypes := ts } ty; invoke d.target d.args) := rfl
    rw [hx]
    have h3 := h w
    simp [resolve, Deferred.ofValue, h1, h2, invoke]
    simpa using h3
def CallOk (W0 : World) (P : Program) (call : Call) : Prop := ∀ f vs M nx (k : Kv), call f vs M nx k = true → ∃ v M' nx', k v M' nx' = true ∧ Mono M nx M' nx' ∧
  ∀ ρ C us, Rls ρ vs us → MR W0 ρ M nx C → DoesC W0 P f.num us.toArray C fun u C' => ∃ ρ', Ext ρ ρ' ∧ MR W0 ρ' M' nx' C' ∧ Keep ρ M M' C C' ∧ Rl ρ' v u
theorem call_ok {call : Call} (hc : CallOk W0 P call) {d ty q af g ts} {f : Den.P} {l : List Operand} {xs : List X} (hx : XRs xs l) (h : (xsK ve xs fun vs => call f vs M nx k) = true) :
    ∃ v M' nx', k v M' nx' = true ∧ Fact W0 P ve M nx ⟨d, .call { callee := .value (.func f.num), args := l.toArray, argTypes := ts }, ty, q, af, g⟩ v M' nx' := by
  obtain ⟨vs, h, h1, h2⟩ := xsK_true h
  obtain ⟨v, M', nx', h, hmono, hdoes⟩ := hc f vs M nx k h
  refine ⟨v, M', nx', h, .m rfl hmono fun ρ e C he hM => ?_⟩
  obtain ⟨us, h3, _, h5⟩ := hx.looks he h1 h2
  refine MV.post (m_callC (fs := []) (cs := []) rfl h5 (by simpa using hdoes ρ C us h3 hM)) ?_
  rintro u C' ⟨ρ', h6, h7, h8, h9⟩
  exact ⟨ρ', h6, h7, h8, .inl h9⟩
theorem cv_ok {call : Call} (hc : CallOk W0 P call) {d ty q af g ts} {x : Nat} {x' : X} {l : List Operand} {xs : List X} (hx' : XR x' (.tmp x)) (hx : XRs xs l) (h : (x'.getK ve fun v => v.onF fun f as cs => xsK ve xs fun vs => appK vs cs fun r => appK as r fun vs => call f vs M nx k) = true) :
    ∃ v M' nx', k v M' nx' = true ∧ Fact W0 P ve M nx ⟨d, .call { callee := .value (.tmp x), args := l.toArray, argTypes := ts }, ty, q, af, g⟩ v M' nx' := by
  rw [X.getK_eq] at h
  obtain ⟨f, as, cs, hf, h⟩ := VV.onF_true h
  obtain ⟨vs, h, h1, h2⟩ := xsK_true h
  rw [appK_eq, appK_eq] at h
  obtain ⟨v, M', nx', h, hmono, hdoes⟩ := hc f _ M nx k h
  refine ⟨v, M', nx', h, .m rfl hmono fun ρ e C he hM => ?_⟩
  obtain ⟨us, h3, _, h5⟩ := hx.looks he h1 h2
  obtain ⟨u, hu, fs, ws, rfl, h6, h7⟩ := hx'.look he hf rfl
  refine MV.post (m_callC hu h5 (by
    have := hdoes ρ C (fs ++ (us ++ ws)) (h6.append (h3.append h7)) hM
    rwa [← List.append_assoc] at this)) ?_
  rintro u C' ⟨ρ', h8, h9, h10, h11⟩
  exact ⟨ρ', h8, h9, h10, .inl h11⟩
theorem m_run {e : Env} {C : Heap} {o : Oper} {f : FuncId} {args : Array Value} {R : Value → Heap → Prop} (hrun : ∀ X (ac : Act) w, Agree e o ac.eval → Sat W0 w (X :: C) → (execOp ac.eval o).run P w = (callFunc f args).run P w) (hs : DoesC W0 P f args C R) : MV W0 P e C o R := by
  rcases hs with ⟨hc, hs⟩ | ⟨u, h, hr⟩
  · intro X ac ha w next Q hw hn
    unfold Oper.wp
    rw [hrun X ac w ha hw, run_callFunc hc]
    refine (hs.calls X w hw).mono ?_
    rintro en w' ⟨v, C', rfl, hr, hs'⟩
    exact hn v C' w' hr hs'
  · intro X ac ha w next Q hw hn
    exact exec_value (w' := w) (v := u) (by rw [hrun X ac w ha hw]; exact h w) (hn u C w hr hw)
theorem run_invoke {w : World} {t : Nat} {v r : Value} {name : String} {vs : List Value} {f : Nat} (h : ∀ n, (method (n + 1) t v name).run P w = .ok (f, r) w) :
    (invoke (.fn (.method name) #[]) (#[Value.iface t v] ++ vs.toArray)).run P w = (callFunc f (r :: vs).toArray).run P w := by
  have hm : (method (P.types.size + Made.depth) t v name).run P w = .ok (f, r) w := by
    obtain ⟨n, hn⟩ : ∃ n, P.types.size + Made.depth = n + 1 := by
      have : 0 < Made.depth := by decide
      exact ⟨P.types.size + Made.depth - 1, by omega⟩
    rw [hn]; exact h n
  have e1 : (#[Value.iface t v] ++ vs.toArray)[0]? = some (Value.iface t v) := by simp
  have e2 : (#[Value.iface t v] ++ vs.toArray).extract 1 (#[Value.iface t v] ++ vs.toArray).size = vs.toArray := by simp
  simp only [invoke, e1, e2, callMethod, Sem.run_bind]
  have e3 : (program).run P w = .ok P w := rfl
  rw [e3]
  simp only [Result.andThen_ok, hm]
  rw [show #[r] ++ vs.toArray = (r :: vs).toArray by simp]
theorem method_run (hT : TabOk P T) {name : String} {t : Nat} {f : Den.P} {ld : Bool} (h : MeOk P T name (t, f, ld)) {a : Addr} {r : Value} {w : World} (hr : ld = false → r = .pointer (some a)) (hl : ld = true → w.cell? a = some r) (n : Nat) : (method (n + 1) t (.pointer (some a)) name).run P w = .ok (f.num, r) w := by
  obtain ⟨ti, m, el, s, b, h1, h2, h3, h4, h5, h6⟩ := h
  have hi : (typeInfo t).run P w = .ok ti w := by
    have h1 : P.info? t = some ti := h1
    simp [typeInfo, program, Sem.run, h1]
  have h5 : T.find t = some ⟨.ptr el, s, b⟩ := h5
  have hu := run_underlying (P := P) (w := w) (hT.ptr h5)
  have h2 : ti.methods.find? (fun x => x.name == name) = some m := h2
  have h4 : m.func = some (f.num, !ld) := h4
  rw [method]
  simp only [Sem.run_bind, hi, Result.andThen_ok, h2, h3, h4, follow, Sem.run_pure]
  cases ld with
  | false =>
    simp only [Bool.not_false, receiverAt, Sem.run_bind, hu, Result.andThen_ok, Place.get, Sem.run_pure]
    rw [hr rfl]
  | true =>
    obtain ⟨i, g1, g2, g3⟩ := h6 rfl
    have ho : i.d ≠ .other := by intro h; rw [h] at g2; cases g2
    have hc := hl rfl
    have hn : ∀ x y, (Builtin.ssaWrapNilChk_ #[t] t #[.pointer (some a), strVal x, strVal y]).run P w = .ok (.pointer (some a)) w := fun _ _ => rfl
    simp only [Bool.not_true, receiverAt, Sem.run_bind, hu, Result.andThen_ok, Place.get, Sem.run_pure, asAddr]
    simp [hn, loadVar, hT.isAgg g1 ho, g3, load, Sem.run, hc]
theorem meK_true {k : Den.P → Bool → Bool} {t : Nat} : ∀ {tbl : List (Nat × Den.P × Bool)}, meK tbl t k = true → ∃ f ld, (t, f, ld) ∈ tbl ∧ k f ld = true
  | [], h => by cases h
  | (t', f, ld) :: r, h => by
    have h : (Bool.rec (meK r t k) (k f ld) (Nat.beq t' t) : Bool) = true := h
    cases hb : Nat.beq t' t with
    | true =>
      rw [hb] at h
      have := Nat.eq_of_beq_eq_true hb
      subst this
      exact ⟨f, ld, List.mem_cons_self .., h⟩
    | false =>
      rw [hb] at h
      obtain ⟨f', ld', h1, h2⟩ := meK_true (tbl := r) h
      exact ⟨f', ld', List.mem_cons_of_mem _ h1, h2⟩
theorem inv_ok (hT : TabOk P T) {call : Call} (hc : CallOk W0 P call) {d ty q af g ts tbl name} {x : Nat} {x' : X} {l : List Operand} {xs : List X} (hme : ∀ q ∈ tbl, MeOk P T name q) (hx' : XR x' (.tmp x)) (hx : XRs xs l) (h : doK call ve M nx (.inv tbl x' xs) k = true) :
    ∃ v M' nx', k v M' nx' = true ∧ Fact W0 P ve M nx ⟨d, .call { callee := .invoke (.tmp x) name, args := l.toArray, argTypes := ts }, ty, q, af, g⟩ v M' nx' := by
  have h : (x'.getK ve fun v => xsK ve xs fun vs => invV call tbl v vs M nx k) = true := h
  rw [X.getK_eq] at h
  obtain ⟨vs, h, h1, h2⟩ := xsK_true h
  obtain ⟨t, w, hv, h⟩ := VV.onIf_true h
  obtain ⟨f, ld, hin, h⟩ := meK_true h
  obtain ⟨b, o, rfl, h⟩ := VV.onP_true h
  have hm := hme _ hin
  have fin : ∀ (ρ : Rho) (e : Env) (C : Heap) (R : Value → Heap → Prop) (us : List Value) (a : Addr) (r : Value), look e (.tmp x) = some (true, .iface t (.pointer (some a))) → Looks e l us → (∀ w, Sat W0 w C → (ld = false → r = .pointer (some a)) ∧ (ld = true → w.cell? a = some r)) → DoesC W0 P f.num (r :: us).toArray C R →
      MV W0 P e C ⟨d, .call { callee := .invoke (.tmp x) name, args := l.toArray, argTypes := ts }, ty, q, af, g⟩ R := fun ρ e C R us a r hlx hll hr hd => by
    refine m_run (fun X ac w ha hw => ?_) hd
    have e1 := ha (.tmp x) (by simp [Op.operands, Call.operands]) _ hlx
    have e2 := agree_map ha l us (by intro y hy; simp [Op.operands, Call.operands, hy]) hll
    have : execOp ac.eval ⟨d, .call { callee := .invoke (.tmp x) name, args := l.toArray, argTypes := ts }, ty, q, af, g⟩ = (do let d ← resolve ac.eval { callee := .invoke (.tmp x) name, args := l.toArray, argTypes := ts } ty; invoke d.target d.args) := rfl
    rw [this]
    have hws := hr w (hw.weak (Weak.skip X C))
    have e3 := run_invoke (P := P) (w := w) (vs := us) (method_run hT hm hws.1 hws.2)
    simp only [resolve, Sem.run_bind, Sem.run_pure, Result.andThen_ok, e1]
    rw [← e3, ← e2]
    simp
  cases ld with
  | false =>
    have h : call f (.ptr b o :: vs) M nx k = true := h
    obtain ⟨v, M', nx', h, hmono, hdoes⟩ := hc f _ M nx k h
    refine ⟨v, M', nx', h, .m rfl hmono fun ρ e C he hM => ?_⟩
    obtain ⟨us, h3, _, h5⟩ := hx.looks he h1 h2
    obtain ⟨u, hu, w, rfl, hw⟩ := hx'.look he hv rfl
    have hw' := hw
    obtain ⟨r, c, _, rfl⟩ := hw'
    refine MV.post (fin ρ e C _ us _ _ hu h5 (fun _ _ => ⟨fun _ => rfl, fun h => (by cases h)⟩) (hdoes ρ C _ ⟨_, us, rfl, hw, h3⟩ hM)) ?_
    rintro u C' ⟨ρ', h8, h9, h10, h11⟩
    exact ⟨ρ', h8, h9, h10, .inl h11⟩
  | true =>
    have h : (Tr.getK .dead M b fun ob => ob.onR fun l => nthK l o fun u => u.onOne (call f (u :: vs) M nx k)) = true := h
    rw [getM_eq] at h
    obtain ⟨row, hb, h⟩ := OB.onR_true h
    obtain ⟨uv, huv, h⟩ := nthK_true h
    obtain ⟨_, h⟩ := VV.onOne_true h
    obtain ⟨v, M', nx', h, hmono, hdoes⟩ := hc f _ M nx k h
    refine ⟨v, M', nx', h, .m rfl hmono fun ρ e C he hM => ?_⟩
    obtain ⟨us, h3, _, h5⟩ := hx.looks he h1 h2
    obtain ⟨u, hu, w, rfl, r, c, hρ, rfl⟩ := hx'.look he hv rfl
    obtain ⟨cs, rest, bt, fz, hin2, hl, _⟩ := hM.at_row hb hρ
    obtain ⟨u2, hu2, hru⟩ := hl.get huv
    have hlt := (List.getElem?_eq_some_iff.1 hu2).1
    have hrd : Rd W0 C ⟨r, o, none⟩ u2 := Rd.of_at (mem_at hin2) (by simp [List.getElem?_append_left hlt, hu2])
    refine MV.post (fin ρ e C _ us _ u2 hu h5 (fun w hw => ⟨fun h => (by cases h), fun _ => hrd w hw⟩) (hdoes ρ C _ ⟨_, us, rfl, hru, h3⟩ hM)) ?_
    rintro u C' ⟨ρ', h8, h9, h10, h11⟩
    exact ⟨ρ', h8, h9, h10, .inl h11⟩
theorem tr1_kind {op : Op} {y : Y1} (h : Tr1 T op y) : isFresh (klassOp cfg0 op) = false := by
  cases h <;> first
    | rfl
    | (unfold klassOp; split <;> first | rfl | (split <;> rfl) | (rename_i h; cases h))
theorem run_equal_ptr (hT : TabOk P T) {t el s b : Nat} {ie : TyI} (ht : T.find t = some ⟨.ptr el, s, b⟩) (hel : T.find el = some ie) (hsz : Nat.beq ie.size 0 = false) {r r' o o' : Nat} {w : World} {ca cb : Array Value} {ta tb : TypeId} (ha : w.heap[r]? = some (.cells ca ta (0, 0))) (hb : w.heap[r']? = some (.cells cb tb (0, 0))) :
    (Op.equal t (.pointer (some ⟨r, o, none⟩)) (.pointer (some ⟨r', o', none⟩))).run P w = .ok (decide (r = r' ∧ o = o')) w := by
  have hs : ie.size ≠ 0 := fun e => by rw [e] at hsz; cases hsz
  have hsa : (sameAddr ⟨r, o, none⟩ ⟨r', o', none⟩).run P w = .ok (decide (r = r' ∧ o = o')) w := by
    by_cases he : r = r' ∧ o = o'
    · obtain ⟨rfl, rfl⟩ := he
      rw [run_sameAddr_same]; simp
    · rw [run_sameAddr_other w (fun e => he (by cases e; exact ⟨rfl, rfl⟩)) ha hb, decide_eq_false he]
  rw [equal_succ, Op.equalIn]
  simp [run_underlying (hT.ptr ht), hT.size hel, hs, hsa]
theorem peq_ok (hT : TabOk P T) {d q af g ty t t' el s b ie n op} {x y : Den.P} (ht : T.find t = some ⟨.ptr el, s, b⟩) (hel : T.find el = some ie) (hsz : Nat.beq ie.size 0 = false) (hop : n = false ∧ op = .eql ∨ n = true ∧ op = .neq) {call : Call} (h : doK call ve M nx (.peq n (.t x) (.t y)) k = true) :
    ∃ v M' nx', k v M' nx' = true ∧ Fact W0 P ve M nx ⟨d, .binOp op t (.tmp x.num) (.tmp y.num) t', ty, q, af, g⟩ v M' nx' := by
  have h : ((X.t x).getK ve fun v => (X.t y).getK ve fun w => peqV n v w M fun v => k v M nx) = true := h
  rw [X.getK_eq, X.getK_eq] at h
  have hk : klassOp cfg0 (.binOp op t (.tmp x.num) (.tmp y.num) t') = .quiet := by rcases hop with ⟨_, rfl⟩ | ⟨_, rfl⟩ <;> rfl
  have main : ∀ (c : Bool), k (.bool (negIf n c)) M nx = true → (∀ ρ e C, ERl ρ ve e → MR W0 ρ M nx C → ∃ a b, Eng.look e (.tmp x.num) = some (true, .pointer a) ∧ Eng.look e (.tmp y.num) = some (true, .pointer b) ∧ ∀ w, Sat W0 w C → (Op.equal t (.pointer a) (.pointer b)).run P w = .ok c w) →
      ∃ v M' nx', k v M' nx' = true ∧ Fact W0 P ve M nx ⟨d, .binOp op t (.tmp x.num) (.tmp y.num) t', ty, q, af, g⟩ v M' nx' := fun c hkc hr => by
    refine ⟨_, M, nx, hkc, .quiet hk fun ρ e C he hM => ?_⟩
    obtain ⟨a, b, h1, h2, h3⟩ := hr ρ e C he hM
    refine ⟨.bool (negIf n c), rfl, StabV.quiet (D := C) (fun ρ' ha w hw => ?_) (Weak.refl C)⟩
    have g1 := ha (.tmp x.num) (by simp [Op.operands]) _ h1
    have g2 := ha (.tmp y.num) (by simp [Op.operands]) _ h2
    refine exec_binOp (by rw [g1, g2]; exact run_eqGuard_other (by simp) (by simp)) ?_
    rw [g1, g2]
    rcases hop with ⟨rfl, rfl⟩ | ⟨rfl, rfl⟩
    · rw [binOp_eql rfl rfl]
      simp only [Sem.run_bind, h3 w hw, Result.andThen_ok, Sem.run_pure]
      cases c <;> rfl
    · rw [binOp_neq rfl rfl]
      simp only [Sem.run_bind, h3 w hw, Result.andThen_ok, Sem.run_pure]
      cases c <;> rfl
  rcases VV.onQ_true h with ⟨hv, h⟩ | ⟨b1, o1, hv, h⟩
  · rcases VV.onQ_true h with ⟨hw, h⟩ | ⟨b2, o2, hw, h⟩
    · refine main true (by have := boolK_true h; cases n <;> exact this) fun ρ e C he hM => ?_
      obtain ⟨u, h1, rfl⟩ := (XR.t x).look he hv rfl
      obtain ⟨u, h2, rfl⟩ := (XR.t y).look he hw rfl
      exact ⟨none, none, h1, h2, fun w _ => run_equal_ptr_nil (hT.ptr ht)⟩
    · refine main false (by have := boolK_true h; cases n <;> exact this) fun ρ e C he hM => ?_
      obtain ⟨u, h1, rfl⟩ := (XR.t x).look he hv rfl
      obtain ⟨u, h2, r, c, _, rfl⟩ := (XR.t y).look he hw rfl
      exact ⟨none, _, h1, h2, fun w _ => run_equal_nil_ptr (hT.ptr ht)⟩
  · rcases VV.onQ_true h with ⟨hw, h⟩ | ⟨b2, o2, hw, h⟩
    · refine main false (by have := boolK_true h; cases n <;> exact this) fun ρ e C he hM => ?_
      obtain ⟨u, h1, r, c, _, rfl⟩ := (XR.t x).look he hv rfl
      obtain ⟨u, h2, rfl⟩ := (XR.t y).look he hw rfl
      exact ⟨_, none, h1, h2, fun w _ => run_equal_ptr_nil (hT.ptr ht)⟩
    · rw [getM_eq] at h
      obtain ⟨t1, s1, l1, v1, hb1, h⟩ := OB.onC_true h
      rw [getM_eq] at h
      obtain ⟨t2, s2, l2, v2, hb2, h⟩ := OB.onC_true h
      have both : ∀ ρ e C, ERl ρ ve e → MR W0 ρ M nx C → ∃ r1 r2, (b1 = b2 ↔ r1 = r2) ∧ Eng.look e (.tmp x.num) = some (true, .pointer (some ⟨r1, o1, none⟩)) ∧ Eng.look e (.tmp y.num) = some (true, .pointer (some ⟨r2, o2, none⟩)) ∧
          ∀ w, Sat W0 w C → (Op.equal t (.pointer (some ⟨r1, o1, none⟩)) (.pointer (some ⟨r2, o2, none⟩))).run P w = .ok (decide (r1 = r2 ∧ o1 = o2)) w := fun ρ e C he hM => by
        obtain ⟨u, h1, r1, c1, hρ1, rfl⟩ := (XR.t x).look he hv rfl
        obtain ⟨u, h2, r2, c2, hρ2, rfl⟩ := (XR.t y).look he hw rfl
        have lv1 : (Mm.at M b1).live := by rw [hb1]; trivial
        have lv2 : (Mm.at M b2).live := by rw [hb2]; trivial
        obtain ⟨r1', c1', ro1, e1, m1, f1⟩ := hM.live b1 lv1
        obtain ⟨r2', c2', ro2, e2, m2, f2⟩ := hM.live b2 lv2
        rw [hρ1] at e1; cases e1
        rw [hρ2] at e2; cases e2
        rw [hb1] at f1; rw [hb2] at f2
        obtain ⟨us1, rs1, rfl, _⟩ := f1
        obtain ⟨us2, rs2, rfl, _⟩ := f2
        refine ⟨r1, r2, ⟨fun e => ?_, fun e => ?_⟩, h1, h2, fun w hw => run_equal_ptr hT ht hel hsz (hw.own _ m1).2 (hw.own _ m2).2⟩
        · subst e; rw [hρ1] at hρ2; cases hρ2; rfl
        · subst e; exact hM.inj b1 b2 r1 c1 c2 lv1 lv2 hρ1 hρ2
      cases hbb : b1.eqb b2 with
      | true =>
        rw [hbb] at h
        have hbe := Den.P.eqb_eq.1 hbb
        refine main (Nat.beq o1 o2) (boolK_true h) fun ρ e C he hM => ?_
        obtain ⟨r1, r2, hr, h1, h2, h3⟩ := both ρ e C he hM
        refine ⟨_, _, h1, h2, fun w hw => ?_⟩
        rw [h3 w hw]
        congr 1
        have hrr := hr.1 hbe
        cases ho : Nat.beq o1 o2 with
        | true => have := Nat.eq_of_beq_eq_true ho; simp [hrr, this]
        | false =>
          have : o1 ≠ o2 := fun e => by subst e; simp at ho
          simp [this]
      | false =>
        rw [hbb] at h
        have hbe : b1 ≠ b2 := fun e => by rw [Den.P.eqb_eq.2 e] at hbb; cases hbb
        refine main false (by have := boolK_true h; cases n <;> exact this) fun ρ e C he hM => ?_
        obtain ⟨r1, r2, hr, h1, h2, h3⟩ := both ρ e C he hM
        refine ⟨_, _, h1, h2, fun w hw => ?_⟩
        rw [h3 w hw]
        have : r1 ≠ r2 := fun e => hbe (hr.2 e)
        simp [this]
theorem OB.onBs_true {o : OB} {k : List VV → Bool} (h : o.onBs k = true) : ∃ t l F, o = .bs t l F ∧ k l = true := by
  cases o with
  | bs t l F => exact ⟨t, l, F, rfl, h⟩
  | _ => cases h
theorem ldW_ok (hT : TabOk P T) {d ty q af g t x x' i} (ht : T.find t = some i) (hk : i.d.known = true) (hx : XR x' x) {K : Den.P → VV → Bool} (h : (x'.getK ve fun v => ldW M v i.size i.d.agg K) = true) :
    (∃ b v, K b v = true ∧ (Mm.at M b).live ∧ ∀ ρ e D c r ro, ERl ρ ve e → ρ b = some (r, c) → (r, ro) ∈ D.flatten → ObR ρ c (Mm.at M b) ro → ∃ u, Rl ρ v u ∧ StabV W0 P e D ⟨d, .load t x, ty, q, af, g⟩ u) ∨
    ∃ b v, K b v = true ∧ ∀ ρ e C, ERl ρ ve e → MR W0 ρ M nx C → ∃ u, Rl ρ v u ∧ StabV W0 P e C ⟨d, .load t x, ty, q, af, g⟩ u := by
  rw [X.getK_eq] at h
  rcases VV.onBp_true h with h | ⟨b, j, hv, h⟩
  · refine .inl (ld_ok hT ht hk hx ?_)
    show (x'.getK ve fun v => v.onP fun b o => Tr.getK .dead M b fun ob => ob.onR fun l => cutK o i.size i.d.agg l fun v => K b v) = true
    rw [X.getK_eq]
    exact h
  refine .inr ?_
  rw [getM_eq] at h
  obtain ⟨t0, l, F, hb, h⟩ := OB.onBs_true h
  have key : ∀ (ρ : Rho) (C : Eng.Heap) (r : Nat) (us rest pre : List Value) (ft : Nat × Nat × Nat), W0.heap[r]? = some (Obj.cells (pre ++ (us ++ rest)).toArray ft.1 ft.2) → ∀ (m : Nat) (u : Value), us[m]? = some u → Rd W0 C ⟨r, pre.length + m, none⟩ u := fun ρ C r us rest pre ft hw m u hu => by
    refine Rd.of_at (At.base hw) ?_
    have hlt := (List.getElem?_eq_some_iff.1 hu).1
    rw [List.getElem?_toArray, List.getElem?_append_right (by omega), show pre.length + m - pre.length = m by omega, List.getElem?_append_left hlt]
    exact hu
  rcases cutK_true h with ⟨hag, v, hlv, h⟩ | ⟨hag, hle, h⟩ | ⟨hag, hz, h⟩
  · refine ⟨b, v, h, fun ρ e C he hM => ?_⟩
    obtain ⟨r, pre, us, rest, fz, h1, h2, h3, h4, h5⟩ := hM.bas b t0 l F hb
    obtain ⟨u, hu, hvu⟩ := h3.get hlv
    obtain ⟨w, hw, r', o', hρ', rfl⟩ := hx.look he hv rfl
    rw [h1] at hρ'
    cases hρ'
    exact ⟨u, hvu, stab_load hT ht (by rw [hk, hag]; rfl) hw (key ρ C r us rest pre fz h2 j u hu)⟩
  · refine ⟨b, _, h, fun ρ e C he hM => ?_⟩
    obtain ⟨r, pre, us, rest, fz, h1, h2, h3, h4, h5⟩ := hM.bas b t0 l F hb
    obtain ⟨w, hw, r', o', hρ', rfl⟩ := hx.look he hv rfl
    rw [h1] at hρ'
    cases hρ'
    have hus := h3.length
    refine ⟨_, ⟨_, rfl, (h3.drop j).take i.size, ?_⟩, stab_loadN hT ht hag (by rw [List.length_take, List.length_drop]; omega) hw (fun m u hj => ?_)⟩
    · rw [List.all_eq_true] at h4 ⊢
      exact fun z hz => h4 z (List.mem_of_mem_drop (List.mem_of_mem_take hz))
    · rw [List.getElem?_take] at hj
      split at hj
      · rw [List.getElem?_drop] at hj
        have := key ρ C r us rest pre fz h2 (j + m) u hj
        rwa [← Nat.add_assoc] at this
      · cases hj
  · refine ⟨b, _, h, fun ρ e C he hM => ?_⟩
    obtain ⟨r, pre, us, rest, fz, h1, h2, h3, h4, h5⟩ := hM.bas b t0 l F hb
    obtain ⟨w, hw, r', o', hρ', rfl⟩ := hx.look he hv rfl
    rw [h1] at hρ'
    cases hρ'
    exact ⟨_, ⟨[], rfl, rfl, rfl⟩, stab_loadN hT ht hag (by simp [hz]) hw fun j u hj => by simp at hj⟩
theorem run_eq2 (hT : TabOk P T) {t el s b b1 : Nat} (ht : T.find t = some ⟨.arr 2 el, s, b⟩) (he : T.find el = some ⟨.int .i64, 1, b1⟩) (a1 a2 c1 c2 : Int) (w : World) : (Op.equalIn 10000 t (.agg #[.int .i64 a1, .int .i64 a2]) (.agg #[.int .i64 c1, .int .i64 c2])).run P w = .ok (a1 == c1 && a2 == c2) w := by
  have u3 := hT.int he
  have z3 := fun w => hT.size he w
  have a3 := hT.isAgg he (by intro h; cases h)
  rw [show (10000 : Nat) = 9999 + 1 from rfl, Op.equalIn]
  simp only [Sem.run_bind, run_underlying (hT.arr ht), Result.andThen_ok]
  simp only [Std.Legacy.Range.forIn_eq_forIn_range', Std.Legacy.Range.size, Nat.sub_zero, Nat.add_sub_cancel, Nat.div_one, List.range'_succ, List.range'_zero, List.forIn_cons, List.forIn_nil]
  have e1 : ∀ (a b : Int) w, (Op.equalIn 9999 el (.int .i64 a) (.int .i64 b)).run P w = .ok (a == b) w := fun a b w => run_equalIn_int w 9998 el .i64 .i64 a b u3
  have hagg : (TyD.int IntKind.i64).agg = false := rfl
  simp [z3, a3, part, e1, hagg]
  by_cases h1 : a1 = c1 <;> by_cases h2 : a2 = c2 <;> simp [h1, h2]
theorem req_ok (hT : TabOk P T) {d ty q af g t t' el s b b1 n op x y} {x' y' : X} (ht : T.find t = some ⟨.arr 2 el, s, b⟩) (he : T.find el = some ⟨.int .i64, 1, b1⟩) (hg : P.eqGuardType P.depth t = false) (hop : n = false ∧ op = .eql ∨ n = true ∧ op = .neq) (hk : klassOp cfg0 (.binOp op t x y t') = .quiet) (hx : XR x' x) (hy : XR y' y) {call : Call} (h : doK call ve M nx (.req n x' y') k = true) :
    ∃ v M' nx', k v M' nx' = true ∧ Fact W0 P ve M nx ⟨d, .binOp op t x y t', ty, q, af, g⟩ v M' nx' := by
  have h : (x'.getK ve fun a => y'.getK ve fun b => reqV n a b fun v => k v M nx) = true := h
  rw [X.getK_eq, X.getK_eq] at h
  obtain ⟨l, hl, h⟩ := VV.onA_true h
  obtain ⟨m, hm, h⟩ := VV.onA_true h
  obtain ⟨hlen, h⟩ := brec_true h
  rw [lenN_eq, lenN_eq] at hlen
  obtain ⟨c, h, hc⟩ := eqLK_true h
  have h := boolK_true' h
  refine ⟨_, M, nx, h, .quiet hk fun ρ e C hee hM => ?_⟩
  obtain ⟨u, h1, us, rfl, hu, _⟩ := hx.look hee hl rfl
  obtain ⟨w, h2, ws, rfl, hw, _⟩ := hy.look hee hm rfl
  have hc := hc ρ us ws hu hw
  have l1 : us.length = 2 := by rw [hu.length]; exact Nat.eq_of_beq_eq_true (bandL hlen)
  have l2 : ws.length = 2 := by rw [hw.length]; exact Nat.eq_of_beq_eq_true (bandR hlen)
  match us, ws, l1, l2 with
  | [u1, u2], [w1, w2], _, _ =>
  obtain ⟨a1, c1, e1, e2, a2, c2, e3, e4, rfl⟩ : ∃ a1 c1, u1 = .int .i64 a1 ∧ w1 = .int .i64 c1 ∧ ∃ a2 c2, u2 = .int .i64 a2 ∧ w2 = .int .i64 c2 ∧ c = (a1 == c1 && a2 == c2) := by
    obtain ⟨a, a', c1, c2, f1, f2, ⟨m1, n1, rfl, rfl, f3⟩, hc, f4⟩ := hc
    obtain ⟨b, b', c3, c4, f5, f6, ⟨m2, n2, rfl, rfl, f7⟩, hc, f8⟩ := hc
    have hc : c4 = true := hc
    simp only [List.getElem?_cons_zero, List.getElem?_cons_succ, Option.some.injEq] at f1 f2 f5 f6
    refine ⟨m1, n1, f1, f2, m2, n2, f5, f6, ?_⟩
    rw [f4, f8, f3, f7, hc, Bool.and_true]
    by_cases k1 : m1 = n1 <;> by_cases k2 : m2 = n2 <;> simp [k1, k2]
  subst e1 e2 e3 e4
  refine ⟨.bool (negIf n (a1 == c1 && a2 == c2)), rfl, StabV.quiet (D := C) (fun ρ' ha w hw => ?_) (Weak.refl C)⟩
  have g1 := ha x (by simp [Op.operands]) _ h1
  have g2 := ha y (by simp [Op.operands]) _ h2
  rcases hop with ⟨rfl, rfl⟩ | ⟨rfl, rfl⟩
  · refine exec_binOp (w' := w) (by rw [g1, g2]; exact run_eqGuard_agg w _ _ _ _ _ _ hg) ?_
    rw [g1, g2, run_eql_struct, run_eq2 hT ht he]
    rfl
  · refine exec_binOp (w' := w) (by rw [g1, g2]; exact run_eqGuard_agg w _ _ _ _ _ _ hg) ?_
    rw [g1, g2, run_neq_struct, run_eq2 hT ht he, show negIf true (a1 == c1 && a2 == c2) = !(a1 == c1 && a2 == c2) from notB_eq _]
    rfl
theorem doK_ok (hT : TabOk P T) {call : Call} (hc : CallOk W0 P call) {o : Oper} {y : Y} (ht : TrY T P o y) (h : doK call ve M nx y k = true) :
    ∃ v M' nx', k v M' nx' = true ∧ Fact W0 P ve M nx o v M' nx' := by
  cases ht with
  | p h1 =>
    obtain ⟨v, h2, h3⟩ := pure_ok hT h1 (k := fun v => k v M nx) h
    refine ⟨v, M, nx, h2, .pure (tr1_kind h1) fun ρ e he => ?_⟩
    obtain ⟨u, h4, h5⟩ := h3 ρ e he
    obtain ⟨d, op, ty, q, af, g⟩ := o
    exact ⟨u, h4, h5 d ty q af g⟩
  | ld h1 h2 h3 =>
    rcases ldW_ok (W0 := W0) hT h1 h2 h3 (K := fun _ v => k v M nx) h with ⟨b, v, h4, h5, h6⟩ | ⟨b, v, h4, h6⟩
    · exact ⟨v, M, nx, h4, .read b rfl h5 h6⟩
    · exact ⟨v, M, nx, h4, .quiet rfl fun ρ e C he hM => by
        obtain ⟨u, h7, h8⟩ := h6 ρ e C he hM
        exact ⟨u, h7, StabV.quiet h8 (Weak.refl C)⟩⟩
  | st h1 h2 h3 =>
    obtain ⟨M', h4, h5⟩ := st_ok (W0 := W0) (nx := nx) hT h1 h2 h3 (K := fun M => k .no M nx) h
    exact ⟨.no, M', nx, h4, h5⟩
  | al h1 h2 h3 => exact al_ok hT h1 h2 h3 h
  | bx h1 => exact bx_ok h1 h
  | bsl h1 h2 h3 h4 h5 h6 h7 h8 h9 h10 => exact bsl_ok hT h1 h2 h3 h4 h5 h6 h7 h8 h9 h10 h
  | mks h1 h2 h3 h4 h5 h6 h7 h8 h9 => exact mks_ok hT h1 h2 h3 h4 h5 h6 h7 h8 h9 h
  | app h1 h2 h3 h4 h5 h6 h7 h8 => exact app_ok hT h1 h2 h3 h4 h5 h6 h7 h8 h
  | cpy h1 h2 h3 h4 => exact cpy_ok hT h1 h2 h3 h4 h
  | mkm => exact mkm_ok h
  | lku h1 h2 h3 h4 h5 h6 => exact lku_ok hT h1 h2 h3 h4 h5 h6 h
  | mup h1 h2 h3 h4 h5 => exact mup_ok hT (.inl rfl) h1 h2 h3 h4 h5 h
  | ins h1 h2 h3 h4 h5 => exact mup_ok hT (.inr rfl) h1 h2 h3 h4 h5 h
  | mdl h1 h2 h3 h4 => exact mdl_ok hT h1 h2 h3 h4 h
  | call h1 => exact call_ok hc h1 h
  | cv h1 h2 => exact cv_ok hc h1 h2 h
  | peq h1 h2 h3 h4 => exact peq_ok hT h1 h2 h3 h4 h
  | cvs h1 h2 h3 h4 => exact cvs_ok hT h1 h2 h3 h4 h
  | cvb h1 h2 h3 h4 => exact cvb_ok hT h1 h2 h3 h4 h
  | @req d q af g ty t t' el s b b1 n op x y h1 h2 h3 h4 => exact req_ok hT h1 h2 h3 h4 (by rcases h4 with ⟨_, rfl⟩ | ⟨_, rfl⟩ <;> rfl) (.t x) (.t y) h
  | inv h1 h2 h3 => exact inv_ok hT hc h1 h2 h3 h
  | bad => cases h
end
end Den
