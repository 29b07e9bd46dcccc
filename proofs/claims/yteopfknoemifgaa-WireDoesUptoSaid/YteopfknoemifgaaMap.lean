/- Maps whose elements are whatever values, as functions from keys; made, asked, written, gone over. Conditions: none. -/
import Derived.Test.YteopfknoemifgaaBase
import Derived.Maps.OwnSet
import Derived.Maps.OwnOps
import Derived.Maps.RangeWalk
namespace Go.Proofs.Yteopfknoemifgaa
open Go.RowKit Go.ChangeMaps Go.Maps

/-- A kind of keys: what they are in Go, what they are read as, which there are. -/
structure KeyKind (P : Program) (k : TypeId) (α : Type) where
  val : α → Value
  lit : α → Lit
  ok : α → Prop
  law : Keyed P k
  key : ∀ x, ok x → keyOf P k (val x) = some (lit x)
  inj : ∀ x y, lit x = lit y → x = y
  inv : ∀ v kl, keyOf P k v = some kl → ∃ x, ok x ∧ v = val x ∧ kl = lit x
def intKind {P : Program} {k : TypeId} {q : IntKind} (hk : P.underlying k = some (.int q)) : KeyKind P k Int where
  val := .int q
  lit := .int q
  ok x := (Lit.int q x).wf = true
  law := int_keyed hk
  key _ h := keyOf_int_mk hk h
  inj _ _ h := by injection h
  inv v kl h := by
    obtain ⟨x, h1, h2, h3⟩ := Maps.keyOf_int_inv hk h
    exact ⟨x, h3, h1, h2⟩

def rawElem (v : Value) : Option (DataW Value × List MemPlace) := some (.held v, [])

/-- What a reading of a map says, as a function from its keys. -/
def Agrees {P : Program} {k : TypeId} {α : Type} (K : KeyKind P k α) (D : DataW Value) (g : α → Option Value) : Prop :=
  ∀ x, K.ok x → Maps.has D (K.lit x) = (g x).isSome ∧ ∀ v, g x = some v → ∀ z, D.atKey (K.lit x) z = .held v

/-- Block b is a map of at most n entries; at each key it holds what g says. -/
def MapIs (w : World) {P : Program} {k : TypeId} {α : Type} (K : KeyKind P k α) (b n : Nat) (g : α → Option Value) : Prop :=
  ∃ D : DataW Value, w.ownsMap P k rawElem b n D ∧ Agrees K D g

section
variable {P : Program} {k : TypeId} {α : Type} {K : KeyKind P k α} {w : World} {b n : Nat} {g : α → Option Value}

theorem MapIs.lt (h : MapIs w K b n g) : b < w.heap.size := by obtain ⟨D, h1, _⟩ := h; exact h1.lt
theorem MapIs.of_heap {w' : World} (h : MapIs w K b n g) (hh : w'.heap[b]? = w.heap[b]?) : MapIs w' K b n g := by
  obtain ⟨D, ⟨es, clock, hb, r⟩, h2⟩ := h
  exact ⟨D, ⟨es, clock, hh.trans hb, r⟩, h2⟩
theorem MapIs.mono {n' : Nat} (h : MapIs w K b n g) (hn : n ≤ n') : MapIs w K b n' g := by obtain ⟨D, h1, h2⟩ := h; exact ⟨D, h1.mono hn, h2⟩
theorem MapIs.congr {g' : α → Option Value} (h : MapIs w K b n g) (hg : ∀ x, K.ok x → g' x = g x) : MapIs w K b n g' := by
  obtain ⟨D, h1, h2⟩ := h
  exact ⟨D, h1, fun x hx => by rw [hg x hx]; exact h2 x hx⟩
theorem MapIs.made (w : World) (K : KeyKind P k α) : MapIs (w.alloc (.map #[] 0)) K w.heap.size 0 (fun _ => none) :=
  ⟨.map [], World.ownsMap_made w P k rawElem, fun x _ => ⟨rfl, fun v h => by cases h⟩⟩

/-- 'm[k]'. -/
theorem MapIs.lookup {t e : TypeId} (h : MapIs w K b n g) (ht : P.underlying t = some (.map k e)) {z : Value} (hz : (zeroValue e).run P w = .ok z w) {x : α} (hx : K.ok x) :
    (Instr.lookup t (.map (some b)) (K.val x) false).run P w = .ok ((g x).getD z) w := by
  obtain ⟨D, h1, h2⟩ := h
  obtain ⟨v, ps, hrun, hv⟩ := h1.lookup K.law ht hz (zd := .held z) (zp := []) rfl (K.key x hx)
  obtain ⟨h3, h4⟩ := h2 x hx
  simp only [rawElem, Option.some.injEq, Prod.mk.injEq] at hv
  rw [hrun]
  cases hg : g x with
  | none =>
    rw [hg] at h3
    rw [Maps.atKey_of_not_has h3] at hv
    injection hv.1 with hv1; rw [hv1]; rfl
  | some u =>
    rw [h4 u hg] at hv
    injection hv.1 with hv1; rw [hv1]; rfl
/-- 'v, ok := m[k]'. -/
theorem MapIs.lookup_ok {t e : TypeId} (h : MapIs w K b n g) (ht : P.underlying t = some (.map k e)) {z : Value} (hz : (zeroValue e).run P w = .ok z w) {x : α} (hx : K.ok x) :
    (Instr.lookup t (.map (some b)) (K.val x) true).run P w = .ok (.tuple #[(g x).getD z, .bool (g x).isSome]) w := by
  obtain ⟨D, h1, h2⟩ := h
  obtain ⟨v, ps, hrun, hv⟩ := h1.look_ok K.law ht hz (zd := .held z) (zp := []) rfl (K.key x hx)
  obtain ⟨h3, h4⟩ := h2 x hx
  simp only [rawElem, Option.some.injEq, Prod.mk.injEq] at hv
  rw [hrun, h3]
  cases hg : g x with
  | none =>
    rw [hg] at h3
    rw [Maps.atKey_of_not_has h3] at hv
    injection hv.1 with hv1; rw [hv1]; rfl
  | some u =>
    rw [h4 u hg] at hv
    injection hv.1 with hv1; rw [hv1]; rfl

theorem Agrees.put {D : DataW Value} (hD : IsMap D) (h : Agrees K D g) [DecidableEq α] {x : α} (hx : K.ok x) (v : Value) : Agrees K (D.put (K.lit x) (.held v)) (fun y => if y = x then some v else g y) := by
  have hkl : WideAt.IsKeyLit (K.lit x) := K.law.key (K.key x hx)
  intro y hy
  by_cases e : y = x
  · subst e
    refine ⟨by rw [has_put_same hD hkl]; simp, fun u hu z => ?_⟩
    simp at hu; subst hu
    exact atKey_put_same hD hkl _ z
  · have hne : K.lit y ≠ K.lit x := fun h => e (K.inj _ _ h)
    simp only [e, if_false]
    obtain ⟨h1, h2⟩ := h y hy
    exact ⟨by rw [has_put_other hne]; exact h1, fun u hu z => by rw [atKey_put_other hne]; exact h2 u hu z⟩
theorem Agrees.del {D : DataW Value} (h : Agrees K D g) [DecidableEq α] {x : α} : Agrees K (D.del (K.lit x)) (fun y => if y = x then none else g y) := by
  intro y hy
  by_cases e : y = x
  · subst e
    refine ⟨by rw [has_del_same]; simp, fun u hu z => ?_⟩
    simp at hu
  · have hne : K.lit y ≠ K.lit x := fun h => e (K.inj _ _ h)
    simp only [e, if_false]
    obtain ⟨h1, h2⟩ := h y hy
    exact ⟨by rw [has_del_other hne]; exact h1, fun u hu z => by rw [atKey_del_other hne]; exact h2 u hu z⟩

/-- 'm[k] = v'. -/
theorem MapIs.update [DecidableEq α] {t e : TypeId} (h : MapIs w K b n g) (ht : P.underlying t = some (.map k e)) (hn : n < maxLen) {x : α} (hx : K.ok x) (v : Value) :
    ∃ w', (Instr.mapUpdate t (.map (some b)) (K.val x) v).run P w = .ok () w' ∧ MapIs w' K b (n + 1) (fun y => if y = x then some v else g y) ∧ w.grownBy w' (some b) ∧ w'.heap.size = w.heap.size := by
  obtain ⟨D, h1, h2⟩ := h
  obtain ⟨w', hrun, h3, h4⟩ := h1.store K.law ht hn (K.key x hx) (val := v) (d := .held v) (ps := []) rfl
  refine ⟨w', hrun, ⟨_, h3, h2.put h1.isMap hx v⟩, h4.grown, ?_⟩
  obtain ⟨_, _, _, _, _, rfl⟩ := h4
  simp [setBlock]
/-- 'delete(m, k)'. -/
theorem MapIs.delete [DecidableEq α] {t e : TypeId} (h : MapIs w K b n g) (ht : P.underlying t = some (.map k e)) {x : α} (hx : K.ok x) (ty : TypeId) :
    ∃ w', (Builtin.delete_ #[t, k] ty #[.map (some b), K.val x]).run P w = .ok (.tuple #[]) w' ∧ MapIs w' K b n (fun y => if y = x then none else g y) ∧ w.grownBy w' (some b) ∧ w'.heap.size = w.heap.size := by
  obtain ⟨D, h1, h2⟩ := h
  obtain ⟨w', hrun, h3, h4⟩ := h1.drop K.law ht (K.key x hx) ty
  refine ⟨w', hrun, ⟨_, h3, h2.del⟩, h4.grown, ?_⟩
  obtain ⟨_, _, _, _, _, rfl⟩ := h4
  simp [setBlock]

/-- A loop over the map is under way: left says which keys are still to come, cnt how many. -/
def MapGoes (w : World) {P : Program} {k : TypeId} {α : Type} (K : KeyKind P k α) (b r n : Nat) (g : α → Option Value) (left : α → Bool) (cnt : Nat) : Prop :=
  ∃ (D : DataW Value) (l : Lit → Bool), w.ranges P k rawElem b r n D l cnt ∧ Agrees K D g ∧ ∀ x, K.ok x → l (K.lit x) = left x
theorem MapGoes.is {r : Nat} {left : α → Bool} {cnt : Nat} (h : MapGoes w K b r n g left cnt) : MapIs w K b n g := by
  obtain ⟨D, l, h1, h2, _⟩ := h; exact ⟨D, h1.owns, h2⟩
theorem MapGoes.left_eq {r : Nat} {left : α → Bool} {cnt : Nat} (h : MapGoes w K b r n g left cnt) : w.rangeLeft b r = cnt := by
  obtain ⟨D, l, h1, h2, _⟩ := h; exact h1.left_eq
theorem MapGoes.ne {r : Nat} {left : α → Bool} {cnt : Nat} (h : MapGoes w K b r n g left cnt) : r ≠ b := by
  obtain ⟨D, l, h1, h2, _⟩ := h; exact h1.ne
theorem MapGoes.lt {r : Nat} {left : α → Bool} {cnt : Nat} (h : MapGoes w K b r n g left cnt) : r < w.heap.size := by
  obtain ⟨D, l, h1, h2, _⟩ := h; exact h1.lt
theorem MapGoes.kept {r : Nat} {left : α → Bool} {cnt : Nat} {w' : World} {row : Option Nat} (h : MapGoes w K b r n g left cnt) (hg : w.grownBy w' row) (hb : some b ≠ row) (hr : some r ≠ row) : MapGoes w' K b r n g left cnt := by
  obtain ⟨D, l, h1, h2, h3⟩ := h; exact ⟨D, l, h1.kept hg hb hr, h2, h3⟩
theorem MapGoes.drewN {r : Nat} {left : α → Bool} {cnt : Nat} (h : MapGoes w K b r n g left cnt) (m : Nat) : MapGoes (w.drewN m) K b r n g left cnt := by
  obtain ⟨D, l, h1, h2, h3⟩ := h; exact ⟨D, l, h1, h2, h3⟩

theorem agrees_at {D : DataW Value} (h : Agrees K D g) {x : α} (hx : K.ok x) {c : Value} (hat : ∀ z, D.atKey (K.lit x) z = .held c) : g x = some c := by
  obtain ⟨h1, h2⟩ := h x hx
  rw [has_true_of_atKey hat] at h1
  cases hg : g x with
  | none => rw [hg] at h1; cases h1
  | some u =>
    have := h2 u hg .nil
    rw [hat .nil] at this
    injection this with this; rw [this]

end
section
variable {P : Program} (w : World) {ops : Array Oper} {rest : List Oper} {o : Oper} {a : Act} {Q : Exit → Act → World → Prop} {α : Type}

theorem wpList_mapUpdate_is [DecidableEq α] (hg : o.guard = none) (m x v : Operand) (t : TypeId) (hop : o.op = Op.mapUpdate t m x v)
    (k e : TypeId) (K : KeyKind P k α) (ht : P.underlying t = some (.map k e)) (b n : Nat) (g : α → Option Value)
    (hm : a.eval m = .map (some b)) (hown : MapIs w K b n g) (hn : n < maxLen) (key : α) (val : Value) (hx : a.eval x = K.val key) (hv : a.eval v = val) (hkey : K.ok key)
    (hK : ∀ w', MapIs w' K b (n + 1) (fun y => if y = key then some val else g y) → w.grownBy w' (some b) → w'.heap.size = w.heap.size → wpList P ops Q rest (a.put o.dst undef) w') :
    wpList P ops Q (o :: rest) a w := by
  refine wpList_plain hg fun K' hK' => ?_
  obtain ⟨w', hrun, r1, r2, r3⟩ := hown.update ht hn hkey val
  unfold Oper.wp
  simp [execOp, hop, hm, hx, hv, hrun, Result.andThen]
  exact hK' _ _ (hK w' r1 r2 r3)

theorem wpList_delete_is [DecidableEq α] (hg : o.guard = none) (m x : Operand) (t k : TypeId) (hop : o.op = Op.call { callee := Callee.builtin Builtin.delete, args := #[m, x], argTypes := #[t, k] })
    (e : TypeId) (K : KeyKind P k α) (ht : P.underlying t = some (.map k e)) (b n : Nat) (g : α → Option Value)
    (hm : a.eval m = .map (some b)) (hown : MapIs w K b n g) (key : α) (hx : a.eval x = K.val key) (hkey : K.ok key)
    (hK : ∀ w', MapIs w' K b n (fun y => if y = key then none else g y) → w.grownBy w' (some b) → w'.heap.size = w.heap.size → wpList P ops Q rest (a.put o.dst (.tuple #[])) w') :
    wpList P ops Q (o :: rest) a w := by
  refine wpList_plain hg fun K' hK' => ?_
  obtain ⟨w', hrun, r1, r2, r3⟩ := hown.delete ht hkey o.type
  unfold Oper.wp
  simp [execOp, hop, resolve, invoke, builtin, hm, hx, hrun, Result.andThen]
  exact hK' _ _ (hK w' r1 r2 r3)

theorem wpList_lookup_is (hg : o.guard = none) (m x : Operand) (t : TypeId) (hop : o.op = Op.lookup t m x false)
    (k e : TypeId) (K : KeyKind P k α) (ht : P.underlying t = some (.map k e)) {z : Value} (hz : (zeroValue e).run P w = .ok z w) (b n : Nat) (g : α → Option Value)
    (hm : a.eval m = .map (some b)) (hown : MapIs w K b n g) (key : α) (hx : a.eval x = K.val key) (hkey : K.ok key) (v : Value) (hv : (g key).getD z = v)
    (hK : wpList P ops Q rest (a.put o.dst v) w) : wpList P ops Q (o :: rest) a w := by
  refine wpList_plain hg fun K' hK' => ?_
  have hrun := hown.lookup ht hz hkey
  rw [hv] at hrun
  unfold Oper.wp
  simp [execOp, hop, hm, hx, hrun, Result.andThen]
  exact hK' _ _ hK

theorem wpList_range_is (hg : o.guard = none) (m : Operand) (t : TypeId) (hop : o.op = Op.range t m) (k e : TypeId) (K : KeyKind P k α) (ht : P.underlying t = some (.map k e)) (b n : Nat) (g : α → Option Value)
    (hm : a.eval m = .map (some b)) (hown : MapIs w K b n g)
    (hK : ∀ w' cnt, MapGoes w' K b w.heap.size n g (fun x => (g x).isSome) cnt → w.grownBy w' none → w'.heap.size = w.heap.size + 1 → wpList P ops Q rest (a.put o.dst (.pointer (some ⟨w.heap.size, 0, none⟩))) w') :
    wpList P ops Q (o :: rest) a w := by
  obtain ⟨D, h1, h2⟩ := hown
  exact wpList_range_own w hg m t hop k e K.law ht rawElem b n D hm h1 fun w' r1 r2 r3 => hK w' _ ⟨D, _, r1, h2, fun x hx => (h2 x hx).1⟩ r2 r3

theorem wpList_next_is [DecidableEq α] (hg : o.guard = none) (it : Operand) (hop : o.op = Op.next it false) (k : TypeId) (K : KeyKind P k α) (b r n : Nat) (g : α → Option Value) (left : α → Bool) (cnt : Nat)
    (hit : a.eval it = .pointer (some ⟨r, 0, none⟩)) (h : MapGoes w K b r n g left cnt)
    (hDone : (∀ x, K.ok x → left x = false) → wpList P ops Q rest (a.put o.dst (.tuple #[.bool false])) w)
    (hMore : ∀ (x : α) (c : Value) (w' : World) (cnt' : Nat), K.ok x → left x = true → g x = some c → MapGoes w' K b r n g (fun y => left y && !decide (y = x)) cnt' → cnt' < cnt →
      w.grownBy w' (some r) → w'.heap.size = w.heap.size → (Instr.entry (.pointer (some ⟨r, 0, none⟩))).run P w' = .ok (.tuple #[K.val x, c]) w' → wpList P ops Q rest (a.put o.dst (.tuple #[.bool true, K.val x, c])) w') :
    wpList P ops Q (o :: rest) a w := by
  obtain ⟨D, l, h1, h2, h3⟩ := h
  refine wpList_next_ranges w hg it hop k K.law rawElem K.val (id : Value → Value) (fun key kl hkey => by obtain ⟨x, _, rfl, _⟩ := K.inv key kl hkey; exact ⟨x, rfl⟩) (fun v y _ => ⟨v, rfl⟩)
    b r n D l cnt hit h1 (fun _ hl => hDone fun x hx => by rw [← h3 x hx]; exact hl _) (fun x c kl y w' cnt' hkey hlk hv hat hrg hlt hgr hsz hen => ?_)
  obtain ⟨x', hok, hmk, rfl⟩ := K.inv _ _ hkey
  have hkx := K.key x' hok
  simp only [rawElem, Option.some.injEq] at hv
  subst hv
  rw [hmk] at hen ⊢
  refine hMore x' c w' cnt' hok (by rw [← h3 x' hok]; exact hlk) (agrees_at h2 hok hat) ⟨D, _, hrg, h2, fun u hu => ?_⟩ hlt hgr hsz hen
  rw [h3 u hu]
  congr 2
  by_cases e : u = x'
  · subst e; simp [WideAt.sameKey_self (K.law.key hkx)]
  · have : (K.lit u).sameKey (K.lit x') = false := Maps.sameKey_ne (fun h => e (K.inj _ _ h))
    rw [this]; simp [e]
end
end Go.Proofs.Yteopfknoemifgaa
