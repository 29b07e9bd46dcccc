/- Parts Map, X10 of this seat (pruned, scripts that are alike kept once as default arguments: q1, q2, ..). Conditions: each says its own. -/
import Derived.Maps.OwnSet
import Derived.Maps.OwnOps
import Derived.Maps.RangeWalk
import Derived.Test.YtndhpdclpgemfaaGreatY1
import Derived.Test.YtndhpdclpgemfaaGreatY6
import Derived.Test.YtndhpdclpgemfaaGreatY20
namespace Go.Proofs.YtndhpdclpgemfaaGreat
open Go.RowKit Go.ChangeMaps Go.Maps
structure KeyKind (P : Program) (k : TypeId) (α : Type) where
  val : α → Value
  lit : α → Lit
  ok : α → Prop
  law : Keyed P k
  key : ∀ x, ok x → keyOf P k (val x) = some (lit x)
  inj : ∀ x y, lit x = lit y → x = y
  inv : ∀ v kl, keyOf P k v = some kl → ∃ x, ok x ∧ v = val x ∧ kl = lit x
def rawElem (v : Value) : Option (DataW Value × List MemPlace) := some (.held v, [])
def Agrees {P : Program} {k : TypeId} {α : Type} (K : KeyKind P k α) (D : DataW Value) (g : α → Option Value) : Prop :=
  ∀ x, K.ok x → Maps.has D (K.lit x) = (g x).isSome ∧ ∀ v, g x = some v → ∀ z, D.atKey (K.lit x) z = .held v
def MapIs (w : World) {P : Program} {k : TypeId} {α : Type} (K : KeyKind P k α) (b n : Nat) (g : α → Option Value) : Prop :=
  ∃ D : DataW Value, w.ownsMap P k rawElem b n D ∧ Agrees K D g
section
variable {P : Program} {k : TypeId} {α : Type} {K : KeyKind P k α} {w : World} {b n : Nat} {g : α → Option Value}
theorem MapIs.lt (h : MapIs w K b n g) : b < w.heap.size := by obtain ⟨D, h1, _⟩ := h; exact h1.lt
theorem MapIs.of_heap {w' : World} (h : MapIs w K b n g) (hh : w'.heap[b]? = w.heap[b]?) : MapIs w' K b n g := by
 obtain ⟨D, ⟨es, clock, hb, r⟩, h2⟩ := h
 exact ⟨D, ⟨es, clock, hh.trans hb, r⟩, h2⟩
theorem MapIs.mono {n' : Nat} (h : MapIs w K b n g) (hn : n ≤ n') : MapIs w K b n' g := by obtain ⟨D, h1, h2⟩ := h; exact ⟨D, h1.mono hn, h2⟩
theorem MapIs.congr {g' : α → Option Value} (h : MapIs w K b n g) (hg : ∀ x, K.ok x → g' x = g x) : MapIs w K b n g' := by
 obtain ⟨D, h1, h2⟩ := h
 exact ⟨D, h1, fun x hx => by rw [hg x hx]; exact h2 x hx⟩
theorem MapIs.made (w : World) (K : KeyKind P k α) : MapIs (w.alloc (.map #[] 0)) K w.heap.size 0 (fun _ => none) :=
  ⟨.map [], World.ownsMap_made w P k rawElem, fun x _ => ⟨rfl, fun v h => by cases h⟩⟩
theorem MapIs.lookup {t e : TypeId} (h : MapIs w K b n g) (ht : P.underlying t = some (.map k e)) {z : Value} (hz : (zeroValue e).run P w = .ok z w) {x : α} (hx : K.ok x) :
    (Instr.lookup t (.map (some b)) (K.val x) false).run P w = .ok ((g x).getD z) w := by
 obtain ⟨D, h1, h2⟩ := h
 obtain ⟨v, ps, hrun, hv⟩ := h1.lookup K.law ht hz (zd := .held z) (zp := []) rfl (K.key x hx)
 obtain ⟨h3, h4⟩ := h2 x hx
 simp only [rawElem, Option.some.injEq, Prod.mk.injEq] at hv
 rw [hrun]
 cases hg : g x with
 | none =>
  rw [hg] at h3
  rw [Maps.atKey_of_not_has h3] at hv
  injection hv.1 with hv1; rw [hv1]; rfl
 | some u =>
  rw [h4 u hg] at hv
  injection hv.1 with hv1; rw [hv1]; rfl
theorem Agrees.put {D : DataW Value} (hD : IsMap D) (h : Agrees K D g) [DecidableEq α] {x : α} (hx : K.ok x) (v : Value) : Agrees K (D.put (K.lit x) (.held v)) (fun y => if y = x then some v else g y) := by
 have hkl : WideAt.IsKeyLit (K.lit x) := K.law.key (K.key x hx)
 intro y hy
 by_cases e : y = x
 ·subst e
  refine ⟨by rw [has_put_same hD hkl]; simp, fun u hu z => ?_⟩
  simp at hu; subst hu
  exact atKey_put_same hD hkl _ z
 ·have hne : K.lit y ≠ K.lit x := fun h => e (K.inj _ _ h)
  simp only [e, if_false]
  obtain ⟨h1, h2⟩ := h y hy
  exact ⟨by rw [has_put_other hne]; exact h1, fun u hu z => by rw [atKey_put_other hne]; exact h2 u hu z⟩
theorem MapIs.update [DecidableEq α] {t e : TypeId} (h : MapIs w K b n g) (ht : P.underlying t = some (.map k e)) (hn : n < maxLen) {x : α} (hx : K.ok x) (v : Value) :
    ∃ w', (Instr.mapUpdate t (.map (some b)) (K.val x) v).run P w = .ok () w' ∧ MapIs w' K b (n + 1) (fun y => if y = x then some v else g y) ∧ w.grownBy w' (some b) ∧ w'.heap.size = w.heap.size := by
 obtain ⟨D, h1, h2⟩ := h
 obtain ⟨w', hrun, h3, h4⟩ := h1.store K.law ht hn (K.key x hx) (val := v) (d := .held v) (ps := []) rfl
 refine ⟨w', hrun, ⟨_, h3, h2.put h1.isMap hx v⟩, h4.grown, ?_⟩
 obtain ⟨_, _, _, _, _, rfl⟩ := h4
 simp [setBlock]
def MapGoes (w : World) {P : Program} {k : TypeId} {α : Type} (K : KeyKind P k α) (b r n : Nat) (g : α → Option Value) (left : α → Bool) (cnt : Nat) : Prop :=
  ∃ (D : DataW Value) (l : Lit → Bool), w.ranges P k rawElem b r n D l cnt ∧ Agrees K D g ∧ ∀ x, K.ok x → l (K.lit x) = left x
theorem MapGoes.is {r : Nat} {left : α → Bool} {cnt : Nat} (h : MapGoes w K b r n g left cnt) : MapIs w K b n g := by
 obtain ⟨D, l, h1, h2, _⟩ := h; exact ⟨D, h1.owns, h2⟩
theorem MapGoes.ne {r : Nat} {left : α → Bool} {cnt : Nat} (h : MapGoes w K b r n g left cnt) : r ≠ b := by
 obtain ⟨D, l, h1, h2, _⟩ := h; exact h1.ne
theorem MapGoes.lt {r : Nat} {left : α → Bool} {cnt : Nat} (h : MapGoes w K b r n g left cnt) : r < w.heap.size := by
 obtain ⟨D, l, h1, h2, _⟩ := h; exact h1.lt
theorem MapGoes.kept {r : Nat} {left : α → Bool} {cnt : Nat} {w' : World} {row : Option Nat} (h : MapGoes w K b r n g left cnt) (hg : w.grownBy w' row) (hb : some b ≠ row) (hr : some r ≠ row) : MapGoes w' K b r n g left cnt := by
 obtain ⟨D, l, h1, h2, h3⟩ := h; exact ⟨D, l, h1.kept hg hb hr, h2, h3⟩
theorem MapGoes.drewN {r : Nat} {left : α → Bool} {cnt : Nat} (h : MapGoes w K b r n g left cnt) (m : Nat) : MapGoes (w.drewN m) K b r n g left cnt := by
 obtain ⟨D, l, h1, h2, h3⟩ := h; exact ⟨D, l, h1, h2, h3⟩
end
section
variable {P : Program} (w : World) {ops : Array Oper} {rest : List Oper} {o : Oper} {a : Act} {Q : Exit → Act → World → Prop} {α : Type}
end
end Go.Proofs.YtndhpdclpgemfaaGreat
namespace Go.Proofs.YtndhpdclpgemfaaGreat
open Go.RowKit Go.ChangeMaps Go.Maps
set_option linter.unusedSimpArgs false
set_option linter.unusedVariables false
set_option maxRecDepth 100000
noncomputable def strKind {P : Program} {k : TypeId} (hk : P.underlying k = some .string) : KeyKind P k ByteArray where
  val := .string
  lit s := .string s.data.toList
  ok s := s.size ≤ maxLen
  law := string_keyed hk
  key _ h := WideMaps.keyOf_string_mk hk h
  inj x y h := by
    injection h with h
    cases x; cases y
    simp only [Array.toList_inj] at h
    rw [h]
  inv v kl h := by
    obtain ⟨s, h1, h2, h3⟩ := WideMaps.string_of_keyOf hk h
    exact ⟨s, h3, h1, h2⟩
noncomputable def KS : KeyKind Tryz.prog 9 ByteArray := strKind (by kernel_rfl)
theorem Tryz.mapSI : Tryz.prog.underlying 183 = some (.map 9 3) := by kernel_rfl
theorem ba_ext {s : ByteArray} {l : List UInt8} : (s.toList == l) = decide (s = ⟨l.toArray⟩) := by
 by_cases h : s = ⟨l.toArray⟩
 ·subst h
  rw [toList_data]
  simp
 ·rw [decide_eq_false h]
  simp only [beq_eq_false_iff_ne, ne_eq]
  intro h2
  apply h
  rw [toList_data] at h2
  cases s with
  | mk d => simp at h2; subst h2; simp
def levG0 : ByteArray → Option Value := fun _ => none
def levG1 : ByteArray → Option Value := fun y => if y = ⟨#[79, 82]⟩ then some (.int .i64 1) else levG0 y
def levG2 : ByteArray → Option Value := fun y => if y = ⟨#[88, 79, 82]⟩ then some (.int .i64 2) else levG1 y
def levG3 : ByteArray → Option Value := fun y => if y = ⟨#[65, 78, 68]⟩ then some (.int .i64 3) else levG2 y
def levG4 : ByteArray → Option Value := fun y => if y = ⟨#[61]⟩ then some (.int .i64 5) else levG3 y
def levG5 : ByteArray → Option Value := fun y => if y = ⟨#[60, 62]⟩ then some (.int .i64 5) else levG4 y
def levG6 : ByteArray → Option Value := fun y => if y = ⟨#[60]⟩ then some (.int .i64 5) else levG5 y
def levG7 : ByteArray → Option Value := fun y => if y = ⟨#[60, 61]⟩ then some (.int .i64 5) else levG6 y
def levG8 : ByteArray → Option Value := fun y => if y = ⟨#[62]⟩ then some (.int .i64 5) else levG7 y
def levG9 : ByteArray → Option Value := fun y => if y = ⟨#[62, 61]⟩ then some (.int .i64 5) else levG8 y
def levG10 : ByteArray → Option Value := fun y => if y = ⟨#[73, 78]⟩ then some (.int .i64 5) else levG9 y
def levG11 : ByteArray → Option Value := fun y => if y = ⟨#[43]⟩ then some (.int .i64 6) else levG10 y
def levG12 : ByteArray → Option Value := fun y => if y = ⟨#[45]⟩ then some (.int .i64 6) else levG11 y
def levG13 : ByteArray → Option Value := fun y => if y = ⟨#[42]⟩ then some (.int .i64 7) else levG12 y
def levG14 : ByteArray → Option Value := fun y => if y = ⟨#[47]⟩ then some (.int .i64 7) else levG13 y
def levG15 : ByteArray → Option Value := fun y => if y = ⟨#[37]⟩ then some (.int .i64 7) else levG14 y
theorem levG_is (s : ByteArray) : (levG15 s).getD (.int .i64 0) = .int .i64 (levelB s) := by
 unfold levelB
 simp only [ba_ext, decide_eq_true_eq, levG0, levG1, levG2, levG3, levG4, levG5, levG6, levG7, levG8, levG9, levG10, levG11, levG12, levG13, levG14, levG15]
 by_cases h0 : s = ⟨#[79, 82]⟩
 ·rw [h0]; rfl
 by_cases h1 : s = ⟨#[88, 79, 82]⟩
 ·rw [h1]; rfl
 by_cases h2 : s = ⟨#[65, 78, 68]⟩
 ·rw [h2]; rfl
 by_cases h3 : s = ⟨#[61]⟩
 ·rw [h3]; rfl
 by_cases h4 : s = ⟨#[60, 62]⟩
 ·rw [h4]; rfl
 by_cases h5 : s = ⟨#[60]⟩
 ·rw [h5]; rfl
 by_cases h6 : s = ⟨#[60, 61]⟩
 ·rw [h6]; rfl
 by_cases h7 : s = ⟨#[62]⟩
 ·rw [h7]; rfl
 by_cases h8 : s = ⟨#[62, 61]⟩
 ·rw [h8]; rfl
 by_cases h9 : s = ⟨#[73, 78]⟩
 ·rw [h9]; rfl
 by_cases h10 : s = ⟨#[43]⟩
 ·rw [h10]; rfl
 by_cases h11 : s = ⟨#[45]⟩
 ·rw [h11]; rfl
 by_cases h12 : s = ⟨#[42]⟩
 ·rw [h12]; rfl
 by_cases h13 : s = ⟨#[47]⟩
 ·rw [h13]; rfl
 by_cases h14 : s = ⟨#[37]⟩
 ·rw [h14]; rfl
 simp only [h0, h1, h2, h3, h4, h5, h6, h7, h8, h9, h10, h11, h12, h13, h14, if_false, ↓reduceIte, Option.getD]
set_option maxHeartbeats 8000000 in
theorem slevel_any (s : ByteArray) (w : World) (hs : s.size ≤ 1099511627776) : Calls Tryz.prog 121 #[.string s] w fun e w' => e = .returned (.int .i64 (levelB s)) ∧ Below w.heap.size w w' := by
 have hmm := @run_makeMap Tryz.prog
 obtain ⟨W0, hW0⟩ := nam (w.alloc (.map #[] 0))
 obtain ⟨mb, hmb⟩ := nam w.heap.size
 have m0 : MapIs W0 KS mb 0 levG0 := by rw [← hW0, ← hmb]; exact MapIs.made w KS
 have hb0 : Below w.heap.size w W0 := by rw [← hW0]; exact (Below.refl _ _).alloc (Nat.le_refl _) _
 obtain ⟨W1, r1, m1, g1, z1⟩ := m0.update Tryz.mapSI (by unfold maxLen; omega) (x := ⟨#[79, 82]⟩) (show ByteArray.size _ ≤ maxLen by unfold maxLen; decide) (.int .i64 1)
 replace m1 : MapIs W1 KS mb 1 levG1 := m1
 replace r1 : (Instr.mapUpdate 183 (.map (some mb)) (.string ⟨#[79, 82]⟩) (.int .i64 1)).run Tryz.prog W0 = .ok () W1 := r1
 have hb1 := hb0.grown g1 (by have := hb0.size; omega) (fun k hk => by rw [← Option.some.inj hk, ← hmb]; exact Nat.le_refl _)
 obtain ⟨W2, r2, m2, g2, z2⟩ := m1.update Tryz.mapSI (by unfold maxLen; omega) (x := ⟨#[88, 79, 82]⟩) (show ByteArray.size _ ≤ maxLen by unfold maxLen; decide) (.int .i64 2)
 replace m2 : MapIs W2 KS mb 2 levG2 := m2
 replace r2 : (Instr.mapUpdate 183 (.map (some mb)) (.string ⟨#[88, 79, 82]⟩) (.int .i64 2)).run Tryz.prog W1 = .ok () W2 := r2
 have hb2 := hb1.grown g2 (by have := hb1.size; omega) (fun k hk => by rw [← Option.some.inj hk, ← hmb]; exact Nat.le_refl _)
 obtain ⟨W3, r3, m3, g3, z3⟩ := m2.update Tryz.mapSI (by unfold maxLen; omega) (x := ⟨#[65, 78, 68]⟩) (show ByteArray.size _ ≤ maxLen by unfold maxLen; decide) (.int .i64 3)
 replace m3 : MapIs W3 KS mb 3 levG3 := m3
 replace r3 : (Instr.mapUpdate 183 (.map (some mb)) (.string ⟨#[65, 78, 68]⟩) (.int .i64 3)).run Tryz.prog W2 = .ok () W3 := r3
 have hb3 := hb2.grown g3 (by have := hb2.size; omega) (fun k hk => by rw [← Option.some.inj hk, ← hmb]; exact Nat.le_refl _)
 obtain ⟨W4, r4, m4, g4, z4⟩ := m3.update Tryz.mapSI (by unfold maxLen; omega) (x := ⟨#[61]⟩) (show ByteArray.size _ ≤ maxLen by unfold maxLen; decide) (.int .i64 5)
 replace m4 : MapIs W4 KS mb 4 levG4 := m4
 replace r4 : (Instr.mapUpdate 183 (.map (some mb)) (.string ⟨#[61]⟩) (.int .i64 5)).run Tryz.prog W3 = .ok () W4 := r4
 have hb4 := hb3.grown g4 (by have := hb3.size; omega) (fun k hk => by rw [← Option.some.inj hk, ← hmb]; exact Nat.le_refl _)
 obtain ⟨W5, r5, m5, g5, z5⟩ := m4.update Tryz.mapSI (by unfold maxLen; omega) (x := ⟨#[60, 62]⟩) (show ByteArray.size _ ≤ maxLen by unfold maxLen; decide) (.int .i64 5)
 replace m5 : MapIs W5 KS mb 5 levG5 := m5
 replace r5 : (Instr.mapUpdate 183 (.map (some mb)) (.string ⟨#[60, 62]⟩) (.int .i64 5)).run Tryz.prog W4 = .ok () W5 := r5
 have hb5 := hb4.grown g5 (by have := hb4.size; omega) (fun k hk => by rw [← Option.some.inj hk, ← hmb]; exact Nat.le_refl _)
 obtain ⟨W6, r6, m6, g6, z6⟩ := m5.update Tryz.mapSI (by unfold maxLen; omega) (x := ⟨#[60]⟩) (show ByteArray.size _ ≤ maxLen by unfold maxLen; decide) (.int .i64 5)
 replace m6 : MapIs W6 KS mb 6 levG6 := m6
 replace r6 : (Instr.mapUpdate 183 (.map (some mb)) (.string ⟨#[60]⟩) (.int .i64 5)).run Tryz.prog W5 = .ok () W6 := r6
 have hb6 := hb5.grown g6 (by have := hb5.size; omega) (fun k hk => by rw [← Option.some.inj hk, ← hmb]; exact Nat.le_refl _)
 obtain ⟨W7, r7, m7, g7, z7⟩ := m6.update Tryz.mapSI (by unfold maxLen; omega) (x := ⟨#[60, 61]⟩) (show ByteArray.size _ ≤ maxLen by unfold maxLen; decide) (.int .i64 5)
 replace m7 : MapIs W7 KS mb 7 levG7 := m7
 replace r7 : (Instr.mapUpdate 183 (.map (some mb)) (.string ⟨#[60, 61]⟩) (.int .i64 5)).run Tryz.prog W6 = .ok () W7 := r7
 have hb7 := hb6.grown g7 (by have := hb6.size; omega) (fun k hk => by rw [← Option.some.inj hk, ← hmb]; exact Nat.le_refl _)
 obtain ⟨W8, r8, m8, g8, z8⟩ := m7.update Tryz.mapSI (by unfold maxLen; omega) (x := ⟨#[62]⟩) (show ByteArray.size _ ≤ maxLen by unfold maxLen; decide) (.int .i64 5)
 replace m8 : MapIs W8 KS mb 8 levG8 := m8
 replace r8 : (Instr.mapUpdate 183 (.map (some mb)) (.string ⟨#[62]⟩) (.int .i64 5)).run Tryz.prog W7 = .ok () W8 := r8
 have hb8 := hb7.grown g8 (by have := hb7.size; omega) (fun k hk => by rw [← Option.some.inj hk, ← hmb]; exact Nat.le_refl _)
 obtain ⟨W9, r9, m9, g9, z9⟩ := m8.update Tryz.mapSI (by unfold maxLen; omega) (x := ⟨#[62, 61]⟩) (show ByteArray.size _ ≤ maxLen by unfold maxLen; decide) (.int .i64 5)
 replace m9 : MapIs W9 KS mb 9 levG9 := m9
 replace r9 : (Instr.mapUpdate 183 (.map (some mb)) (.string ⟨#[62, 61]⟩) (.int .i64 5)).run Tryz.prog W8 = .ok () W9 := r9
 have hb9 := hb8.grown g9 (by have := hb8.size; omega) (fun k hk => by rw [← Option.some.inj hk, ← hmb]; exact Nat.le_refl _)
 obtain ⟨W10, r10, m10, g10, z10⟩ := m9.update Tryz.mapSI (by unfold maxLen; omega) (x := ⟨#[73, 78]⟩) (show ByteArray.size _ ≤ maxLen by unfold maxLen; decide) (.int .i64 5)
 replace m10 : MapIs W10 KS mb 10 levG10 := m10
 replace r10 : (Instr.mapUpdate 183 (.map (some mb)) (.string ⟨#[73, 78]⟩) (.int .i64 5)).run Tryz.prog W9 = .ok () W10 := r10
 have hb10 := hb9.grown g10 (by have := hb9.size; omega) (fun k hk => by rw [← Option.some.inj hk, ← hmb]; exact Nat.le_refl _)
 obtain ⟨W11, r11, m11, g11, z11⟩ := m10.update Tryz.mapSI (by unfold maxLen; omega) (x := ⟨#[43]⟩) (show ByteArray.size _ ≤ maxLen by unfold maxLen; decide) (.int .i64 6)
 replace m11 : MapIs W11 KS mb 11 levG11 := m11
 replace r11 : (Instr.mapUpdate 183 (.map (some mb)) (.string ⟨#[43]⟩) (.int .i64 6)).run Tryz.prog W10 = .ok () W11 := r11
 have hb11 := hb10.grown g11 (by have := hb10.size; omega) (fun k hk => by rw [← Option.some.inj hk, ← hmb]; exact Nat.le_refl _)
 obtain ⟨W12, r12, m12, g12, z12⟩ := m11.update Tryz.mapSI (by unfold maxLen; omega) (x := ⟨#[45]⟩) (show ByteArray.size _ ≤ maxLen by unfold maxLen; decide) (.int .i64 6)
 replace m12 : MapIs W12 KS mb 12 levG12 := m12
 replace r12 : (Instr.mapUpdate 183 (.map (some mb)) (.string ⟨#[45]⟩) (.int .i64 6)).run Tryz.prog W11 = .ok () W12 := r12
 have hb12 := hb11.grown g12 (by have := hb11.size; omega) (fun k hk => by rw [← Option.some.inj hk, ← hmb]; exact Nat.le_refl _)
 obtain ⟨W13, r13, m13, g13, z13⟩ := m12.update Tryz.mapSI (by unfold maxLen; omega) (x := ⟨#[42]⟩) (show ByteArray.size _ ≤ maxLen by unfold maxLen; decide) (.int .i64 7)
 replace m13 : MapIs W13 KS mb 13 levG13 := m13
 replace r13 : (Instr.mapUpdate 183 (.map (some mb)) (.string ⟨#[42]⟩) (.int .i64 7)).run Tryz.prog W12 = .ok () W13 := r13
 have hb13 := hb12.grown g13 (by have := hb12.size; omega) (fun k hk => by rw [← Option.some.inj hk, ← hmb]; exact Nat.le_refl _)
 obtain ⟨W14, r14, m14, g14, z14⟩ := m13.update Tryz.mapSI (by unfold maxLen; omega) (x := ⟨#[47]⟩) (show ByteArray.size _ ≤ maxLen by unfold maxLen; decide) (.int .i64 7)
 replace m14 : MapIs W14 KS mb 14 levG14 := m14
 replace r14 : (Instr.mapUpdate 183 (.map (some mb)) (.string ⟨#[47]⟩) (.int .i64 7)).run Tryz.prog W13 = .ok () W14 := r14
 have hb14 := hb13.grown g14 (by have := hb13.size; omega) (fun k hk => by rw [← Option.some.inj hk, ← hmb]; exact Nat.le_refl _)
 obtain ⟨W15, r15, m15, g15, z15⟩ := m14.update Tryz.mapSI (by unfold maxLen; omega) (x := ⟨#[37]⟩) (show ByteArray.size _ ≤ maxLen by unfold maxLen; decide) (.int .i64 7)
 replace m15 : MapIs W15 KS mb 15 levG15 := m15
 replace r15 : (Instr.mapUpdate 183 (.map (some mb)) (.string ⟨#[37]⟩) (.int .i64 7)).run Tryz.prog W14 = .ok () W15 := r15
 have hb15 := hb14.grown g15 (by have := hb14.size; omega) (fun k hk => by rw [← Option.some.inj hk, ← hmb]; exact Nat.le_refl _)
 have hz : (zeroValue 3).run Tryz.prog W15 = .ok (.int .i64 0) W15 := by kernel_rfl
 have hl := m15.lookup Tryz.mapSI hz (x := s) (show s.size ≤ maxLen by unfold maxLen; omega)
 rw [levG_is s] at hl
 replace hl : (Instr.lookup 183 (.map (some mb)) (.string s) false).run Tryz.prog W15 = .ok (.int .i64 (levelB s)) W15 := hl
 rw [← hW0] at r1
 have HB := Lib.hid hb15
 clear m0 hW0 m1 g1 z1 hb1 m2 g2 z2 hb2 m3 g3 z3 hb3 m4 g4 z4 hb4 m5 g5 z5 hb5 m6 g6 z6 hb6 m7 g7 z7 hb7 m8 g8 z8 hb8 m9 g9 z9 hb9 m10 g10 z10 hb10 m11 g11 z11 hb11 m12 g12 z12 hb12 m13 g13 z13 hb13 m14 g14 z14 hb14 m15 g15 z15 hb15 hb0 hz hs
 go_enter Tryz.func121, Tryz.ntmps121
 go_wp2_with fail
 go_ret
 exact ⟨by rfl, HB.out⟩
set_option maxHeartbeats 4000000 in
theorem sagg_any (s : ByteArray) (w : World) : Calls Tryz.prog 122 #[.string s] w fun e w' => e = .returned (.bool (aggB s)) ∧ w = w' := Sq28
theorem keyB_nil {s : ByteArray} {c : Bool} (h : (s.toList == []) = c) (n : Nat) (hn : s.size = n) : keyB s = (!c && decide (n ≤ 64)) := by
 rw [ba_ext] at h
 unfold keyB
 rw [hn, ← h]
 by_cases h0 : s = ⟨#[]⟩
 ·subst h0
  have : n = 0 := hn.symm
  subst this
  rfl
 ·have : 1 ≤ n := by
   rcases Nat.eq_zero_or_pos n with h1 | h1
   ·exact absurd (ByteArray.size_eq_zero_iff.1 (hn.trans h1)) h0
   ·exact h1
  rw [decide_eq_true this]
  have h1 : decide (s = ⟨[].toArray⟩) = false := decide_eq_false h0
  rw [h1]; rfl
set_option maxHeartbeats 4000000 in
theorem skeyB_any (s : ByteArray) (w : World) (hs : s.size ≤ 1099511627776) : Calls Tryz.prog 84 #[.string s] w fun e w' => e = .returned (.bool (keyB s)) ∧ w = w' := by
 obtain ⟨n, hn⟩ := nam s.size
 obtain ⟨c, hc⟩ := nam ((s.toList == []))
 rw [keyB_nil hc n hn]
 have HN := Lib.hid hn
 rw [hn] at hs
 obtain ⟨q, hq⟩ := nam (decide (n ≤ 64))
 have hq2 : decide ((n : Int) ≤ 64) = q := by rw [← hq]; congr 1; simp; omega
 rw [hq]
 clear hq
 cases c <;> cases q <;>
 ·go_enter Tryz.func84, Tryz.ntmps84
  go_wp2_with fail
  go_ret
  exact ⟨by rfl, rfl⟩
set_option maxHeartbeats 4000000 in
theorem sclose_any (t : Ex) (op : Int) (nm : ByteArray) (v : Vt) (ns : List ByteArray) (az : List Ex) (ht : t = .mk op nm v ns az) (cs : List Value) (B : Nat) (w : World) (hX : IsX B w cs t) (hs : nm.size ≤ 1099511627776) : Calls Tryz.prog 178 #[.agg cs.toArray] w fun e w' => e = .returned (.int .i64 (closeB op nm)) ∧ Below w.heap.size w w' := by
 have z12a := trivial
 exact Sq12
end Go.Proofs.YtndhpdclpgemfaaGreat
