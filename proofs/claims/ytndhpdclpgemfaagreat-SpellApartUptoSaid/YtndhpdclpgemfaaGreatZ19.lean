/- Parts X6, X8, X9, X10 of this seat (pruned, scripts that are alike kept once as default arguments: q1, q2, ..). Conditions: each says its own. -/
import Derived.Test.YtndhpdclpgemfaaGreatZ18
namespace Go.Proofs.YtndhpdclpgemfaaGreat
open Go.RowKit
set_option linter.unusedSimpArgs false
set_option linter.unusedVariables false
set_option maxRecDepth 100000
def litB : Vt → Bool
  | .mk k b i s l ks => mayB (.mk k b i s l ks) && ((k == 0) || ((k == 1) || (((k == 2) && decide (0 ≤ i)) || (k == 3))))
def opX : Ex → Int
  | .mk op _ _ _ _ => op
def firstOp (l : List Ex) : Int := match l with
  | [] => 0
  | t :: _ => opX t
def namedB : Ex → Bool
  | .mk op nm v ns az =>
    if op = 1 then (nm.toList == []) && (((az.length : Int) == 0) && litB v)
    else if op = 2 then ((az.length : Int) == 0) && plainB nm
    else if op = 3 then ((az.length : Int) == 0) && plainB nm
    else if op = 4 then ((az.length : Int) == 1) && keyB nm
    else if op = 15 then ((az.length : Int) == 1) && (keyB nm && (firstOp az == 2))
    else if op = 5 then (nm.toList == [])
    else if op = 6 then ns.all keyB && ((nm.toList == []) && ((az.length : Int) == ns.length))
    else if op = 7 then (nm.toList == []) && ((az.length : Int) == 2)
    else if op = 8 then (nm.toList == []) && ((az.length : Int) == 1)
    else if op = 9 then (nm.toList == []) && ((az.length : Int) == 1)
    else if op = 11 then (nm.toList == []) && ((az.length : Int) == 1)
    else if op = 12 then (nm.toList == []) && ((az.length : Int) == 1)
    else if op = 10 then ((az.length : Int) == 2) && decide (0 < levelB nm)
    else if op = 13 then plainB nm && !aggB nm
    else if op = 14 then (((az.length : Int) == 1) && aggB nm) || (((az.length : Int) == 0) && (nm.toList == [99, 111, 117, 110, 116]))
    else false
theorem Ext.start (B : Nat) (w : World) : ∃ u : Ext B w, w = u.w := ⟨⟨w, Below.refl _ _⟩, rfl⟩
theorem box_ext (w : World) (cs : List Value) (ty : TypeId) : ∃ (W0 : World) (u0 : Ext (w.heap.size + 1) W0), w.alloc (.cells cs.toArray ty) = W0 ∧ W0 = u0.w ∧ w.heap.size + 1 ≤ W0.heap.size ∧
    (∀ u : Ext (w.heap.size + 1) W0, Below w.heap.size w u.w) ∧ (∀ (u : Ext (w.heap.size + 1) W0) (i : Nat) v, cs[i]? = some v → u.w.cell? ⟨w.heap.size, i, none⟩ = some v) := by
 obtain ⟨W0, hW0⟩ := nam (w.alloc (.cells cs.toArray ty))
 obtain ⟨u0, hu0⟩ := Ext.start (w.heap.size + 1) W0
 have hbx : Block W0 w.heap.size cs ty := by rw [← hW0]; exact Block.new w _ _
 have hb0 : Below w.heap.size w W0 := by rw [← hW0]; exact (Below.refl _ _).alloc (Nat.le_refl _) _
 refine ⟨W0, u0, hW0, hu0, by rw [← hW0]; simp, fun u => hb0.trans (u.below.mono (by omega)), fun u i v hv => u.cell (by show w.heap.size < _; omega) (hbx.cell hv)⟩
theorem ext_call0 {P : Program} {C : Nat} {w : World} {f : FuncId} {args : Array Value} {v : Value} (u : Ext C w) (h : Calls P f args u.w fun e w' => e = .returned v ∧ u.w = w') :
    Calls P f args u.w fun e w'' => e = .returned v ∧ ∃ u' : Ext C w, w'' = u'.w := h.mono fun _ w'' ⟨he, hb⟩ => ⟨he, u, hb.symm⟩
theorem Se669192 {P : Prop} (h : P := by
 obtain ⟨b, off, cs, h1, h2, h3, h4, h5⟩ := h j t ht
 exact ⟨b, off, cs, h1, h2, fun u q v hv => ((hbe u).cell (p := ⟨b, off + j * 10 + q, none⟩) (by show b < _; omega)).trans (by rw [Nat.add_assoc]; exact h4 q v hv), fun u => IsX.below (hbe u) hB _ _ h5⟩) : P := h
theorem RowR.at_ext {B C : Nat} {w W0 : World} {xa : Option Addr} {az : List Ex} (h : RowR (IsX B w) 10 B w xa az) (hB : B ≤ w.heap.size) (hbe : ∀ u : Ext C W0, Below w.heap.size w u.w) {j : Nat} {t : Ex} (ht : az[j]? = some t) :
    ∃ b off cs, xa = some ⟨b, off, none⟩ ∧ b < B ∧ (∀ (u : Ext C W0) (q : Nat) v, cs[q]? = some v → u.w.cell? ⟨b, off + j * 10 + q, none⟩ = some v) ∧ ∀ u : Ext C W0, IsX B u.w cs t := Se669192
theorem StrRow.at_ext {B C : Nat} {w W0 : World} {a : Option Addr} {ks : List ByteArray} (h : StrRow B w a ks) (hB : B ≤ w.heap.size) (hbe : ∀ u : Ext C W0, Below w.heap.size w u.w) {j : Nat} {x : ByteArray} (hx : ks[j]? = some x) :
    ∃ b off, a = some ⟨b, off, none⟩ ∧ b < B ∧ ∀ u : Ext C W0, u.w.cell? ⟨b, off + j, none⟩ = some (.string x) := by
 obtain ⟨b, off, h1, h2, h3⟩ := h.get hx
 exact ⟨b, off, h1, h2, fun u => ((hbe u).cell (p := ⟨b, off + j, none⟩) (by show b < _; omega)).trans h3⟩
theorem anyL_false {α : Type} {f : α → Bool} {l : List α} {j : Nat} {x : α} (hx : l[j]? = some x) (h : f x = false) : l.all f = false := by
 rw [List.all_eq_false]
 exact ⟨x, List.mem_of_getElem? hx, by rw [h]; simp⟩
theorem allL_true {α : Type} {f : α → Bool} {l : List α} (h : ∀ (j : Nat) (x : α), l[j]? = some x → f x = true) : l.all f = true := by
 rw [List.all_eq_true]
 intro x hx
 obtain ⟨j, hj⟩ := List.getElem?_of_mem hx
 exact h j x hj
theorem wtS_get {l : List ByteArray} {j : Nat} {k : ByteArray} (h : l[j]? = some k) : k.size + 1 ≤ wtS l := by
 unfold wtS
 exact sum_get (fun k : ByteArray => k.size + 1) h
theorem wtS_len (l : List ByteArray) : l.length ≤ wtS l := by
 unfold wtS
 induction l with
 | nil => simp
 | cons a l ih => simp only [List.length_cons, List.map_cons, List.sum_cons]; omega
def ownB : Ex → Bool
  | .mk op nm v ns az => namedB (.mk op nm v ns az) && (((op == 1) || sameV v emptyV) && ((op == 6) || decide (ns.length = 0)))
def deepB : Nat → Ex → Bool
  | 0, _ => false
  | d + 1, .mk op nm v ns az => ownB (.mk op nm v ns az) && az.all (deepB d)
theorem wtX_args {op : Int} {nm : ByteArray} {v : Vt} {ns : List ByteArray} {az : List Ex} {j : Nat} {t : Ex} (h : az[j]? = some t) : wtX t ≤ wtX (.mk op nm v ns az) := by
 have := wtXs_get h
 simp only [wtX]
 omega
end Go.Proofs.YtndhpdclpgemfaaGreat
namespace Go.Proofs.YtndhpdclpgemfaaGreat
open Go.RowKit Go.ChangeMaps Go.Maps
set_option linter.unusedSimpArgs false
set_option linter.unusedVariables false
set_option maxRecDepth 100000
noncomputable def strKind {P : Program} {k : TypeId} (hk : P.underlying k = some .string) : KeyKind P k ByteArray where
  val := .string
  lit s := .string s.data.toList
  ok s := s.size ≤ maxLen
  law := string_keyed hk
  key _ h := WideMaps.keyOf_string_mk hk h
  inj x y h := by
    injection h with h
    cases x; cases y
    simp only [Array.toList_inj] at h
    rw [h]
  inv v kl h := by
    obtain ⟨s, h1, h2, h3⟩ := WideMaps.string_of_keyOf hk h
    exact ⟨s, h3, h1, h2⟩
noncomputable def KS : KeyKind Tryz.prog 9 ByteArray := strKind (by kernel_rfl)
theorem Tryz.mapSI : Tryz.prog.underlying 183 = some (.map 9 3) := by kernel_rfl
theorem ba_ext {s : ByteArray} {l : List UInt8} : (s.toList == l) = decide (s = ⟨l.toArray⟩) := by
 by_cases h : s = ⟨l.toArray⟩
 ·subst h
  rw [toList_data]
  simp
 ·rw [decide_eq_false h]
  simp only [beq_eq_false_iff_ne, ne_eq]
  intro h2
  apply h
  rw [toList_data] at h2
  cases s with
  | mk d => simp at h2; subst h2; simp
def levG0 : ByteArray → Option Value := fun _ => none
def levG1 : ByteArray → Option Value := fun y => if y = ⟨#[79, 82]⟩ then some (.int .i64 1) else levG0 y
def levG2 : ByteArray → Option Value := fun y => if y = ⟨#[88, 79, 82]⟩ then some (.int .i64 2) else levG1 y
def levG3 : ByteArray → Option Value := fun y => if y = ⟨#[65, 78, 68]⟩ then some (.int .i64 3) else levG2 y
def levG4 : ByteArray → Option Value := fun y => if y = ⟨#[61]⟩ then some (.int .i64 5) else levG3 y
def levG5 : ByteArray → Option Value := fun y => if y = ⟨#[60, 62]⟩ then some (.int .i64 5) else levG4 y
def levG6 : ByteArray → Option Value := fun y => if y = ⟨#[60]⟩ then some (.int .i64 5) else levG5 y
def levG7 : ByteArray → Option Value := fun y => if y = ⟨#[60, 61]⟩ then some (.int .i64 5) else levG6 y
def levG8 : ByteArray → Option Value := fun y => if y = ⟨#[62]⟩ then some (.int .i64 5) else levG7 y
def levG9 : ByteArray → Option Value := fun y => if y = ⟨#[62, 61]⟩ then some (.int .i64 5) else levG8 y
def levG10 : ByteArray → Option Value := fun y => if y = ⟨#[73, 78]⟩ then some (.int .i64 5) else levG9 y
def levG11 : ByteArray → Option Value := fun y => if y = ⟨#[43]⟩ then some (.int .i64 6) else levG10 y
def levG12 : ByteArray → Option Value := fun y => if y = ⟨#[45]⟩ then some (.int .i64 6) else levG11 y
def levG13 : ByteArray → Option Value := fun y => if y = ⟨#[42]⟩ then some (.int .i64 7) else levG12 y
def levG14 : ByteArray → Option Value := fun y => if y = ⟨#[47]⟩ then some (.int .i64 7) else levG13 y
def levG15 : ByteArray → Option Value := fun y => if y = ⟨#[37]⟩ then some (.int .i64 7) else levG14 y
theorem levG_is (s : ByteArray) : (levG15 s).getD (.int .i64 0) = .int .i64 (levelB s) := by
 unfold levelB
 simp only [ba_ext, decide_eq_true_eq, levG0, levG1, levG2, levG3, levG4, levG5, levG6, levG7, levG8, levG9, levG10, levG11, levG12, levG13, levG14, levG15]
 by_cases h0 : s = ⟨#[79, 82]⟩
 ·rw [h0]; rfl
 by_cases h1 : s = ⟨#[88, 79, 82]⟩
 ·rw [h1]; rfl
 by_cases h2 : s = ⟨#[65, 78, 68]⟩
 ·rw [h2]; rfl
 by_cases h3 : s = ⟨#[61]⟩
 ·rw [h3]; rfl
 by_cases h4 : s = ⟨#[60, 62]⟩
 ·rw [h4]; rfl
 by_cases h5 : s = ⟨#[60]⟩
 ·rw [h5]; rfl
 by_cases h6 : s = ⟨#[60, 61]⟩
 ·rw [h6]; rfl
 by_cases h7 : s = ⟨#[62]⟩
 ·rw [h7]; rfl
 by_cases h8 : s = ⟨#[62, 61]⟩
 ·rw [h8]; rfl
 by_cases h9 : s = ⟨#[73, 78]⟩
 ·rw [h9]; rfl
 by_cases h10 : s = ⟨#[43]⟩
 ·rw [h10]; rfl
 by_cases h11 : s = ⟨#[45]⟩
 ·rw [h11]; rfl
 by_cases h12 : s = ⟨#[42]⟩
 ·rw [h12]; rfl
 by_cases h13 : s = ⟨#[47]⟩
 ·rw [h13]; rfl
 by_cases h14 : s = ⟨#[37]⟩
 ·rw [h14]; rfl
 simp only [h0, h1, h2, h3, h4, h5, h6, h7, h8, h9, h10, h11, h12, h13, h14, if_false, ↓reduceIte, Option.getD]
set_option maxHeartbeats 8000000 in
theorem slevel_any (s : ByteArray) (w : World) (hs : s.size ≤ 1099511627776) : Calls Tryz.prog 121 #[.string s] w fun e w' => e = .returned (.int .i64 (levelB s)) ∧ Below w.heap.size w w' := by
 have hmm := @run_makeMap Tryz.prog
 obtain ⟨W0, hW0⟩ := nam (w.alloc (.map #[] 0))
 obtain ⟨mb, hmb⟩ := nam w.heap.size
 have m0 : MapIs W0 KS mb 0 levG0 := by rw [← hW0, ← hmb]; exact MapIs.made w KS
 have hb0 : Below w.heap.size w W0 := by rw [← hW0]; exact (Below.refl _ _).alloc (Nat.le_refl _) _
 obtain ⟨W1, r1, m1, g1, z1⟩ := m0.update Tryz.mapSI (by unfold maxLen; omega) (x := ⟨#[79, 82]⟩) (show ByteArray.size _ ≤ maxLen by unfold maxLen; decide) (.int .i64 1)
 replace m1 : MapIs W1 KS mb 1 levG1 := m1
 replace r1 : (Instr.mapUpdate 183 (.map (some mb)) (.string ⟨#[79, 82]⟩) (.int .i64 1)).run Tryz.prog W0 = .ok () W1 := r1
 have hb1 := hb0.grown g1 (by have := hb0.size; omega) (fun k hk => by rw [← Option.some.inj hk, ← hmb]; exact Nat.le_refl _)
 obtain ⟨W2, r2, m2, g2, z2⟩ := m1.update Tryz.mapSI (by unfold maxLen; omega) (x := ⟨#[88, 79, 82]⟩) (show ByteArray.size _ ≤ maxLen by unfold maxLen; decide) (.int .i64 2)
 replace m2 : MapIs W2 KS mb 2 levG2 := m2
 replace r2 : (Instr.mapUpdate 183 (.map (some mb)) (.string ⟨#[88, 79, 82]⟩) (.int .i64 2)).run Tryz.prog W1 = .ok () W2 := r2
 have hb2 := hb1.grown g2 (by have := hb1.size; omega) (fun k hk => by rw [← Option.some.inj hk, ← hmb]; exact Nat.le_refl _)
 obtain ⟨W3, r3, m3, g3, z3⟩ := m2.update Tryz.mapSI (by unfold maxLen; omega) (x := ⟨#[65, 78, 68]⟩) (show ByteArray.size _ ≤ maxLen by unfold maxLen; decide) (.int .i64 3)
 replace m3 : MapIs W3 KS mb 3 levG3 := m3
 replace r3 : (Instr.mapUpdate 183 (.map (some mb)) (.string ⟨#[65, 78, 68]⟩) (.int .i64 3)).run Tryz.prog W2 = .ok () W3 := r3
 have hb3 := hb2.grown g3 (by have := hb2.size; omega) (fun k hk => by rw [← Option.some.inj hk, ← hmb]; exact Nat.le_refl _)
 obtain ⟨W4, r4, m4, g4, z4⟩ := m3.update Tryz.mapSI (by unfold maxLen; omega) (x := ⟨#[61]⟩) (show ByteArray.size _ ≤ maxLen by unfold maxLen; decide) (.int .i64 5)
 replace m4 : MapIs W4 KS mb 4 levG4 := m4
 replace r4 : (Instr.mapUpdate 183 (.map (some mb)) (.string ⟨#[61]⟩) (.int .i64 5)).run Tryz.prog W3 = .ok () W4 := r4
 have hb4 := hb3.grown g4 (by have := hb3.size; omega) (fun k hk => by rw [← Option.some.inj hk, ← hmb]; exact Nat.le_refl _)
 obtain ⟨W5, r5, m5, g5, z5⟩ := m4.update Tryz.mapSI (by unfold maxLen; omega) (x := ⟨#[60, 62]⟩) (show ByteArray.size _ ≤ maxLen by unfold maxLen; decide) (.int .i64 5)
 replace m5 : MapIs W5 KS mb 5 levG5 := m5
 replace r5 : (Instr.mapUpdate 183 (.map (some mb)) (.string ⟨#[60, 62]⟩) (.int .i64 5)).run Tryz.prog W4 = .ok () W5 := r5
 have hb5 := hb4.grown g5 (by have := hb4.size; omega) (fun k hk => by rw [← Option.some.inj hk, ← hmb]; exact Nat.le_refl _)
 obtain ⟨W6, r6, m6, g6, z6⟩ := m5.update Tryz.mapSI (by unfold maxLen; omega) (x := ⟨#[60]⟩) (show ByteArray.size _ ≤ maxLen by unfold maxLen; decide) (.int .i64 5)
 replace m6 : MapIs W6 KS mb 6 levG6 := m6
 replace r6 : (Instr.mapUpdate 183 (.map (some mb)) (.string ⟨#[60]⟩) (.int .i64 5)).run Tryz.prog W5 = .ok () W6 := r6
 have hb6 := hb5.grown g6 (by have := hb5.size; omega) (fun k hk => by rw [← Option.some.inj hk, ← hmb]; exact Nat.le_refl _)
 obtain ⟨W7, r7, m7, g7, z7⟩ := m6.update Tryz.mapSI (by unfold maxLen; omega) (x := ⟨#[60, 61]⟩) (show ByteArray.size _ ≤ maxLen by unfold maxLen; decide) (.int .i64 5)
 replace m7 : MapIs W7 KS mb 7 levG7 := m7
 replace r7 : (Instr.mapUpdate 183 (.map (some mb)) (.string ⟨#[60, 61]⟩) (.int .i64 5)).run Tryz.prog W6 = .ok () W7 := r7
 have hb7 := hb6.grown g7 (by have := hb6.size; omega) (fun k hk => by rw [← Option.some.inj hk, ← hmb]; exact Nat.le_refl _)
 obtain ⟨W8, r8, m8, g8, z8⟩ := m7.update Tryz.mapSI (by unfold maxLen; omega) (x := ⟨#[62]⟩) (show ByteArray.size _ ≤ maxLen by unfold maxLen; decide) (.int .i64 5)
 replace m8 : MapIs W8 KS mb 8 levG8 := m8
 replace r8 : (Instr.mapUpdate 183 (.map (some mb)) (.string ⟨#[62]⟩) (.int .i64 5)).run Tryz.prog W7 = .ok () W8 := r8
 have hb8 := hb7.grown g8 (by have := hb7.size; omega) (fun k hk => by rw [← Option.some.inj hk, ← hmb]; exact Nat.le_refl _)
 obtain ⟨W9, r9, m9, g9, z9⟩ := m8.update Tryz.mapSI (by unfold maxLen; omega) (x := ⟨#[62, 61]⟩) (show ByteArray.size _ ≤ maxLen by unfold maxLen; decide) (.int .i64 5)
 replace m9 : MapIs W9 KS mb 9 levG9 := m9
 replace r9 : (Instr.mapUpdate 183 (.map (some mb)) (.string ⟨#[62, 61]⟩) (.int .i64 5)).run Tryz.prog W8 = .ok () W9 := r9
 have hb9 := hb8.grown g9 (by have := hb8.size; omega) (fun k hk => by rw [← Option.some.inj hk, ← hmb]; exact Nat.le_refl _)
 obtain ⟨W10, r10, m10, g10, z10⟩ := m9.update Tryz.mapSI (by unfold maxLen; omega) (x := ⟨#[73, 78]⟩) (show ByteArray.size _ ≤ maxLen by unfold maxLen; decide) (.int .i64 5)
 replace m10 : MapIs W10 KS mb 10 levG10 := m10
 replace r10 : (Instr.mapUpdate 183 (.map (some mb)) (.string ⟨#[73, 78]⟩) (.int .i64 5)).run Tryz.prog W9 = .ok () W10 := r10
 have hb10 := hb9.grown g10 (by have := hb9.size; omega) (fun k hk => by rw [← Option.some.inj hk, ← hmb]; exact Nat.le_refl _)
 obtain ⟨W11, r11, m11, g11, z11⟩ := m10.update Tryz.mapSI (by unfold maxLen; omega) (x := ⟨#[43]⟩) (show ByteArray.size _ ≤ maxLen by unfold maxLen; decide) (.int .i64 6)
 replace m11 : MapIs W11 KS mb 11 levG11 := m11
 replace r11 : (Instr.mapUpdate 183 (.map (some mb)) (.string ⟨#[43]⟩) (.int .i64 6)).run Tryz.prog W10 = .ok () W11 := r11
 have hb11 := hb10.grown g11 (by have := hb10.size; omega) (fun k hk => by rw [← Option.some.inj hk, ← hmb]; exact Nat.le_refl _)
 obtain ⟨W12, r12, m12, g12, z12⟩ := m11.update Tryz.mapSI (by unfold maxLen; omega) (x := ⟨#[45]⟩) (show ByteArray.size _ ≤ maxLen by unfold maxLen; decide) (.int .i64 6)
 replace m12 : MapIs W12 KS mb 12 levG12 := m12
 replace r12 : (Instr.mapUpdate 183 (.map (some mb)) (.string ⟨#[45]⟩) (.int .i64 6)).run Tryz.prog W11 = .ok () W12 := r12
 have hb12 := hb11.grown g12 (by have := hb11.size; omega) (fun k hk => by rw [← Option.some.inj hk, ← hmb]; exact Nat.le_refl _)
 obtain ⟨W13, r13, m13, g13, z13⟩ := m12.update Tryz.mapSI (by unfold maxLen; omega) (x := ⟨#[42]⟩) (show ByteArray.size _ ≤ maxLen by unfold maxLen; decide) (.int .i64 7)
 replace m13 : MapIs W13 KS mb 13 levG13 := m13
 replace r13 : (Instr.mapUpdate 183 (.map (some mb)) (.string ⟨#[42]⟩) (.int .i64 7)).run Tryz.prog W12 = .ok () W13 := r13
 have hb13 := hb12.grown g13 (by have := hb12.size; omega) (fun k hk => by rw [← Option.some.inj hk, ← hmb]; exact Nat.le_refl _)
 obtain ⟨W14, r14, m14, g14, z14⟩ := m13.update Tryz.mapSI (by unfold maxLen; omega) (x := ⟨#[47]⟩) (show ByteArray.size _ ≤ maxLen by unfold maxLen; decide) (.int .i64 7)
 replace m14 : MapIs W14 KS mb 14 levG14 := m14
 replace r14 : (Instr.mapUpdate 183 (.map (some mb)) (.string ⟨#[47]⟩) (.int .i64 7)).run Tryz.prog W13 = .ok () W14 := r14
 have hb14 := hb13.grown g14 (by have := hb13.size; omega) (fun k hk => by rw [← Option.some.inj hk, ← hmb]; exact Nat.le_refl _)
 obtain ⟨W15, r15, m15, g15, z15⟩ := m14.update Tryz.mapSI (by unfold maxLen; omega) (x := ⟨#[37]⟩) (show ByteArray.size _ ≤ maxLen by unfold maxLen; decide) (.int .i64 7)
 replace m15 : MapIs W15 KS mb 15 levG15 := m15
 replace r15 : (Instr.mapUpdate 183 (.map (some mb)) (.string ⟨#[37]⟩) (.int .i64 7)).run Tryz.prog W14 = .ok () W15 := r15
 have hb15 := hb14.grown g15 (by have := hb14.size; omega) (fun k hk => by rw [← Option.some.inj hk, ← hmb]; exact Nat.le_refl _)
 have hz : (zeroValue 3).run Tryz.prog W15 = .ok (.int .i64 0) W15 := by kernel_rfl
 have hl := m15.lookup Tryz.mapSI hz (x := s) (show s.size ≤ maxLen by unfold maxLen; omega)
 rw [levG_is s] at hl
 replace hl : (Instr.lookup 183 (.map (some mb)) (.string s) false).run Tryz.prog W15 = .ok (.int .i64 (levelB s)) W15 := hl
 rw [← hW0] at r1
 have HB := Lib.hid hb15
 clear m0 hW0 m1 g1 z1 hb1 m2 g2 z2 hb2 m3 g3 z3 hb3 m4 g4 z4 hb4 m5 g5 z5 hb5 m6 g6 z6 hb6 m7 g7 z7 hb7 m8 g8 z8 hb8 m9 g9 z9 hb9 m10 g10 z10 hb10 m11 g11 z11 hb11 m12 g12 z12 hb12 m13 g13 z13 hb13 m14 g14 z14 hb14 m15 g15 z15 hb15 hb0 hz hs
 go_enter Tryz.func121, Tryz.ntmps121
 go_wp2_with fail
 go_ret
 exact ⟨by rfl, HB.out⟩
set_option maxHeartbeats 4000000 in
theorem sagg_any (s : ByteArray) (w : World) : Calls Tryz.prog 122 #[.string s] w fun e w' => e = .returned (.bool (aggB s)) ∧ w = w' := by
 obtain ⟨b0, h0⟩ : ∃ b, (s.toList == [99, 111, 117, 110, 116]) = b := ⟨_, rfl⟩
 obtain ⟨b1, h1⟩ : ∃ b, (s.toList == [115, 117, 109]) = b := ⟨_, rfl⟩
 obtain ⟨b2, h2⟩ : ∃ b, (s.toList == [109, 105, 110]) = b := ⟨_, rfl⟩
 obtain ⟨b3, h3⟩ : ∃ b, (s.toList == [109, 97, 120]) = b := ⟨_, rfl⟩
 obtain ⟨b4, h4⟩ : ∃ b, (s.toList == [99, 111, 108, 108, 101, 99, 116]) = b := ⟨_, rfl⟩
 cases b0 with
 | true =>
  have hq : aggB s = true := by simp only [aggB, h0, Bool.true_or, Bool.or_true, Bool.false_or, Bool.or_false]
  rw [hq]
  clear hq
  go_enter Tryz.func122, Tryz.ntmps122
  go_wp2_with fail
  go_ret
  exact ⟨rfl, rfl⟩
 | false =>
  cases b1 with
  | true =>
   have hq : aggB s = true := by simp only [aggB, h0, h1, Bool.true_or, Bool.or_true, Bool.false_or, Bool.or_false]
   rw [hq]
   clear hq
   go_enter Tryz.func122, Tryz.ntmps122
   go_wp2_with fail
   go_ret
   exact ⟨rfl, rfl⟩
  | false =>
   cases b2 with
   | true =>
    have hq : aggB s = true := by simp only [aggB, h0, h1, h2, Bool.true_or, Bool.or_true, Bool.false_or, Bool.or_false]
    rw [hq]
    clear hq
    go_enter Tryz.func122, Tryz.ntmps122
    go_wp2_with fail
    go_ret
    exact ⟨rfl, rfl⟩
   | false =>
    cases b3 with
    | true =>
     have hq : aggB s = true := by simp only [aggB, h0, h1, h2, h3, Bool.true_or, Bool.or_true, Bool.false_or, Bool.or_false]
     rw [hq]
     clear hq
     go_enter Tryz.func122, Tryz.ntmps122
     go_wp2_with fail
     go_ret
     exact ⟨rfl, rfl⟩
    | false =>
     cases b4 with
     | true =>
      have hq : aggB s = true := by simp only [aggB, h0, h1, h2, h3, h4, Bool.true_or, Bool.or_true, Bool.false_or, Bool.or_false]
      rw [hq]
      clear hq
      go_enter Tryz.func122, Tryz.ntmps122
      go_wp2_with fail
      go_ret
      exact ⟨rfl, rfl⟩
     | false =>
      have hq : aggB s = false := by simp only [aggB, h0, h1, h2, h3, h4, Bool.true_or, Bool.or_true, Bool.false_or, Bool.or_false]
      rw [hq]
      clear hq
      go_enter Tryz.func122, Tryz.ntmps122
      go_wp2_with fail
      go_ret
      exact ⟨rfl, rfl⟩
theorem keyB_nil {s : ByteArray} {c : Bool} (h : (s.toList == []) = c) (n : Nat) (hn : s.size = n) : keyB s = (!c && decide (n ≤ 64)) := by
 rw [ba_ext] at h
 unfold keyB
 rw [hn, ← h]
 by_cases h0 : s = ⟨#[]⟩
 ·subst h0
  have : n = 0 := hn.symm
  subst this
  rfl
 ·have : 1 ≤ n := by
   rcases Nat.eq_zero_or_pos n with h1 | h1
   ·exact absurd (ByteArray.size_eq_zero_iff.1 (hn.trans h1)) h0
   ·exact h1
  rw [decide_eq_true this]
  have h1 : decide (s = ⟨[].toArray⟩) = false := decide_eq_false h0
  rw [h1]; rfl
set_option maxHeartbeats 4000000 in
theorem skeyB_any (s : ByteArray) (w : World) (hs : s.size ≤ 1099511627776) : Calls Tryz.prog 84 #[.string s] w fun e w' => e = .returned (.bool (keyB s)) ∧ w = w' := by
 obtain ⟨n, hn⟩ := nam s.size
 obtain ⟨c, hc⟩ := nam ((s.toList == []))
 rw [keyB_nil hc n hn]
 have HN := Lib.hid hn
 rw [hn] at hs
 obtain ⟨q, hq⟩ := nam (decide (n ≤ 64))
 have hq2 : decide ((n : Int) ≤ 64) = q := by rw [← hq]; congr 1; simp; omega
 rw [hq]
 clear hq
 cases c <;> cases q <;>
 · go_enter Tryz.func84, Tryz.ntmps84
   go_wp2_with fail
   go_ret
   exact ⟨by rfl, rfl⟩
theorem Se534435 {P : Prop} (h : P := by
 have h0' : ¬ op = 10 := by simpa using h0
 have h1' : ¬ op = 9 := by simpa using h1
 have h2' : ¬ op = 11 := by simpa using h2
 have h3' : ¬ op = 12 := by simpa using h3
 have h4' : ¬ op = 8 := by simpa using h4
 have h5' : ¬ op = 4 := by simpa using h5
 have h6' : ¬ op = 7 := by simpa using h6
 first
 |(
  guard_hyp z534435a
  have h7' : ¬ op = 15 := by simpa using h7
  have hq : closeB op nm = 10 := by unfold closeB; rw [if_neg h0', if_neg h1', if_neg h2', if_neg h3', if_neg h4', if_neg h5', if_neg h6', if_neg h7'])
 |(
  have h7' : op = 15 := by simpa using h7
  have hq : closeB op nm = 9 := by unfold closeB; rw [if_neg h0', if_neg h1', if_neg h2', if_neg h3', if_neg h4', if_neg h5', if_neg h6', if_pos h7'])
 rw [hq]
 clear hq HC h0' h1' h2' h3' h4' h5' h6' h7'
 go_enter Tryz.func178, Tryz.ntmps178
 go_wp2_with fail
 rw [HW0.out]
 go_ret
 exact ⟨rfl, HB0.out⟩) : P := h
set_option maxHeartbeats 4000000 in
theorem sclose_any (t : Ex) (op : Int) (nm : ByteArray) (v : Vt) (ns : List ByteArray) (az : List Ex) (ht : t = .mk op nm v ns az) (cs : List Value) (B : Nat) (w : World) (hX : IsX B w cs t) (hs : nm.size ≤ 1099511627776) : Calls Tryz.prog 178 #[.agg cs.toArray] w fun e w' => e = .returned (.int .i64 (closeB op nm)) ∧ Below w.heap.size w w' := by
 subst ht
 obtain ⟨k, b, i, s, l, ks, la, lc, ka, kc, na, nc, xa, xc, rfl, rfl, -⟩ := hX.cells
 clear hX
 obtain ⟨W0, hW0⟩ : ∃ W0, w.alloc (.cells #[.int .i64 op, .string nm, .int .i64 k, .bool b, .int .i64 i, .string s, .slice la l.length lc, .slice ka ks.length kc, .slice na ns.length nc, .slice xa az.length xc] 36) = W0 := ⟨_, rfl⟩
 have hb0 : Below w.heap.size w W0 := by rw [← hW0]; exact (Below.refl _ _).alloc (Nat.le_refl _) _
 have hx0 : Block W0 w.heap.size [.int .i64 op, .string nm, .int .i64 k, .bool b, .int .i64 i, .string s, .slice la l.length lc, .slice ka ks.length kc, .slice na ns.length nc, .slice xa az.length xc] 36 := by rw [← hW0]; exact Block.new _ _ _
 have x0 := hx0.cell (i := 0) rfl
 have x1 := hx0.cell (i := 1) rfl
 rw [← hW0] at x0 x1
 have HB0 := Lib.hid hb0
 have HW0 := Lib.hid hW0
 clear hb0 hx0 hW0
 show Calls Tryz.prog 178 #[.agg #[.int .i64 op, .string nm, .int .i64 k, .bool b, .int .i64 i, .string s, .slice la l.length lc, .slice ka ks.length kc, .slice na ns.length nc, .slice xa az.length xc]] w _
 obtain ⟨b0, h0⟩ := nam ((op == 10))
 obtain ⟨b1, h1⟩ := nam ((op == 9))
 obtain ⟨b2, h2⟩ := nam ((op == 11))
 obtain ⟨b3, h3⟩ := nam ((op == 12))
 obtain ⟨b4, h4⟩ := nam ((op == 8))
 obtain ⟨b5, h5⟩ := nam ((op == 4))
 obtain ⟨b6, h6⟩ := nam ((op == 7))
 obtain ⟨b7, h7⟩ := nam ((op == 15))
 have HC : ∀ q, (closeB op nm = q) → closeB op nm = q := fun _ h => h
 cases b0 with
 | true =>
  have h0' : op = 10 := by simpa using h0
  have hq : closeB op nm = levelB nm := by unfold closeB; rw [if_pos h0']
  rw [hq]
  clear hq HC h0'
  go_enter Tryz.func178, Tryz.ntmps178
  go_wp2_with fail
  rw [HW0.out]
  refine (slevel_any nm W0 hs).mono ?_
  rintro e w1 ⟨rfl, hb1⟩
  have HB1 := Lib.hid (below_step HB0.out rfl hb1)
  go_wp2_with fail
  go_ret
  exact ⟨rfl, HB1.out⟩
 | false =>
  cases b1 with
  | true =>
   have h0' : ¬ op = 10 := by simpa using h0
   have h1' : op = 9 := by simpa using h1
   have hq : closeB op nm = 4 := by unfold closeB; rw [if_neg h0', if_pos h1']
   rw [hq]
   clear hq HC h0' h1'
   go_enter Tryz.func178, Tryz.ntmps178
   go_wp2_with fail
   rw [HW0.out]
   go_ret
   exact ⟨rfl, HB0.out⟩
  | false =>
   cases b2 with
   | true =>
    have h0' : ¬ op = 10 := by simpa using h0
    have h1' : ¬ op = 9 := by simpa using h1
    have h2' : op = 11 := by simpa using h2
    have hq : closeB op nm = 5 := by unfold closeB; rw [if_neg h0', if_neg h1', if_pos h2']
    rw [hq]
    clear hq HC h0' h1' h2'
    go_enter Tryz.func178, Tryz.ntmps178
    go_wp2_with fail
    rw [HW0.out]
    go_ret
    exact ⟨rfl, HB0.out⟩
   | false =>
    cases b3 with
    | true =>
     have h0' : ¬ op = 10 := by simpa using h0
     have h1' : ¬ op = 9 := by simpa using h1
     have h2' : ¬ op = 11 := by simpa using h2
     have h3' : op = 12 := by simpa using h3
     have hq : closeB op nm = 5 := by unfold closeB; rw [if_neg h0', if_neg h1', if_neg h2', if_pos h3']
     rw [hq]
     clear hq HC h0' h1' h2' h3'
     go_enter Tryz.func178, Tryz.ntmps178
     go_wp2_with fail
     rw [HW0.out]
     go_ret
     exact ⟨rfl, HB0.out⟩
    | false =>
     cases b4 with
     | true =>
      have h0' : ¬ op = 10 := by simpa using h0
      have h1' : ¬ op = 9 := by simpa using h1
      have h2' : ¬ op = 11 := by simpa using h2
      have h3' : ¬ op = 12 := by simpa using h3
      have h4' : op = 8 := by simpa using h4
      have hq : closeB op nm = 8 := by unfold closeB; rw [if_neg h0', if_neg h1', if_neg h2', if_neg h3', if_pos h4']
      rw [hq]
      clear hq HC h0' h1' h2' h3' h4'
      go_enter Tryz.func178, Tryz.ntmps178
      go_wp2_with fail
      rw [HW0.out]
      go_ret
      exact ⟨rfl, HB0.out⟩
     | false =>
      cases b5 with
      | true =>
       have h0' : ¬ op = 10 := by simpa using h0
       have h1' : ¬ op = 9 := by simpa using h1
       have h2' : ¬ op = 11 := by simpa using h2
       have h3' : ¬ op = 12 := by simpa using h3
       have h4' : ¬ op = 8 := by simpa using h4
       have h5' : op = 4 := by simpa using h5
       have hq : closeB op nm = 9 := by unfold closeB; rw [if_neg h0', if_neg h1', if_neg h2', if_neg h3', if_neg h4', if_pos h5']
       rw [hq]
       clear hq HC h0' h1' h2' h3' h4' h5'
       go_enter Tryz.func178, Tryz.ntmps178
       go_wp2_with fail
       rw [HW0.out]
       go_ret
       exact ⟨rfl, HB0.out⟩
      | false =>
       cases b6 with
       | true =>
        have h0' : ¬ op = 10 := by simpa using h0
        have h1' : ¬ op = 9 := by simpa using h1
        have h2' : ¬ op = 11 := by simpa using h2
        have h3' : ¬ op = 12 := by simpa using h3
        have h4' : ¬ op = 8 := by simpa using h4
        have h5' : ¬ op = 4 := by simpa using h5
        have h6' : op = 7 := by simpa using h6
        have hq : closeB op nm = 9 := by unfold closeB; rw [if_neg h0', if_neg h1', if_neg h2', if_neg h3', if_neg h4', if_neg h5', if_pos h6']
        rw [hq]
        clear hq HC h0' h1' h2' h3' h4' h5' h6'
        go_enter Tryz.func178, Tryz.ntmps178
        go_wp2_with fail
        rw [HW0.out]
        go_ret
        exact ⟨rfl, HB0.out⟩
       | false =>
        cases b7 with
        | true =>
         exact Se534435
        | false =>
         have z534435a := trivial
         exact Se534435
end Go.Proofs.YtndhpdclpgemfaaGreat
