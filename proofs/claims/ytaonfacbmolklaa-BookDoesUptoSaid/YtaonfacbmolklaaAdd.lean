/- The contract of book.add: texts put into a sorted row. Conditions: the row is sorted; sizes are small. -/
import Derived.Test.YtaonfacbmolklaaIns
namespace Go.Proofs.Ytaonfacbmolklaa
open Go.RowKit
set_option linter.unusedSimpArgs false
set_option linter.unusedVariables false

/-- A text put into a sorted list, if it is not there. -/
def insS : List ByteArray → ByteArray → List ByteArray
  | [], x => [x]
  | k :: ks, x => if k = x then k :: ks else if ltS x k then x :: k :: ks else k :: insS ks x
def addS (l more : List ByteArray) : List ByteArray := more.foldl insS l
theorem ltS_irrefl (x : ByteArray) : ltS x x = false := (swo_at (fun z : ByteArray => z)).irrefl x
theorem ltS_trans {x y z : ByteArray} (h : ltS x y = true) (k : ltS y z = true) : ltS x z = true := bl_trans _ _ _ h k
theorem ltS_asymm {x y : ByteArray} (h : ltS x y = true) : ltS y x = false := by
  cases hk : ltS y x with
  | false => rfl
  | true => have h2 := ltS_trans h hk; rw [ltS_irrefl] at h2; cases h2
theorem ltS_tri (x y : ByteArray) : ltS x y = true ∨ x = y ∨ ltS y x = true := by
  rcases bl_tri x.toList y.toList with ⟨h, _⟩ | ⟨h, _⟩ | ⟨h, _⟩
  · exact .inl h
  · have := ba_beq x y
    rw [h] at this
    exact .inr (.inl (by simpa using this.symm))
  · exact .inr (.inr h)
theorem SortedS.tail {k : ByteArray} {ks : List ByteArray} (h : SortedS (k :: ks)) : SortedS ks := fun i j x y hij hx hy => h (i + 1) (j + 1) x y (by omega) (by simpa using hx) (by simpa using hy)
theorem SortedS.head {k : ByteArray} {ks : List ByteArray} (h : SortedS (k :: ks)) : ∀ x ∈ ks, ltS k x = true := fun x hx => by
  obtain ⟨i, hi⟩ := List.mem_iff_getElem?.1 hx
  exact h 0 (i + 1) k x (by omega) rfl (by simpa using hi)
theorem SortedS.cons {k : ByteArray} {ks : List ByteArray} (h : SortedS ks) (hk : ∀ x ∈ ks, ltS k x = true) : SortedS (k :: ks) := by
  intro i j x y hij hx hy
  cases j with
  | zero => omega
  | succ j =>
    have hy' : ks[j]? = some y := by simpa using hy
    cases i with
    | zero =>
      obtain rfl : k = x := by simpa using hx
      exact hk y (List.mem_of_getElem? hy')
    | succ i => exact h i j x y (by omega) (by simpa using hx) hy'
theorem insS_mem {x y : ByteArray} : ∀ (ks : List ByteArray), y ∈ insS ks x ↔ y = x ∨ y ∈ ks := by
  intro ks
  induction ks with
  | nil => simp [insS]
  | cons k ks ih =>
    unfold insS
    by_cases h1 : k = x
    · rw [if_pos h1]; simp only [List.mem_cons]; subst h1; exact ⟨fun h => .inr h, fun h => by rcases h with h | h; exact .inl h; exact h⟩
    · rw [if_neg h1]
      by_cases h2 : ltS x k = true
      · rw [if_pos h2]; simp
      · rw [if_neg h2]; simp only [List.mem_cons, ih]; constructor <;> (intro h; rcases h with h | h | h <;> simp [h])
theorem insS_sorted {x : ByteArray} : ∀ {ks : List ByteArray}, SortedS ks → SortedS (insS ks x) := by
  intro ks
  induction ks with
  | nil => intro _; unfold insS; exact SortedS.cons (fun i j a b _ h => by simp at h) (by simp)
  | cons k ks ih =>
    intro h
    unfold insS
    by_cases h1 : k = x
    · rw [if_pos h1]; exact h
    · rw [if_neg h1]
      by_cases h2 : ltS x k = true
      · rw [if_pos h2]
        refine SortedS.cons h fun y hy => ?_
        rcases List.mem_cons.1 hy with rfl | hy
        · exact h2
        · exact ltS_trans h2 (h.head y hy)
      · rw [if_neg h2]
        refine SortedS.cons (ih h.tail) fun y hy => ?_
        rcases (insS_mem ks).1 hy with rfl | hy
        · rcases ltS_tri k y with h3 | h3 | h3
          · exact h3
          · exact absurd h3 h1
          · exact absurd h3 h2
        · exact h.head y hy
theorem insS_len (x : ByteArray) (ks : List ByteArray) : (insS ks x).length ≤ ks.length + 1 := by
  induction ks with
  | nil => simp [insS]
  | cons k ks ih =>
    unfold insS
    split
    · omega
    · split <;> simp <;> omega
theorem addS_sorted {more : List ByteArray} : ∀ {l : List ByteArray}, SortedS l → SortedS (addS l more) := by
  induction more with
  | nil => intro l h; exact h
  | cons x xs ih => intro l h; exact ih (insS_sorted h)
theorem addS_len (more : List ByteArray) : ∀ (l : List ByteArray), (addS l more).length ≤ l.length + more.length := by
  induction more with
  | nil => intro l; simp [addS]
  | cons x xs ih => intro l; have := ih (insS l x); have := insS_len x l; simp only [addS, List.foldl_cons, List.length_cons] at *; omega
theorem addS_mem {more : List ByteArray} {y : ByteArray} : ∀ {l : List ByteArray}, y ∈ addS l more ↔ y ∈ l ∨ y ∈ more := by
  induction more with
  | nil => intro l; simp [addS]
  | cons x xs ih =>
    intro l
    show y ∈ addS (insS l x) xs ↔ _
    rw [ih, insS_mem, List.mem_cons]
    constructor
    · rintro ((h | h) | h) <;> simp [h]
    · rintro (h | h | h) <;> simp [h]
/-- What binary search finds, as a place to put in. -/
theorem insS_place {x : ByteArray} : ∀ {ks : List ByteArray} {r : Nat}, SortedS ks → r ≤ ks.length → (∀ (i : Nat) y, i < r → ks[i]? = some y → ltS y x = true) → (∀ (i : Nat) y, r ≤ i → ks[i]? = some y → ltS y x = false) →
    insS ks x = if ks[r]? = some x then ks else putAt ks r x := by
  intro ks
  induction ks with
  | nil =>
    intro r _ hr _ _
    obtain rfl : r = 0 := by simpa using hr
    simp [insS, putAt]
  | cons k ks ih =>
    intro r hs hr hlt hge
    unfold insS
    by_cases h1 : k = x
    · subst h1
      rw [if_pos rfl]
      have hr0 : r = 0 := by
        cases r with
        | zero => rfl
        | succ r => have := hlt 0 k (by omega) rfl; rw [ltS_irrefl] at this; cases this
      subst hr0
      rw [if_pos (show (k :: ks)[0]? = some k from rfl)]
    · rw [if_neg h1]
      by_cases h2 : ltS x k = true
      · rw [if_pos h2]
        have hr0 : r = 0 := by
          cases r with
          | zero => rfl
          | succ r => have := hlt 0 k (by omega) rfl; rw [ltS_asymm h2] at this; cases this
        subst hr0
        rw [if_neg (by simpa using h1)]
        simp [putAt]
      · rw [if_neg h2]
        have h3 : ltS k x = true := by
          rcases ltS_tri k x with h | h | h
          · exact h
          · exact absurd h h1
          · exact absurd h h2
        cases r with
        | zero => have := hge 0 k (Nat.le_refl _) rfl; rw [h3] at this; cases this
        | succ r =>
          rw [ih (r := r) hs.tail (by simpa using hr) (fun i y hi hy => hlt (i + 1) y (by omega) (by simpa using hy)) (fun i y hi hy => hge (i + 1) y (by omega) (by simpa using hy))]
          simp only [List.getElem?_cons_succ]
          split
          · rfl
          · simp [putAt]
theorem addS_take {l more : List ByteArray} {j : Nat} {x : ByteArray} (h : more[j]? = some x) : addS l (more.take (j + 1)) = insS (addS l (more.take j)) x := by
  unfold addS
  exact foldl_take_succ insS l h
/-- A row after something has been added: it is the call's own, and nothing else has turned. -/
def GrownP (B : Nat) (v : Value) (ks : List ByteArray) (w : World) (e : Ending) (w' : World) : Prop :=
  ∃ a c, e = .returned (.slice a ks.length c) ∧ w'.ownsRow B 9 1 (.slice a ks.length c) ks.length (ks.map Value.string) ∧ w.grownBy w' v.ownBlock ∧ ∀ g, (Value.slice a ks.length c).ownBlock = some g → v.ownBlock = some g ∨ w.heap.size ≤ g
theorem grownBy_trans {w w1 w2 : World} {r r1 : Option Nat} (h : w.grownBy w1 r) (h1 : w1.grownBy w2 r1) (hr : ∀ k, r1 = some k → r = some k ∨ w.heap.size ≤ k) : w.grownBy w2 r :=
  ⟨h1.os.trans h.os, h1.tape.trans h.tape, h1.output.trans h.output, Nat.le_trans h.size h1.size, fun k hk hn => by
    rw [h1.block k (Nat.lt_of_lt_of_le hk h.size) (fun e => by rcases hr k e.symm with h2 | h2; exact hn h2.symm; omega)]
    exact h.block k hk hn⟩
theorem grownBy_refl (w : World) (r : Option Nat) : w.grownBy w r := ⟨rfl, rfl, rfl, Nat.le_refl _, fun _ _ _ => rfl⟩
theorem Cells.grown {B : Nat} {w w' : World} {a : Option Addr} {vs : List Value} {r : Option Nat} (h : Cells B w a vs) (hg : w.grownBy w' r) (hB : B ≤ w.heap.size) (hr : ∀ k, r = some k → B ≤ k) : Cells B w' a vs := by
  rcases h with h | ⟨b, off, h1, h2, h3⟩
  · exact .inl h
  · exact .inr ⟨b, off, h1, h2, fun i v hi => hg.cell (h3 i v hi) (fun e => by have := hr b e.symm; omega)⟩
set_option maxRecDepth 100000 in
set_option maxHeartbeats 4000000 in
theorem add_any (ks more : List ByteArray) (v : Value) (ma : Option Addr) (mc B : Nat) (w : World) (hown : w.ownsRow B 9 1 v ks.length (ks.map Value.string)) (hm : ∀ w' : World, w.grownBy w' v.ownBlock → StrRow w'.heap.size w' ma more) (hBw : B ≤ w.heap.size) (hs : SortedS ks) (hl : ks.length + more.length ≤ 1099511627776) (hmm : more.length ≤ 1099511627776) :
    Calls Try.prog 28 #[v, .slice ma more.length mc] w (GrownP B v (addS ks more) w) := by
  obtain ⟨a, c, rfl⟩ := own_form hown
  have hvb : ∀ k, (Value.slice a ks.length c).ownBlock = some k → B ≤ k := fun k e => (hown.lt k e).1
  have HO := Lib.hid hown
  have HM := Lib.hid hm
  have HVB := Lib.hid hvb
  have HS := Lib.hid hs
  obtain ⟨m, hmn⟩ : ∃ m, more.length = m := ⟨_, rfl⟩
  rw [hmn] at hl hmm ⊢
  have HMN := Lib.hid hmn
  obtain ⟨R, hR⟩ : ∃ R, GrownP B (.slice a ks.length c) (addS ks more) w = R := ⟨_, rfl⟩
  have HR := Lib.hid hR
  rw [hR]
  clear hown hm hvb hs hmn hR
  go_enter Try.func28, Try.ntmps28
  go_wp2_with fail
  go_loopw [0, 11] (fun vv iv wr => ∃ (j n : Nat) (l : List ByteArray) (a' : Option Addr) (c' : Nat), iv = .int .i64 j ∧ vv = .slice a' n c' ∧ j ≤ m ∧ n ≤ ks.length + j ∧ Hid (l = addS ks (more.take j) ∧ l.length = n) ∧ Hid (wr.ownsRow B 9 1 (.slice a' n c') n (l.map Value.string)) ∧ Hid (w.grownBy wr (Value.slice a ks.length c).ownBlock) ∧ Hid (∀ g, (Value.slice a' n c').ownBlock = some g → (Value.slice a ks.length c).ownBlock = some g ∨ w.heap.size ≤ g)) (fun _ iv _ => m - (intOf iv).toNat)
  case atStart => exact ⟨0, ks.length, ks, a, c, rfl, rfl, Nat.zero_le _, by omega, Lib.hid ⟨rfl, rfl⟩, HO, Lib.hid (grownBy_refl _ _), Lib.hid (fun g h => .inl h)⟩
  case round =>
    obtain ⟨j, n, l, a', c', rfl, rfl, hj, hn, HL, HO', HG, HB⟩ := hrel
    by_cases hlt : j < m
    · have hlt' : (j : Int) < m := by omega
      have hj0 : (0 : Int) ≤ (j : Int) := by omega
      obtain ⟨x, hx⟩ : ∃ x, more[j]? = some x := get_some (by have := HMN.out; omega)
      have HMr : StrRow wr.heap.size wr ma more := HM.out wr HG.out
      obtain ⟨mb, mo, rfl, hmb, hmx⟩ := HMr.get hx
      have hln := HL.out.2
      have hsl : SortedS l := by rw [HL.out.1]; exact addS_sorted HS.out
      have HBS := Lib.hid (by have := bsearch_any l x a' c' wr.heap.size wr (own_cells_of HO'.out) (by omega) hsl; rwa [hln] at this)
      have HX := Lib.hid hx
      have HSL := Lib.hid hsl
      clear hx HMr hln hsl
      go_wp2_with fail
      refine HBS.out.mono ?_
      rintro e w' ⟨rfl, r, rfl, hr, hrl, hrg⟩
      have hpl := insS_place HSL.out hr hrl hrg
      have hr2 : r ≤ n := by have := HL.out.2; omega
      have hrow : insS l x = addS ks (more.take (j + 1)) := by rw [addS_take HX.out, ← HL.out.1]
      cases hf : decide (l[r]? = some x) with
      | true =>
        have hf2 : l[r]? = some x := of_decide_eq_true hf
        have HN : Hid (l = addS ks (more.take (j + 1)) ∧ l.length = n) := Lib.hid ⟨by rw [← hrow, hpl, if_pos hf2], HL.out.2⟩
        clear hf hf2 hpl hrow hrl hrg hr HBS
        go_wp2_with fail
        go_roundw
        case rel => exact ⟨j + 1, n, l, a', c', by go_num, rfl, by omega, by omega, HN, HO', HG, HB⟩
        case measure => simp [intOf]; omega
      | false =>
        have hf2 : ¬ l[r]? = some x := of_decide_eq_false hf
        have HN : Hid (putAt l r x = addS ks (more.take (j + 1)) ∧ (putAt l r x).length = n + 1) := Lib.hid ⟨by rw [← hrow, hpl, if_neg hf2], by rw [putAt_len x hr, HL.out.2]⟩
        have HIN := Lib.hid (by
          have h := insert_any l r x (.slice a' n c') B wr.heap.size (wr.alloc (.cells #[.string x] 9)) (by rw [HL.out.2]; exact HO'.out.alloc _) hr (Block.new wr [.string x] _) (fun e => by have := (HO'.out.lt _ e).2; omega) (by have := HL.out.2; omega) (by have := HG.out.size; simp; omega)
          exact h)
        clear hf hf2 hpl hrow hrl hrg hr HBS
        go_wp2_with fail
        refine HIN.out.mono ?_
        rintro e w2 ⟨g, c2, rfl, hown2, hg2, hat⟩
        rw [HL.out.2] at hown2 ⊢
        have HO2 : Hid (w2.ownsRow B 9 1 (.slice (some ⟨g, 0, none⟩) (n + 1) c2) (n + 1) ((putAt l r x).map Value.string)) := Lib.hid hown2
        have hgz := HG.out.size
        have HG2 : Hid (w.grownBy w2 (Value.slice a ks.length c).ownBlock) := Lib.hid (grownBy_trans (grownBy_trans HG.out (World.grownBy_alloc wr _ _) (fun k e => by exact .inl e)) hg2 (fun k e => HB.out k e))
        have HB2 : Hid (∀ q, (Value.slice (some ⟨g, 0, none⟩) (n + 1) c2).ownBlock = some q → (Value.slice a ks.length c).ownBlock = some q ∨ w.heap.size ≤ q) := Lib.hid (fun q e => by
          obtain rfl : g = q := by injection e
          rcases hat with h | h
          · exact HB.out _ h
          · refine .inr ?_; rw [h]; simp; omega)
        clear hown2 hg2 hat
        go_wp2_with fail
        go_roundw
        case rel => exact ⟨j + 1, n + 1, putAt l r x, some ⟨g, 0, none⟩, c2, by go_num, rfl, by omega, by omega, HN, HO2, HG2, HB2⟩
        case measure => simp [intOf]; omega
    · have hlt' : ¬ (j : Int) < m := by omega
      have hjm : j = m := by omega
      have hfin : l = addS ks more := by have h := HL.out.1; rwa [List.take_of_length_le (by have := HMN.out; omega)] at h
      have HF := Lib.hid hfin
      clear hfin
      go_wp2_with fail
      rw [← HR.out, ← HF.out]
      have hln := HL.out.2
      refine ⟨a', c', by rw [hln], by rw [hln]; exact HO'.out, HG.out, fun g e => HB.out g (by rw [hln] at e; exact e)⟩
end Go.Proofs.Ytaonfacbmolklaa
