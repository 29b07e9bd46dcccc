/- Layer 9: what a network is in memory; the contracts of its methods that read. Conditions: the network is there. -/
import Derived.Test.YteopfknoemifgaaP2
namespace Go.Proofs.Yteopfknoemifgaa
open Go.RowKit
set_option linter.unusedSimpArgs false
set_option linter.unusedVariables false

noncomputable def KI : KeyKind Try.prog 3 Int := intKind Try.underlying3
/-- The line of a number. -/
def lineAt (N : List (Option Line)) (c : Int) : Option (Nat × Line) := if 1 ≤ c then match N[(c - 1).toNat]? with
  | some (some x) => some ((c - 1).toNat, x)
  | _ => none
  else none
def netMap (N : List (Option Line)) (ad : Nat → Nat) (c : Int) : Option Value := (lineAt N c).map fun p => .pointer (some ⟨ad p.1, 0, none⟩)
theorem lineAt_some {N : List (Option Line)} {c : Int} {i : Nat} {x : Line} (h : lineAt N c = some (i, x)) : N[i]? = some (some x) ∧ c = (i : Int) + 1 := by
  unfold lineAt at h
  split at h
  · split at h
    · rename_i h1
      injection h with h; injection h with h2 h3; subst h2 h3
      exact ⟨h1, by omega⟩
    · cases h
  · cases h
theorem lineAt_mk {N : List (Option Line)} {i : Nat} {x : Line} (h : N[i]? = some (some x)) : lineAt N ((i : Int) + 1) = some (i, x) := by
  unfold lineAt
  rw [if_pos (by omega), show ((i : Int) + 1 - 1).toNat = i from by omega, h]

/-- A network in block nb; S: the blocks that it consists of; mb: its map; T: which block belongs to which line; ad: where each line is. -/
structure NetX (w : World) (B nb : Nat) (S : Nat → Prop) (N : List (Option Line)) (mb : Nat) (T : Nat → Nat) (ad : Nat → Nat) : Prop where
  bd : ∀ k, S k → B ≤ k ∧ k < w.heap.size
  snb : S nb
  smb : S mb
  tnb : T nb = 0
  tmb : T mb = 1
  blk : Block w nb [.int .i64 N.length, .map (some mb)] 54
  map : MapIs w KI mb N.length (netMap N ad)
  line : ∀ i x, N[i]? = some (some x) → LineRep w (ad i) (fun k => S k ∧ T k = i + 2) x
def NetRep (w : World) (B nb : Nat) (S : Nat → Prop) (N : List (Option Line)) : Prop := ∃ mb T ad, NetX w B nb S N mb T ad
def NMoved (B nb : Nat) (S : Nat → Prop) (N : List (Option Line)) (w w' : World) : Prop :=
  ∃ S' : Nat → Prop, NetRep w' B nb S' N ∧ (∀ k, S' k → S k ∨ w.heap.size ≤ k) ∧ KeptP S w w'

theorem NetX.of_heap {w w' : World} {B nb : Nat} {S : Nat → Prop} {N : List (Option Line)} {mb : Nat} {T ad : Nat → Nat} (h : NetX w B nb S N mb T ad) (hs : w.heap.size ≤ w'.heap.size) (hh : ∀ k, S k → w'.heap[k]? = w.heap[k]?) : NetX w' B nb S N mb T ad where
  bd k hk := ⟨(h.bd k hk).1, Nat.lt_of_lt_of_le (h.bd k hk).2 hs⟩
  snb := h.snb
  smb := h.smb
  tnb := h.tnb
  tmb := h.tmb
  blk := h.blk.of_heap (hh _ h.snb)
  map := h.map.of_heap (hh _ h.smb)
  line i x hx := (h.line i x hx).of_heap (fun k hk _ => hh k hk.1) (fun _ hk => hk)
theorem NetRep.of_heap {w w' : World} {B nb : Nat} {S : Nat → Prop} {N : List (Option Line)} (h : NetRep w B nb S N) (hs : w.heap.size ≤ w'.heap.size) (hh : ∀ k, S k → w'.heap[k]? = w.heap[k]?) : NetRep w' B nb S N := by
  obtain ⟨mb, T, ad, h⟩ := h
  exact ⟨mb, T, ad, h.of_heap hs hh⟩
theorem NetRep.bd {w : World} {B nb : Nat} {S : Nat → Prop} {N : List (Option Line)} (h : NetRep w B nb S N) : ∀ k, S k → B ≤ k ∧ k < w.heap.size := by
  obtain ⟨mb, T, ad, h⟩ := h; exact h.bd
theorem NetRep.kept {w w' : World} {B nb : Nat} {S S2 : Nat → Prop} {N : List (Option Line)} (h : NetRep w B nb S N) (hk : KeptP S2 w w') (hd : ∀ k, S k → ¬ S2 k) : NetRep w' B nb S N :=
  h.of_heap hk.size fun k hm => hk.block k (h.bd k hm).2 (hd k hm)
theorem NMoved.same {w w' : World} {B nb : Nat} {S : Nat → Prop} {N : List (Option Line)} (h : NetRep w B nb S N) (hb : Below w.heap.size w w') : NMoved B nb S N w w' :=
  ⟨S, h.of_heap hb.size fun k hk => hb.block k (h.bd k hk).2, fun k hk => .inl hk, KeptP.of_below hb⟩

/-- One line has turned. -/
theorem NetX.turn {w w' : World} {B nb : Nat} {S : Nat → Prop} {N : List (Option Line)} {mb : Nat} {T ad : Nat → Nat} (h : NetX w B nb S N mb T ad) {i : Nat} {x x' : Line} (hi : N[i]? = some (some x)) {own' : Nat → Prop}
    (h1 : LineRep w' (ad i) own' x') (h2 : ∀ k, own' k → ((S k ∧ T k = i + 2) ∨ w.heap.size ≤ k) ∧ k < w'.heap.size) (h3 : KeptP (fun k => S k ∧ T k = i + 2) w w') : NetRep w' B nb (fun k => S k ∨ own' k) (N.set i (some x')) := by
  have hnb := h.bd nb h.snb
  have hil : i < N.length := (List.getElem?_eq_some_iff.1 hi).1
  refine ⟨mb, fun k => if k < w.heap.size then T k else i + 2, ad, ⟨fun k hk => ?_, .inl h.snb, .inl h.smb, ?_, ?_, ?_, ?_, fun j y hy => ?_⟩⟩
  · rcases hk with hk | hk
    · exact ⟨(h.bd k hk).1, Nat.lt_of_lt_of_le (h.bd k hk).2 h3.size⟩
    · obtain ⟨h4, h5⟩ := h2 k hk
      refine ⟨?_, h5⟩
      rcases h4 with h4 | h4
      · exact (h.bd k h4.1).1
      · omega
  · rw [if_pos hnb.2]; exact h.tnb
  · rw [if_pos (h.bd mb h.smb).2]; exact h.tmb
  · have := h.blk.of_heap (h3.block nb hnb.2 (fun hk => by have := hk.2; rw [h.tnb] at this; omega))
    rw [List.length_set]; exact this
  · have := h.map.of_heap (h3.block mb (h.bd mb h.smb).2 (fun hk => by have := hk.2; rw [h.tmb] at this; omega))
    rw [List.length_set]
    refine this.congr fun c _ => ?_
    unfold netMap lineAt
    by_cases hc : 1 ≤ c
    · simp only [hc, if_true]
      generalize (c - 1).toNat = m
      by_cases e : i = m
      · subst e; rw [List.getElem?_set_self hil, hi]; rfl
      · rw [List.getElem?_set_ne e]
    · simp only [hc, if_false]
  · rw [List.getElem?_set] at hy
    by_cases e : i = j
    · subst e
      simp [hil] at hy; subst hy
      refine h1.of_heap (fun _ _ _ => rfl) fun k hk => ⟨.inr hk, ?_⟩
      rcases (h2 k hk).1 with h4 | h4
      · rw [if_pos (h.bd k h4.1).2]; exact h4.2
      · rw [if_neg (by omega)]
    · simp [e] at hy
      refine (h.line j y hy).of_heap (fun k hk hlt => h3.block k hlt (fun hk2 => by have := hk.2; rw [hk2.2] at this; omega)) fun k hk => ⟨.inl hk.1, ?_⟩
      rw [if_pos (h.bd k hk.1).2]; exact hk.2

theorem zeroL (w : World) : (zeroValue 56).run Try.prog w = .ok (.pointer none) w := by kernel_rfl
theorem NetX.look {w : World} {B nb : Nat} {S : Nat → Prop} {N : List (Option Line)} {mb : Nat} {T ad : Nat → Nat} (h : NetX w B nb S N mb T ad) {c : Int} (hc : (Lit.int .i64 c).wf = true) :
    (Instr.lookup 52 (.map (some mb)) (.int .i64 c) false).run Try.prog w = .ok ((netMap N ad c).getD (.pointer none)) w :=
  h.map.lookup Try.underlying52 (zeroL w) (x := c) hc

def liveE (N : List (Option Line)) (c : Int) : Int := match lineAt N c with
  | some (_, x) => if x.cut then 24 else 0
  | none => 23

theorem live_none {w : World} {B nb : Nat} {S : Nat → Prop} {N : List (Option Line)} {mb : Nat} {T ad : Nat → Nat} (h : NetX w B nb S N mb T ad) (c : Int) (hc : (Lit.int .i64 c).wf = true) (hl : lineAt N c = none) :
    Calls Try.prog 23 #[.pointer (some ⟨nb, 0, none⟩), .int .i64 c] w fun e w' => e = .returned (.tuple #[.pointer none, .int .i64 23]) ∧ w = w' := by
  have hk := h.look hc
  rw [show netMap N ad c = none from by unfold netMap; rw [hl]; rfl] at hk
  simp only [Option.getD] at hk
  have d1 := h.blk.cell (i := 1) rfl
  clear hl h hc
  go_enter Try.func23, Try.ntmps23
  go_wp2_with fail
  go_ret2
  exact ⟨rfl, rfl⟩
theorem live_some {w : World} {B nb : Nat} {S : Nat → Prop} {N : List (Option Line)} {mb : Nat} {T ad : Nat → Nat} (h : NetX w B nb S N mb T ad) (c : Int) (hc : (Lit.int .i64 c).wf = true) {i : Nat} {x : Line} (hl : lineAt N c = some (i, x)) :
    Calls Try.prog 23 #[.pointer (some ⟨nb, 0, none⟩), .int .i64 c] w fun e w' => e = .returned (if x.cut then .tuple #[.pointer none, .int .i64 24] else .tuple #[.pointer (some ⟨ad i, 0, none⟩), .int .i64 0]) ∧ w = w' := by
  have hk := h.look hc
  rw [show netMap N ad c = some (.pointer (some ⟨ad i, 0, none⟩)) from by unfold netMap; rw [hl]; rfl] at hk
  simp only [Option.getD] at hk
  have d1 := h.blk.cell (i := 1) rfl
  obtain ⟨a1, c1, a2, c2, h1, _⟩ := h.line i x (lineAt_some hl).1
  have e2 := h1.cell (i := 2) rfl
  clear hl h hc h1
  generalize x.cut = q at *
  cases q
  all_goals
    go_enter Try.func23, Try.ntmps23
    go_wp2_with fail
    go_ret2
    exact ⟨rfl, rfl⟩

def flightN (N : List (Option Line)) (c : Int) : Nat := match lineAt N c with
  | some (_, x) => x.way.length
  | none => 0
theorem flight_any {w : World} {B nb : Nat} {S : Nat → Prop} {N : List (Option Line)} (h : NetRep w B nb S N) (c : Int) (hc : (Lit.int .i64 c).wf = true) :
    Calls Try.prog 11 #[.pointer (some ⟨nb, 0, none⟩), .int .i64 c] w fun e w' => e = .returned (.int .i64 (flightN N c)) ∧ w = w' := by
  obtain ⟨mb, T, ad, h⟩ := h
  have hk := h.look hc
  have d1 := h.blk.cell (i := 1) rfl
  cases hl : lineAt N c with
  | none =>
    rw [show netMap N ad c = none from by unfold netMap; rw [hl]; rfl] at hk
    rw [show flightN N c = 0 from by unfold flightN; rw [hl]]
    simp only [Option.getD] at hk
    clear hl h hc
    go_enter Try.func11, Try.ntmps11
    go_wp2_with fail
    go_ret
    exact ⟨rfl, rfl⟩
  | some p =>
    obtain ⟨i, x⟩ := p
    rw [show netMap N ad c = some (.pointer (some ⟨ad i, 0, none⟩)) from by unfold netMap; rw [hl]; rfl] at hk
    rw [show flightN N c = x.way.length from by unfold flightN; rw [hl]]
    simp only [Option.getD] at hk
    obtain ⟨a1, c1, a2, c2, h1, _⟩ := h.line i x (lineAt_some hl).1
    have e0 := h1.cell (i := 0) rfl
    clear hl h hc h1
    go_enter Try.func11, Try.ntmps11
    go_wp2_with fail
    go_ret
    exact ⟨rfl, rfl⟩

def overN (N : List (Option Line)) (c : Int) : Bool := match lineAt N c with
  | some (_, x) => x.cut && x.way.isEmpty
  | none => false
theorem over_any {w : World} {B nb : Nat} {S : Nat → Prop} {N : List (Option Line)} (h : NetRep w B nb S N) (c : Int) (hc : (Lit.int .i64 c).wf = true) :
    Calls Try.prog 15 #[.pointer (some ⟨nb, 0, none⟩), .int .i64 c] w fun e w' => e = .returned (.bool (overN N c)) ∧ w = w' := by
  obtain ⟨mb, T, ad, h⟩ := h
  have hk := h.look hc
  have d1 := h.blk.cell (i := 1) rfl
  cases hl : lineAt N c with
  | none =>
    rw [show netMap N ad c = none from by unfold netMap; rw [hl]; rfl] at hk
    rw [show overN N c = false from by unfold overN; rw [hl]]
    simp only [Option.getD] at hk
    clear hl h hc
    go_enter Try.func15, Try.ntmps15
    go_wp2_with fail
    go_ret
    exact ⟨rfl, rfl⟩
  | some p =>
    obtain ⟨i, x⟩ := p
    rw [show netMap N ad c = some (.pointer (some ⟨ad i, 0, none⟩)) from by unfold netMap; rw [hl]; rfl] at hk
    have HO : overN N c = (x.cut && x.way.isEmpty) := by unfold overN; rw [hl]
    simp only [Option.getD] at hk
    obtain ⟨a1, c1, a2, c2, h1, _⟩ := h.line i x (lineAt_some hl).1
    have e0 := h1.cell (i := 0) rfl
    have e2 := h1.cell (i := 2) rfl
    clear hl h hc h1
    rw [HO]
    clear HO
    cases hx : x.cut with
    | false =>
      rw [hx] at e2
      clear hx
      go_enter Try.func15, Try.ntmps15
      go_wp2_with fail
      go_ret
      exact ⟨rfl, rfl⟩
    | true =>
      rw [hx] at e2
      clear hx
      by_cases hz : x.way.length = 0
      · have hz1 : ((x.way.length : Int) == 0) = true := beq_iff_eq.2 (by omega)
        have HW : Hid ((true && x.way.isEmpty) = true) := Lib.hid (by simpa using hz)
        clear hz
        rw [HW.out]
        go_enter Try.func15, Try.ntmps15
        go_wp2_with fail
        go_ret
        exact ⟨rfl, rfl⟩
      · have hz1 : ((x.way.length : Int) == 0) = false := beq_eq_false_iff_ne.2 (by omega)
        have HW : Hid ((true && x.way.isEmpty) = false) := Lib.hid (by simpa using hz)
        clear hz
        rw [HW.out]
        go_enter Try.func15, Try.ntmps15
        go_wp2_with fail
        go_ret
        exact ⟨rfl, rfl⟩

def gotN (N : List (Option Line)) (c : Int) : List UInt8 := match lineAt N c with
  | some (_, x) => x.back
  | none => []
theorem got_any {w : World} {B nb : Nat} {S : Nat → Prop} {N : List (Option Line)} (h : NetRep w B nb S N) (c : Int) (hc : (Lit.int .i64 c).wf = true) (hm : ∀ (i : Nat) (x : Line), N[i]? = some (some x) → x.back.length ≤ 140737488351232) :
    Calls Try.prog 18 #[.pointer (some ⟨nb, 0, none⟩), .int .i64 c] w fun e w' => ∃ a cap, e = .returned (.slice a (gotN N c).length cap) ∧ IsBytes w' w.heap.size a cap (gotN N c) ∧ Below w.heap.size w w' := by
  obtain ⟨mb, T, ad, h⟩ := h
  have hk := h.look hc
  have d1 := h.blk.cell (i := 1) rfl
  cases hl : lineAt N c with
  | none =>
    rw [show netMap N ad c = none from by unfold netMap; rw [hl]; rfl] at hk
    rw [show gotN N c = [] from by unfold gotN; rw [hl]]
    simp only [Option.getD] at hk
    clear hl h hc hm
    go_enter Try.func18, Try.ntmps18
    go_wp2_with fail
    go_ret
    exact ⟨none, 0, rfl, World.ownsRow_nil _ _ _ _, Below.refl _ _⟩
  | some p =>
    obtain ⟨i, x⟩ := p
    rw [show netMap N ad c = some (.pointer (some ⟨ad i, 0, none⟩)) from by unfold netMap; rw [hl]; rfl] at hk
    rw [show gotN N c = x.back from by unfold gotN; rw [hl]]
    simp only [Option.getD] at hk
    obtain ⟨a1, c1, a2, c2, h1, h2, h3, _⟩ := h.line i x (lineAt_some hl).1
    have e1 := h1.cell (i := 1) rfl
    have HC := Lib.hid (clone_any w a2 x.back.length c2 _ x.back rfl h3.cells h3.capz (hm i x (lineAt_some hl).1))
    clear hl h hc h1 h2 h3 hm
    go_enter Try.func18, Try.ntmps18
    go_wp2_with fail
    refine HC.out.mono ?_; rintro e w' ⟨a, cap, rfl, i1, b1⟩
    go_wp2_with fail
    go_ret
    exact ⟨a, cap, rfl, i1, b1⟩
end Go.Proofs.Yteopfknoemifgaa
