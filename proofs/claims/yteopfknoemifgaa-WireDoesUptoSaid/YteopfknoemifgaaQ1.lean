/- Layer 9: the reference's network in memory; its methods that read. Conditions: the network is there. -/
import Derived.Test.YteopfknoemifgaaQ0
import Derived.Test.YteopfknoemifgaaOpen
namespace Go.Proofs.Yteopfknoemifgaa
open Go.RowKit
set_option linter.unusedSimpArgs false
set_option linter.unusedVariables false

/-- One of the reference's lines, with its two slices. -/
structure Zn where
  is : Bool
  x : Line
  v1 : Value
  v2 : Value
def cellsN (z : Zn) : List Value := [.bool z.is, z.v1, z.v2, .bool z.x.cut]
def absN (z : Zn) : Option Line := if z.is = true then some z.x else none
theorem cellsN_len (z : Zn) : (cellsN z).length = 4 := rfl
structure RefX (w : World) (B P : Nat) (S : Nat → Prop) (T : Nat → Nat) (lv : Value) (zs : List Zn) : Prop where
  bd : ∀ k, S k → B ≤ k ∧ k < w.heap.size
  sP : S P
  tP : T P = 0
  blk : Block w P [lv] 45
  row : w.ownsRow B 66 4 lv zs.length (zs.flatMap cellsN)
  sl : ∀ g, lv.ownBlock = some g → S g ∧ T g = 1
  win : ∀ i z, zs[i]? = some z → Win w (fun k => S k ∧ T k = 2 * i + 2) z.v1 z.x.way ∧ Win w (fun k => S k ∧ T k = 2 * i + 3) z.v2 z.x.back
def RefRep (w : World) (B P : Nat) (S : Nat → Prop) (N : List (Option Line)) : Prop := ∃ T lv zs, RefX w B P S T lv zs ∧ zs.map absN = N
def RMoved (B P : Nat) (S : Nat → Prop) (N : List (Option Line)) (w w' : World) : Prop :=
  ∃ S' : Nat → Prop, RefRep w' B P S' N ∧ (∀ k, S' k → S k ∨ w.heap.size ≤ k) ∧ KeptP S w w'
theorem RefX.of_heap {w w' : World} {B P : Nat} {S : Nat → Prop} {T : Nat → Nat} {lv : Value} {zs : List Zn} (h : RefX w B P S T lv zs) (hs : w.heap.size ≤ w'.heap.size) (hh : ∀ k, S k → w'.heap[k]? = w.heap[k]?) : RefX w' B P S T lv zs where
  bd k hk := ⟨(h.bd k hk).1, Nat.lt_of_lt_of_le (h.bd k hk).2 hs⟩
  sP := h.sP
  tP := h.tP
  blk := h.blk.of_heap (hh _ h.sP)
  row := own_of_heap h.row fun k e => hh k (h.sl k e).1
  sl := h.sl
  win i z hz := ⟨(h.win i z hz).1.same fun k hk _ => ⟨hh k hk.1, hk⟩, (h.win i z hz).2.same fun k hk _ => ⟨hh k hk.1, hk⟩⟩
theorem RefRep.of_heap {w w' : World} {B P : Nat} {S : Nat → Prop} {N : List (Option Line)} (h : RefRep w B P S N) (hs : w.heap.size ≤ w'.heap.size) (hh : ∀ k, S k → w'.heap[k]? = w.heap[k]?) : RefRep w' B P S N := by
  obtain ⟨T, lv, zs, h1, h2⟩ := h
  exact ⟨T, lv, zs, h1.of_heap hs hh, h2⟩
theorem RefRep.bd {w : World} {B P : Nat} {S : Nat → Prop} {N : List (Option Line)} (h : RefRep w B P S N) : ∀ k, S k → B ≤ k ∧ k < w.heap.size := by
  obtain ⟨T, lv, zs, h1, _⟩ := h; exact h1.bd
theorem RefRep.kept {w w' : World} {B P : Nat} {S S2 : Nat → Prop} {N : List (Option Line)} (h : RefRep w B P S N) (hk : KeptP S2 w w') (hd : ∀ k, S k → ¬ S2 k) : RefRep w' B P S N :=
  h.of_heap hk.size fun k hm => hk.block k (h.bd k hm).2 (hd k hm)
theorem RMoved.same {w w' : World} {B P : Nat} {S : Nat → Prop} {N : List (Option Line)} (h : RefRep w B P S N) (hb : Below w.heap.size w w') : RMoved B P S N w w' :=
  ⟨S, h.of_heap hb.size fun k hk => hb.block k (h.bd k hk).2, fun k hk => .inl hk, KeptP.of_below hb⟩
theorem RefX.cell {w : World} {B P : Nat} {S : Nat → Prop} {T : Nat → Nat} {lv : Value} {zs : List Zn} (h : RefX w B P S T lv zs) {i : Nat} {z : Zn} (hz : zs[i]? = some z) :
    ∃ g c, lv = .slice (some ⟨g, 0, none⟩) zs.length c ∧ g < w.heap.size ∧ g ≠ P ∧ (∀ (q : Nat) v, (cellsN z)[q]? = some v → w.cell? ⟨g, i * 4 + q, none⟩ = some v) ∧ ∀ q, w.frozen? ⟨g, q, none⟩ = false := by
  have hh := h.row
  obtain ⟨a, c, hv⟩ := own_form h.row
  have hc : Cells w.heap.size w a (zs.flatMap cellsN) := own_cells_of (by rw [hv] at hh; exact hh)
  rcases hh.2 with ⟨h1, h2⟩ | ⟨g, cap, cur, h1, h2⟩
  · have := (List.getElem?_eq_some_iff.1 hz).1; omega
  · refine ⟨g, cap, h1, (h.row.lt g (by rw [h1]; rfl)).2, fun e => ?_, fun q v hq => ?_, fun q => ?_⟩
    · have := (h.sl g (by rw [h1]; rfl)).2; rw [e, h.tP] at this; omega
    · rw [h1] at hv
      injection hv with e1 _ _
      obtain ⟨b, off, e2, _, h3⟩ := Cells.elem (size := 4) hc (fun z _ => cellsN_len z) (by omega) hz
      rw [← e1] at e2
      injection e2 with e2
      injection e2 with e3 e4
      subst e3 e4
      have := h3 q v hq
      rwa [Nat.zero_add] at this
    · have h5 := h.row
      rw [h1] at h5
      exact h5.frozenAt _
/-- Where a connection is, in the reference's row. -/
theorem absN_at {zs : List Zn} {N : List (Option Line)} (h : zs.map absN = N) {c : Int} {i : Nat} {x : Line} (hl : lineAt N c = some (i, x)) : ∃ z, zs[i]? = some z ∧ z.is = true ∧ z.x = x ∧ c = (i : Int) + 1 := by
  obtain ⟨h1, h2⟩ := lineAt_some hl
  subst h
  rw [List.getElem?_map] at h1
  cases hz : zs[i]? with
  | none => rw [hz] at h1; cases h1
  | some z =>
    rw [hz] at h1
    simp only [Option.map_some, Option.some.injEq] at h1
    unfold absN at h1
    split at h1
    · rename_i h3
      exact ⟨z, rfl, h3, by injection h1, h2⟩
    · cases h1
theorem absN_none {zs : List Zn} {N : List (Option Line)} (h : zs.map absN = N) {c : Int} (hl : lineAt N c = none) : c < 1 ∨ (zs.length : Int) < c ∨ ∃ (i : Nat) (z : Zn), zs[i]? = some z ∧ z.is = false ∧ c = (i : Int) + 1 := by
  by_cases h1 : c < 1
  · exact .inl h1
  by_cases h2 : (zs.length : Int) < c
  · exact .inr (.inl h2)
  obtain ⟨i, rfl⟩ : ∃ i : Nat, c = (i : Int) + 1 := ⟨(c - 1).toNat, by omega⟩
  have hi : i < zs.length := by omega
  refine .inr (.inr ⟨i, zs[i], List.getElem?_eq_getElem hi, ?_, rfl⟩)
  cases hb : zs[i].is with
  | false => rfl
  | true =>
    have : N[i]? = some (some zs[i].x) := by
      subst h
      rw [List.getElem?_map, List.getElem?_eq_getElem hi]
      simp [absN, hb]
    rw [lineAt_mk this] at hl
    cases hl

def atN (N : List (Option Line)) (c : Int) : Int := match lineAt N c with
  | some (i, _) => (i : Int)
  | none => -1
set_option maxHeartbeats 1000000 in
theorem at_any {w : World} {B P : Nat} {S : Nat → Prop} {N : List (Option Line)} (h : RefRep w B P S N) (hn : N.length ≤ 140737488351232) (c : Int) :
    Calls Try.prog 33 #[.pointer (some ⟨P, 0, none⟩), .int .i64 c] w fun e w' => e = .returned (.int .i64 (atN N c)) ∧ w = w' := by
  obtain ⟨T, lv, zs, h, hN⟩ := h
  have hlen : zs.length = N.length := by rw [← hN, List.length_map]
  obtain ⟨a, cp, hv⟩ := own_form h.row
  have d0 := h.blk.cell (i := 0) rfl
  rw [hv] at d0
  cases hl : lineAt N c with
  | some p =>
    obtain ⟨i, x⟩ := p
    rw [show atN N c = (i : Int) from by unfold atN; rw [hl]]
    obtain ⟨z, hz, hi, rfl, rfl⟩ := absN_at hN hl
    obtain ⟨g, c', hac, hg, hgP, hc, _⟩ := h.cell hz
    rw [hv] at hac
    injection hac with e1 e2 e3
    subst e1
    clear e2 e3
    have y0 := hc 0 _ rfl
    rw [Nat.add_zero, hi] at y0
    have hil := (List.getElem?_eq_some_iff.1 hz).1
    obtain ⟨n, hzn⟩ : ∃ n, zs.length = n := ⟨_, rfl⟩
    rw [hzn] at d0 hil hlen
    have q1 : ¬ ((i : Int) + 1 < 1) := by omega
    have q2 : ¬ ((n : Int) < (i : Int) + 1) := by omega
    have q3 : (i : Int) + 1 - 1 = i := by omega
    have q4 : (i : Int) < n := by omega
    have q5 : (0 : Int) ≤ i := by omega
    have q6 : (n : Int) ≤ 140737488351232 := by omega
    clear h hN hv hl hz hc hzn hi hlen hn
    go_enter Try.func33, Try.ntmps33
    go_wp2_with fail
    go_ret
    exact ⟨rfl, rfl⟩
  | none =>
    rw [show atN N c = -1 from by unfold atN; rw [hl]]
    rcases absN_none hN hl with h1 | h1 | ⟨i, z, hz, hi, rfl⟩
    · clear h hN hl hlen hv
      go_enter Try.func33, Try.ntmps33
      go_wp2_with fail
      go_ret
      exact ⟨rfl, rfl⟩
    · obtain ⟨n, hzn⟩ : ∃ n, zs.length = n := ⟨_, rfl⟩
      rw [hzn] at d0 h1
      have h0 : ¬ c < 1 := by omega
      clear h hN hl hlen hv hzn
      go_enter Try.func33, Try.ntmps33
      go_wp2_with fail
      go_ret
      exact ⟨rfl, rfl⟩
    · obtain ⟨g, c', hac, hg, hgP, hc, _⟩ := h.cell hz
      rw [hv] at hac
      injection hac with e1 e2 e3
      subst e1
      clear e2 e3
      have y0 := hc 0 _ rfl
      rw [Nat.add_zero, hi] at y0
      have hil := (List.getElem?_eq_some_iff.1 hz).1
      obtain ⟨n, hzn⟩ : ∃ n, zs.length = n := ⟨_, rfl⟩
      rw [hzn] at d0 hil hlen
      have q1 : ¬ ((i : Int) + 1 < 1) := by omega
      have q2 : ¬ ((n : Int) < (i : Int) + 1) := by omega
      have q3 : (i : Int) + 1 - 1 = i := by omega
      have q4 : (i : Int) < n := by omega
      have q5 : (0 : Int) ≤ i := by omega
      have q6 : (n : Int) ≤ 140737488351232 := by omega
      clear h hN hv hl hz hc hzn hi hlen hn
      go_enter Try.func33, Try.ntmps33
      go_wp2_with fail
      go_ret
      exact ⟨rfl, rfl⟩

/-- The facts of a line that is there, for a walk. -/
structure AtN (w : World) (P i n : Nat) (x : Line) (g cp : Nat) (a1 a2 : Option Addr) (c1 c2 : Nat) : Prop where
  net : w.cell? ⟨P, 0, none⟩ = some (.slice (some ⟨g, 0, none⟩) n cp)
  y0 : w.cell? ⟨g, i * 4, none⟩ = some (.bool true)
  y1 : w.cell? ⟨g, i * 4 + 1, none⟩ = some (.slice a1 x.way.length c1)
  y2 : w.cell? ⟨g, i * 4 + 2, none⟩ = some (.slice a2 x.back.length c2)
  y3 : w.cell? ⟨g, i * 4 + 3, none⟩ = some (.bool x.cut)
  lt : i < n
  le : (n : Int) ≤ 140737488351232
  f : ∀ q, w.frozen? ⟨g, q, none⟩ = false
  ne : g ≠ P
theorem RefX.at {w : World} {B P : Nat} {S : Nat → Prop} {T : Nat → Nat} {lv : Value} {zs : List Zn} {N : List (Option Line)} (h : RefX w B P S T lv zs) (hN : zs.map absN = N) (hn : N.length ≤ 140737488351232) {c : Int} {i : Nat} {x : Line} (hl : lineAt N c = some (i, x)) :
    ∃ z g cp a1 a2 c1 c2, zs[i]? = some z ∧ z.is = true ∧ z.x = x ∧ c = (i : Int) + 1 ∧ lv = .slice (some ⟨g, 0, none⟩) zs.length cp ∧ z.v1 = .slice a1 x.way.length c1 ∧ z.v2 = .slice a2 x.back.length c2 ∧ AtN w P i zs.length x g cp a1 a2 c1 c2 := by
  obtain ⟨z, hz, hi, rfl, rfl⟩ := absN_at hN hl
  obtain ⟨g, cp, hlv, hg, hgP, hc, hf⟩ := h.cell hz
  obtain ⟨a1, c1, e1⟩ := (h.win i z hz).1.form
  obtain ⟨a2, c2, e2⟩ := (h.win i z hz).2.form
  have hlen : zs.length = N.length := by rw [← hN, List.length_map]
  have d0 := h.blk.cell (i := 0) rfl
  rw [hlv] at d0
  have y0 := hc 0 _ rfl
  rw [Nat.add_zero, hi] at y0
  have y1 := hc 1 _ rfl
  rw [e1] at y1
  have y2 := hc 2 _ rfl
  rw [e2] at y2
  exact ⟨z, g, cp, a1, a2, c1, c2, hz, hi, rfl, rfl, hlv, e1, e2, d0, y0, y1, y2, hc 3 _ rfl, (List.getElem?_eq_some_iff.1 hz).1, by omega, hf, hgP⟩

theorem rlive_any {w : World} {B P : Nat} {S : Nat → Prop} {N : List (Option Line)} (h : RefRep w B P S N) (hn : N.length ≤ 140737488351232) (c : Int) :
    Calls Try.prog 34 #[.pointer (some ⟨P, 0, none⟩), .int .i64 c] w fun e w' => e = .returned (.int .i64 (liveE N c)) ∧ w = w' := by
  have HA := Lib.hid (at_any h hn c)
  obtain ⟨T, lv, zs, h, hN⟩ := h
  cases hl : lineAt N c with
  | none =>
    rw [show atN N c = -1 from by unfold atN; rw [hl]] at HA
    rw [show liveE N c = 23 from by unfold liveE; rw [hl]]
    clear h hN hl
    go_enter Try.func34, Try.ntmps34
    go_wp2_with fail
    refine HA.out.mono ?_; rintro e w' ⟨rfl, rfl⟩
    go_wp2_with fail
    go_ret
    exact ⟨rfl, rfl⟩
  | some p =>
    obtain ⟨i, x⟩ := p
    rw [show atN N c = (i : Int) from by unfold atN; rw [hl]] at HA
    obtain ⟨z, g, cp, a1, a2, c1, c2, hz, hi, hx, rfl, hlv, e1, e2, ⟨d0, y0, y1, y2, y3, hlt, hle, hf, hne⟩⟩ := h.at hN hn hl
    have HE : Hid (liveE N ((i : Int) + 1) = if x.cut = true then 24 else 0) := Lib.hid (by unfold liveE; rw [hl])
    rw [HE.out]
    obtain ⟨n, hzn⟩ : ∃ n, zs.length = n := ⟨_, rfl⟩
    rw [hzn] at d0 hlt hle
    have q4 : (i : Int) < n := by omega
    have q5 : ¬ (i : Int) < 0 := by omega
    have q6 : (0 : Int) ≤ i := by omega
    clear h hN hl hz hi hx hlv e1 e2 hzn hn HE hf y0 y1 y2
    cases hcut : x.cut
    all_goals
      rw [hcut] at y3
      go_enter Try.func34, Try.ntmps34
      go_wp2_with fail
      refine HA.out.mono ?_; rintro e w' ⟨rfl, rfl⟩
      go_wp2_with fail
      go_ret
      exact ⟨rfl, rfl⟩

theorem rgot_any {w : World} {B P : Nat} {S : Nat → Prop} {N : List (Option Line)} (h : RefRep w B P S N) (hn : N.length ≤ 140737488351232) (c : Int) :
    Calls Try.prog 19 #[.pointer (some ⟨P, 0, none⟩), .int .i64 c] w fun e w' => ∃ a cap, e = .returned (.slice a (gotN N c).length cap) ∧ Cells w'.heap.size w' a (bys (gotN N c)) ∧ w = w' := by
  have HA := Lib.hid (at_any h hn c)
  obtain ⟨T, lv, zs, h, hN⟩ := h
  cases hl : lineAt N c with
  | none =>
    rw [show atN N c = -1 from by unfold atN; rw [hl]] at HA
    rw [show gotN N c = [] from by unfold gotN; rw [hl]]
    clear h hN hl
    go_enter Try.func19, Try.ntmps19
    go_wp2_with fail
    refine HA.out.mono ?_; rintro e w' ⟨rfl, rfl⟩
    go_wp2_with fail
    go_ret
    exact ⟨none, 0, rfl, .inl rfl, rfl⟩
  | some p =>
    obtain ⟨i, x⟩ := p
    rw [show atN N c = (i : Int) from by unfold atN; rw [hl]] at HA
    rw [show gotN N c = x.back from by unfold gotN; rw [hl]]
    obtain ⟨z, g, cp, a1, a2, c1, c2, hz, hi, hx, rfl, hlv, e1, e2, ⟨d0, y0, y1, y2, y3, hlt, hle, hf, hne⟩⟩ := h.at hN hn hl
    have HC : Hid (Cells w.heap.size w a2 (bys x.back)) := Lib.hid (by
      have h3 := (h.win i z hz).2
      rw [e2, hx] at h3
      exact h3.cells.2.2.2.2)
    obtain ⟨n, hzn⟩ : ∃ n, zs.length = n := ⟨_, rfl⟩
    rw [hzn] at d0 hlt hle
    have q4 : (i : Int) < n := by omega
    have q5 : ¬ (i : Int) < 0 := by omega
    have q6 : (0 : Int) ≤ i := by omega
    clear h hN hl hz hi hx hlv e1 e2 hzn hn hf y0 y1 y3
    go_enter Try.func19, Try.ntmps19
    go_wp2_with fail
    refine HA.out.mono ?_; rintro e w' ⟨rfl, rfl⟩
    go_wp2_with fail
    go_ret
    exact ⟨a2, c2, rfl, HC.out, rfl⟩

theorem rflight_any {w : World} {B P : Nat} {S : Nat → Prop} {N : List (Option Line)} (h : RefRep w B P S N) (hn : N.length ≤ 140737488351232) (c : Int) :
    Calls Try.prog 20 #[.pointer (some ⟨P, 0, none⟩), .int .i64 c] w fun e w' => e = .returned (.int .i64 (flightN N c)) ∧ w = w' := by
  have HA := Lib.hid (at_any h hn c)
  obtain ⟨T, lv, zs, h, hN⟩ := h
  cases hl : lineAt N c with
  | none =>
    rw [show atN N c = -1 from by unfold atN; rw [hl]] at HA
    rw [show flightN N c = 0 from by unfold flightN; rw [hl]]
    clear h hN hl
    go_enter Try.func20, Try.ntmps20
    go_wp2_with fail
    refine HA.out.mono ?_; rintro e w' ⟨rfl, rfl⟩
    go_wp2_with fail
    go_ret
    exact ⟨rfl, rfl⟩
  | some p =>
    obtain ⟨i, x⟩ := p
    rw [show atN N c = (i : Int) from by unfold atN; rw [hl]] at HA
    rw [show flightN N c = x.way.length from by unfold flightN; rw [hl]]
    obtain ⟨z, g, cp, a1, a2, c1, c2, hz, hi, hx, rfl, hlv, e1, e2, ⟨d0, y0, y1, y2, y3, hlt, hle, hf, hne⟩⟩ := h.at hN hn hl
    obtain ⟨n, hzn⟩ : ∃ n, zs.length = n := ⟨_, rfl⟩
    rw [hzn] at d0 hlt hle
    have q4 : (i : Int) < n := by omega
    have q5 : ¬ (i : Int) < 0 := by omega
    have q6 : (0 : Int) ≤ i := by omega
    clear h hN hl hz hi hx hlv e1 e2 hzn hn hf y0 y2 y3
    go_enter Try.func20, Try.ntmps20
    go_wp2_with fail
    refine HA.out.mono ?_; rintro e w' ⟨rfl, rfl⟩
    go_wp2_with fail
    go_ret
    exact ⟨rfl, rfl⟩

theorem rover_any {w : World} {B P : Nat} {S : Nat → Prop} {N : List (Option Line)} (h : RefRep w B P S N) (hn : N.length ≤ 140737488351232) (c : Int) :
    Calls Try.prog 21 #[.pointer (some ⟨P, 0, none⟩), .int .i64 c] w fun e w' => e = .returned (.bool (overN N c)) ∧ w = w' := by
  have HA := Lib.hid (at_any h hn c)
  obtain ⟨T, lv, zs, h, hN⟩ := h
  cases hl : lineAt N c with
  | none =>
    rw [show atN N c = -1 from by unfold atN; rw [hl]] at HA
    rw [show overN N c = false from by unfold overN; rw [hl]]
    clear h hN hl
    go_enter Try.func21, Try.ntmps21
    go_wp2_with fail
    refine HA.out.mono ?_; rintro e w' ⟨rfl, rfl⟩
    go_wp2_with fail
    go_ret
    exact ⟨rfl, rfl⟩
  | some p =>
    obtain ⟨i, x⟩ := p
    rw [show atN N c = (i : Int) from by unfold atN; rw [hl]] at HA
    have HE : Hid (overN N c = (x.cut && x.way.isEmpty)) := Lib.hid (by unfold overN; rw [hl])
    rw [HE.out]
    obtain ⟨z, g, cp, a1, a2, c1, c2, hz, hi, hx, rfl, hlv, e1, e2, ⟨d0, y0, y1, y2, y3, hlt, hle, hf, hne⟩⟩ := h.at hN hn hl
    obtain ⟨n, hzn⟩ : ∃ n, zs.length = n := ⟨_, rfl⟩
    rw [hzn] at d0 hlt hle
    have q4 : (i : Int) < n := by omega
    have q5 : ¬ (i : Int) < 0 := by omega
    have q6 : (0 : Int) ≤ i := by omega
    clear h hN hl hz hi hx hlv e1 e2 hzn hn hf y0 y2 HE
    cases hcut : x.cut with
    | false =>
      rw [hcut] at y3
      rw [Bool.false_and]
      go_enter Try.func21, Try.ntmps21
      go_wp2_with fail
      refine HA.out.mono ?_; rintro e w' ⟨rfl, rfl⟩
      go_wp2_with fail
      go_ret
      exact ⟨rfl, rfl⟩
    | true =>
      rw [hcut] at y3
      rw [Bool.true_and]
      obtain ⟨m, hm⟩ : ∃ m, x.way.length = m := ⟨_, rfl⟩
      rw [hm] at y1
      have HB : Hid (x.way.isEmpty = decide (m = 0)) := Lib.hid (by rw [← hm]; cases x.way <;> simp)
      rw [HB.out]
      clear hm HB
      by_cases hm0 : m = 0
      · subst hm0
        go_enter Try.func21, Try.ntmps21
        go_wp2_with fail
        refine HA.out.mono ?_; rintro e w' ⟨rfl, rfl⟩
        go_wp2_with fail
        go_ret
        exact ⟨rfl, rfl⟩
      · have hm1 : ((m : Int) == 0) = false := by simpa using hm0
        rw [decide_eq_false hm0]
        go_enter Try.func21, Try.ntmps21
        go_wp2_with fail
        refine HA.out.mono ?_; rintro e w' ⟨rfl, rfl⟩
        go_wp2_with fail
        go_ret
        exact ⟨rfl, rfl⟩
end Go.Proofs.Yteopfknoemifgaa
