/- Layer 9: a network in a world that goes on; strings of bytes; what works does. Conditions: the network is there. -/
import Derived.Test.YteopfknoemifgaaP7
import Derived.Laws.BytesArg
import Derived.Lib.SlBytesConst
namespace Go.Proofs.Yteopfknoemifgaa
open Go.RowKit
set_option linter.unusedSimpArgs false
set_option linter.unusedVariables false

def strOf (l : List UInt8) : ByteArray := ⟨l.toArray⟩
theorem strOf_list (l : List UInt8) : (strOf l).toList = l := by simp [strOf]
theorem strOf_size (l : List UInt8) : (strOf l).size = l.length := by simp [strOf, ByteArray.size]
theorem nums_of_bytes (l : List UInt8) : strOfNums (l.map fun c => (c.toNat : Int)) = strOf l := by
  unfold strOfNums strOf
  rw [List.map_map]
  congr 2
  refine (List.map_congr_left fun c _ => ?_).trans (List.map_id l)
  simp
theorem conv_cells (w : World) (a : Option Addr) (cap B : Nat) (l : List UInt8) (hc : Cells B w a (bys l)) :
    (convert 30 9 (.slice a l.length cap)).run Try.prog w = .ok (.string (strOf l)) w := by
  rcases hc with h | ⟨b, off, rfl, _, h⟩
  · have hl : l = [] := by simpa [bys] using h
    subst hl
    cases a with
    | none => exact run_convert_bytes_nil w 30 5 Try.underlying30 Try.underlying5 0 cap 9 Try.underlying9
    | some x =>
      have hl0 : (loadCells x 0).run Try.prog w = .ok #[] w := run_loadCells_list (P := Try.prog) w x [] (fun j v hj => by simp at hj)
      show (convert 30 9 (.slice (some x) 0 cap)).run Try.prog w = _
      rw [run_convert_bytes_string w 30 9 5 _ 0 cap Try.underlying30 Try.underlying5 Try.underlying9]
      exact run_bytesToString w x 0 cap [] (by simpa using hl0)
  · have := run_convert_bytes_arg w 30 5 Try.underlying30 Try.underlying5 b off l.length cap (l.map fun c => (c.toNat : Int)) (by simp) (fun i hi => by
      have hb : (bys l)[i]? = some (.int .u8 (l[i].toNat)) := by simp [bys, hi]
      rw [h i _ hb]; simp [hi]) 9 Try.underlying9
    rw [nums_of_bytes] at this; exact this

def Small (N : List (Option Line)) (M : Nat) : Prop := ∀ (i : Nat) (x : Line), N[i]? = some (some x) → x.way.length ≤ M ∧ x.back.length ≤ M
/-- In w there is a network that is N; all that was in W is as it was. -/
def Net1 (W : World) (nb : Nat) (N : List (Option Line)) (w : World) : Prop := ∃ S, NetRep w W.heap.size nb S N ∧ Below W.heap.size W w
theorem Net1.is {W w : World} {nb : Nat} {N : List (Option Line)} (h : Net1 W nb N w) : Below W.heap.size W w := h.choose_spec.2
theorem Net1.below {W w w' : World} {nb : Nat} {N : List (Option Line)} (h : Net1 W nb N w) (hb : Below w.heap.size w w') : Net1 W nb N w' := by
  obtain ⟨S, h1, h2⟩ := h
  exact ⟨S, h1.of_heap hb.size fun k hk => hb.block k (h1.bd k hk).2, h2.trans (hb.mono h2.size)⟩
theorem Net1.alloc {W w : World} {nb : Nat} {N : List (Option Line)} (h : Net1 W nb N w) (o : Obj) : Net1 W nb N (w.alloc o) := h.below ((Below.refl _ w).alloc (Nat.le_refl _) o)
theorem Net1.moved {W w w' : World} {nb : Nat} {N N' : List (Option Line)} {S : Nat → Prop} (h : NetRep w W.heap.size nb S N) (hb : Below W.heap.size W w) (hm : NMoved W.heap.size nb S N' w w') : Net1 W nb N' w' := by
  obtain ⟨S', h1, _, h3⟩ := hm
  exact ⟨S', h1, hb.trans (h3.below (fun k hk => (h.bd k hk).1) hb.size)⟩

theorem new_h {W w : World} (hb : Below W.heap.size W w) : Calls Try.prog 7 #[] w fun e w' => ∃ nb, e = .returned (.pointer (some ⟨nb, 0, none⟩)) ∧ Net1 W nb [] w' := by
  refine (newnet_any w).mono fun e w' ⟨h1, h2, _, h3⟩ => ?_
  obtain ⟨mb, T, ad, h⟩ := h3
  exact ⟨_, h1, _, ⟨mb, T, ad, { h with bd := fun k hk => ⟨Nat.le_trans hb.size hk.1, (h.bd k hk).2⟩ }⟩, hb.trans (h2.mono hb.size)⟩
theorem open_h {W w : World} {nb : Nat} {N : List (Option Line)} (c e0 : Int) (N' : List (Option Line)) (h : Net1 W nb N w) (hz : N.length ≤ 140737488351232) (he : openE N = (c, e0)) (hn : openedN N = N') :
    Calls Try.prog 8 #[.pointer (some ⟨nb, 0, none⟩)] w fun e w' => e = .returned (.tuple #[.int .i64 c, .int .i64 e0]) ∧ Net1 W nb N' w' := by
  obtain ⟨S, h1, h2⟩ := h
  have := opens_any h1 hz
  rw [he, hn] at this
  exact this.mono fun e w' ⟨a1, a2⟩ => ⟨a1, Net1.moved h1 h2 a2⟩
theorem send_h {W w : World} {nb : Nat} {N : List (Option Line)} (c e0 : Int) (l : List UInt8) (N' : List (Option Line)) (a : Option Addr) (m cap Bc : Nat) (h : Net1 W nb N w) (hc : (Lit.int .i64 c).wf = true) (hm : m = l.length) (hcl : Cells Bc w a (bys l)) (hnone : a = none → cap = 0)
    (hz : ∀ (i : Nat) (x : Line), N[i]? = some (some x) → x.cut = false → x.way.length + l.length ≤ 140737488351232) (he : liveE N c = e0) (hn : sendN N c l = N') :
    Calls Try.prog 9 #[.pointer (some ⟨nb, 0, none⟩), .int .i64 c, .slice a m cap] w fun e w' => e = .returned (.int .i64 e0) ∧ Net1 W nb N' w' := by
  obtain ⟨S, h1, h2⟩ := h
  subst he hn
  exact (send_any h1 c hc a m cap Bc l hm hcl hnone hz).mono fun e w' ⟨a1, a2⟩ => ⟨a1, Net1.moved h1 h2 a2⟩
theorem answer_h {W w : World} {nb : Nat} {N : List (Option Line)} (c e0 : Int) (l : List UInt8) (N' : List (Option Line)) (a : Option Addr) (m cap Bc : Nat) (h : Net1 W nb N w) (hc : (Lit.int .i64 c).wf = true) (hm : m = l.length) (hcl : Cells Bc w a (bys l)) (hnone : a = none → cap = 0)
    (hz : ∀ (i : Nat) (x : Line), N[i]? = some (some x) → x.cut = false → x.back.length + l.length ≤ 140737488351232) (he : liveE N c = e0) (hn : answerN N c l = N') :
    Calls Try.prog 14 #[.pointer (some ⟨nb, 0, none⟩), .int .i64 c, .slice a m cap] w fun e w' => e = .returned (.int .i64 e0) ∧ Net1 W nb N' w' := by
  obtain ⟨S, h1, h2⟩ := h
  subst he hn
  exact (answer_any h1 c hc a m cap Bc l hm hcl hnone hz).mono fun e w' ⟨a1, a2⟩ => ⟨a1, Net1.moved h1 h2 a2⟩
theorem take_h {W w : World} {nb : Nat} {N : List (Option Line)} (c k e0 : Int) (l : List UInt8) (N' : List (Option Line)) (h : Net1 W nb N w) (hc : (Lit.int .i64 c).wf = true) (hk : k ≤ 9223372036854775807)
    (hz : ∀ (i : Nat) (x : Line), N[i]? = some (some x) → x.way.length ≤ 140737488351232) (he : takeE N c k = e0) (hl : takenN N c k = l) (hn : takeN N c k = N') :
    Calls Try.prog 10 #[.pointer (some ⟨nb, 0, none⟩), .int .i64 c, .int .i64 k] w fun e w' => ∃ a cap, e = .returned (.tuple #[.slice a l.length cap, .int .i64 e0]) ∧ Cells w'.heap.size w' a (bys l) ∧ Net1 W nb N' w' := by
  obtain ⟨S, h1, h2⟩ := h
  subst he hn hl
  exact (take_net h1 c k hc hk hz).mono fun e w' ⟨a, cap, a1, a2, S', a3, a4, a5, a6⟩ => ⟨a, cap, a1, a2.cells, Net1.moved h1 h2 ⟨S', a3, a4, a5⟩⟩
theorem cut_h {W w : World} {nb : Nat} {N : List (Option Line)} (c k e0 : Int) (N' : List (Option Line)) (h : Net1 W nb N w) (hc : (Lit.int .i64 c).wf = true) (hk : k ≤ 9223372036854775807)
    (hz : ∀ (i : Nat) (x : Line), N[i]? = some (some x) → x.way.length ≤ 140737488351232) (he : cutE N c k = e0) (hn : cutN N c k = N') :
    Calls Try.prog 13 #[.pointer (some ⟨nb, 0, none⟩), .int .i64 c, .int .i64 k] w fun e w' => e = .returned (.int .i64 e0) ∧ Net1 W nb N' w' := by
  obtain ⟨S, h1, h2⟩ := h
  subst he hn
  exact (cut_any h1 c k hc hk hz).mono fun e w' ⟨a1, a2⟩ => ⟨a1, Net1.moved h1 h2 a2⟩
theorem drop_h {W w : World} {nb : Nat} {N : List (Option Line)} (c e0 : Int) (N' : List (Option Line)) (h : Net1 W nb N w) (hc : (Lit.int .i64 c).wf = true) (hz : N.length ≤ 140737488351232) (he : dropE N c = e0) (hn : dropN N c = N') :
    Calls Try.prog 16 #[.pointer (some ⟨nb, 0, none⟩), .int .i64 c] w fun e w' => e = .returned (.int .i64 e0) ∧ Net1 W nb N' w' := by
  obtain ⟨S, h1, h2⟩ := h
  subst he hn
  exact (drop_any h1 c hc hz).mono fun e w' ⟨a1, a2⟩ => ⟨a1, Net1.moved h1 h2 a2⟩
theorem flight_h {W w : World} {nb : Nat} {N : List (Option Line)} (c : Int) (n : Nat) (h : Net1 W nb N w) (hc : (Lit.int .i64 c).wf = true) (he : flightN N c = n) :
    Calls Try.prog 11 #[.pointer (some ⟨nb, 0, none⟩), .int .i64 c] w fun e w' => e = .returned (.int .i64 n) ∧ w = w' := by
  obtain ⟨S, h1, h2⟩ := h
  subst he
  exact flight_any h1 c hc
theorem over_h {W w : World} {nb : Nat} {N : List (Option Line)} (c : Int) (b : Bool) (h : Net1 W nb N w) (hc : (Lit.int .i64 c).wf = true) (he : overN N c = b) :
    Calls Try.prog 15 #[.pointer (some ⟨nb, 0, none⟩), .int .i64 c] w fun e w' => e = .returned (.bool b) ∧ w = w' := by
  obtain ⟨S, h1, h2⟩ := h
  subst he
  exact over_any h1 c hc
theorem got_h {W w : World} {nb : Nat} {N : List (Option Line)} (c : Int) (l : List UInt8) (h : Net1 W nb N w) (hc : (Lit.int .i64 c).wf = true) (hz : ∀ (i : Nat) (x : Line), N[i]? = some (some x) → x.back.length ≤ 140737488351232) (he : gotN N c = l) :
    Calls Try.prog 18 #[.pointer (some ⟨nb, 0, none⟩), .int .i64 c] w fun e w' => ∃ a cap, e = .returned (.slice a l.length cap) ∧ Cells w'.heap.size w' a (bys l) ∧ Net1 W nb N w' := by
  have hh := h
  obtain ⟨S, h1, h2⟩ := h
  subst he
  exact (got_any h1 c hc hz).mono fun e w' ⟨a, cap, a1, a2, a3⟩ => ⟨a, cap, a1, a2.cells, hh.below a3⟩

theorem one_line {N : Line} {i : Nat} {x : Line} (h : [some N][i]? = some (some x)) : x = N := by
  cases i with
  | zero => simpa using h.symm
  | succ i => simp at h
def lineA : Line := { way := [97, 98, 99], back := [], cut := false }
def lineB : Line := { way := [99], back := [], cut := false }

set_option maxHeartbeats 1000000 in
theorem works_h {W w : World} (h : Below W.heap.size W w) : Calls Try.prog 12 #[] w fun e w' => e = .returned (.bool true) ∧ Below W.heap.size W w' := by
  go_enter Try.func12, Try.ntmps12
  go_wp2_with fail
  refine (new_h h).mono ?_; rintro e w1 ⟨nb, rfl, hn⟩
  go_wp2_with fail
  refine (open_h 1 0 [some newLine] hn (by simp) rfl rfl).mono ?_; rintro e w2 ⟨rfl, hn2⟩
  have kc := fun (w : World) (C : Array Value) (n c : Nat) => Lib.run_convert_bytes_const (P := Try.prog) w 30 5 C n c Try.underlying30 Try.underlying5
  have hcl : Cells (w2.heap.size + 1) (w2.alloc (.cells #[.int .u8 97, .int .u8 98, .int .u8 99] 5 (3, 4))) (some ⟨w2.heap.size, 0, none⟩) (bys [97, 98, 99]) :=
    .inr ⟨_, _, rfl, by omega, fun i v hi => by
      rw [Nat.zero_add]
      have hb : (w2.alloc (.cells #[.int .u8 97, .int .u8 98, .int .u8 99] 5 (3, 4))).heap[w2.heap.size]? = some (.cells #[.int .u8 97, .int .u8 98, .int .u8 99] 5 (3, 4)) := heap_alloc_new w2 _
      rw [cell_of_row _ _ _ _ _ _ hb]
      simpa [bys] using hi⟩
  have HCL := Lib.hid hcl
  have HN2 := Lib.hid (hn2.alloc (.cells #[.int .u8 97, .int .u8 98, .int .u8 99] 5 (3, 4)))
  clear hcl hn2
  go_wp2_with fail
  refine (send_h 1 0 [97, 98, 99] [some lineA] _ _ _ _ HN2.out (by decide) rfl HCL.out (fun h => by cases h) (fun i x hx _ => by rw [one_line hx]; simp [newLine]) rfl rfl).mono ?_; rintro e w3 ⟨rfl, hn3⟩
  go_wp2_with fail
  refine (take_h 1 2 0 [97, 98] [some lineB] hn3 (by decide) (by omega) (fun i x hx => by rw [one_line hx]; simp [lineA]) rfl rfl rfl).mono ?_; rintro e w4 ⟨a4, cap4, rfl, hc4, hn4⟩
  have hcv := conv_cells w4 a4 cap4 _ [97, 98] hc4
  simp only [List.length_cons, List.length_nil] at hcv
  have hst : (strOf [97, 98]).toList = [97, 98] := strOf_list _
  go_wp2_with fail
  refine (flight_h 1 1 hn4 (by decide) rfl).mono ?_; rintro e w' ⟨rfl, rfl⟩
  go_wp2_with fail
  go_ret
  exact ⟨rfl, hn4.is⟩
end Go.Proofs.Yteopfknoemifgaa
