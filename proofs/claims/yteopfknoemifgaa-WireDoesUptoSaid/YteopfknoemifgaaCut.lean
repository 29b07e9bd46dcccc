/- Layer 9: the walk of WireCut. Conditions: the arguments can be read; the bytes are at most 2^47 - 4096. -/
import Derived.Test.YteopfknoemifgaaP8
import Derived.Deep.RegionHeld3
namespace Go.Proofs.Yteopfknoemifgaa
open Go.RowKit
set_option linter.unusedSimpArgs false
set_option linter.unusedVariables false

theorem mod_fact (x m : Int) (h1 : 0 < m) (h2 : m ≤ 1000000000000000) : ∃ k : Nat, wrap64 ((IntKind.u64.wrap x).tmod m) = (k : Int) ∧ (k : Int) < m := by
  have hw : 0 ≤ IntKind.u64.wrap x := by
    unfold IntKind.wrap
    simp [IntKind.signed, IntKind.bits]
    omega
  rw [Int.tmod_eq_emod_of_nonneg hw]
  have h3 := Int.emod_nonneg (IntKind.u64.wrap x) (b := m) (by omega)
  have h4 := Int.emod_lt_of_pos (IntKind.u64.wrap x) h1
  generalize IntKind.u64.wrap x % m = y at *
  exact ⟨y.toNat, by unfold wrap64; omega, by omega⟩
theorem strOf_append (p q : List UInt8) : strOf p ++ strOf q = strOf (p ++ q) := by
  apply ByteArray.ext
  simp [strOf]
theorem cut1 (x : Line) (hx : x.cut = false) (k : Nat) : cutE [some x] 1 k = 0 ∧ cutN [some x] 1 k = [some { x with way := x.way.take k, cut := true }] := by
  have h1 : lineAt [some x] 1 = some (0, x) := rfl
  have h2 : liveE [some x] 1 = 0 := by unfold liveE; rw [h1]; simp [hx]
  have h3 : cutE [some x] 1 k = 0 := by unfold cutE; rw [if_pos h2, if_neg (by omega)]
  exact ⟨h3, by unfold cutN setLine; rw [if_pos h3, h1]; simp⟩
theorem take1 (x : Line) (k : Nat) : takeE [some x] 1 k = 0 ∧ takenN [some x] 1 k = x.way.take k ∧ takeN [some x] 1 k = [some { x with way := x.way.drop k }] := by
  have h1 : lineAt [some x] 1 = some (0, x) := rfl
  have h3 : takeE [some x] 1 k = 0 := by unfold takeE; rw [h1, if_neg (by simp), if_neg (by omega)]
  exact ⟨h3, by unfold takenN; rw [if_pos h3, h1]; simp, by unfold takeN setLine; rw [if_pos h3, h1]; simp⟩

/-- There is a network, and beside it a row of bytes that is none of its own. -/
def Okay (W : World) (nb : Nat) (N : List (Option Line)) (a : Option Addr) (q : List UInt8) (w : World) : Prop :=
  ∃ S, NetRep w W.heap.size nb S N ∧ Below W.heap.size W w ∧ (∀ y, a = some y → ¬ S y.block ∧ y.block < w.heap.size) ∧ Cells w.heap.size w a (bys q)
theorem Okay.net {W w : World} {nb : Nat} {N : List (Option Line)} {a : Option Addr} {q : List UInt8} (h : Okay W nb N a q w) : Net1 W nb N w := by
  obtain ⟨S, h1, h2, _⟩ := h; exact ⟨S, h1, h2⟩
theorem Okay.is {W w : World} {nb : Nat} {N : List (Option Line)} {a : Option Addr} {q : List UInt8} (h : Okay W nb N a q w) : Below W.heap.size W w := h.net.is
theorem Okay.cells {W w : World} {nb : Nat} {N : List (Option Line)} {a : Option Addr} {q : List UInt8} (h : Okay W nb N a q w) : Cells w.heap.size w a (bys q) := by
  obtain ⟨S, h1, h2, h3, h4⟩ := h; exact h4
theorem Okay.below {W w w' : World} {nb : Nat} {N : List (Option Line)} {a : Option Addr} {q : List UInt8} (h : Okay W nb N a q w) (hb : Below w.heap.size w w') : Okay W nb N a q w' := by
  obtain ⟨S, h1, h2, h3, h4⟩ := h
  exact ⟨S, h1.of_heap hb.size fun k hk => hb.block k (h1.bd k hk).2, h2.trans (hb.mono h2.size), fun y hy => ⟨(h3 y hy).1, Nat.lt_of_lt_of_le (h3 y hy).2 hb.size⟩, h4.of_heap (fun y hy => hb.block _ (h3 y hy).2) (Nat.le_refl _) hb.size⟩
theorem Okay.moved {W w w' : World} {nb : Nat} {N N' : List (Option Line)} {a : Option Addr} {q : List UInt8} {S : Nat → Prop} (h1 : NetRep w W.heap.size nb S N) (h2 : Below W.heap.size W w) (h3 : ∀ y, a = some y → ¬ S y.block ∧ y.block < w.heap.size) (h4 : Cells w.heap.size w a (bys q))
    (hm : NMoved W.heap.size nb S N' w w') : Okay W nb N' a q w' := by
  obtain ⟨S', a1, a2, a3⟩ := hm
  exact ⟨S', a1, h2.trans (a3.below (fun k hk => (h1.bd k hk).1) h2.size), fun y hy => ⟨fun hk => by rcases a2 _ hk with h | h; exact (h3 y hy).1 h; have := (h3 y hy).2; omega, Nat.lt_of_lt_of_le (h3 y hy).2 a3.size⟩, h4.of_heap (fun y hy => a3.block _ (h3 y hy).2 (h3 y hy).1) (Nat.le_refl _) a3.size⟩
theorem take_o {W w : World} {nb : Nat} {N : List (Option Line)} (c k e0 : Int) (l : List UInt8) (N' : List (Option Line)) (h : Net1 W nb N w) (hc : (Lit.int .i64 c).wf = true) (hk : k ≤ 9223372036854775807)
    (hz : ∀ (i : Nat) (x : Line), N[i]? = some (some x) → x.way.length ≤ 140737488351232) (he : takeE N c k = e0) (hl : takenN N c k = l) (hn : takeN N c k = N') :
    Calls Try.prog 10 #[.pointer (some ⟨nb, 0, none⟩), .int .i64 c, .int .i64 k] w fun e w' => ∃ a cap, e = .returned (.tuple #[.slice a l.length cap, .int .i64 e0]) ∧ Okay W nb N' a l w' := by
  obtain ⟨S, h1, h2⟩ := h
  subst he hn hl
  refine (take_net h1 c k hc hk hz).mono fun e w' ⟨a, cap, a1, a2, S', a3, a4, a5, a6⟩ => ⟨a, cap, a1, S', a3, h2.trans (a5.below (fun k hk => (h1.bd k hk).1) h2.size), fun y hy => ⟨a6 y hy, (a2.lt y hy).2⟩, a2.cells⟩
theorem drop_o {W w : World} {nb : Nat} {N : List (Option Line)} {a : Option Addr} {q : List UInt8} (c e0 : Int) (N' : List (Option Line)) (h : Okay W nb N a q w) (hc : (Lit.int .i64 c).wf = true) (hz : N.length ≤ 140737488351232) (he : dropE N c = e0) (hn : dropN N c = N') :
    Calls Try.prog 16 #[.pointer (some ⟨nb, 0, none⟩), .int .i64 c] w fun e w' => e = .returned (.int .i64 e0) ∧ Okay W nb N' a q w' := by
  obtain ⟨S, h1, h2, h3, h4⟩ := h
  subst he hn
  exact (drop_any h1 c hc hz).mono fun e w' ⟨a1, a2⟩ => ⟨a1, Okay.moved h1 h2 h3 h4 a2⟩
theorem works_o {W w : World} {nb : Nat} {N : List (Option Line)} {a : Option Addr} {q : List UInt8} (h : Okay W nb N a q w) : Calls Try.prog 12 #[] w fun e w' => e = .returned (.bool true) ∧ Okay W nb N a q w' :=
  (works_h (Below.refl _ w)).mono fun e w' ⟨h1, h2⟩ => ⟨h1, h.below h2⟩

set_option maxRecDepth 100000 in
set_option maxHeartbeats 1000000 in
theorem cut_walk (a : Option Addr) (cap : Nat) (l : List UInt8) (keep : Int) (a2 : Option Addr) (cap2 : Nat) (ts : List Int) (W : World) (h1 : l.length ≤ 140737488351232) (hcap : a = none → cap = 0) (hlc : l.length ≤ cap) (h2 : ts.length ≤ maxLen)
    (hc : Cells W.heap.size W a (bys l)) (hc2 : Cells W.heap.size W a2 (ts.map (.int .i64))) :
    Calls Try.prog 4 #[.slice a l.length cap, .int .i64 keep, .slice a2 ts.length cap2] W fun e w' => e = .returned (.bool true) ∧ Below W.heap.size W w' := by
  unfold maxLen at h2
  have HC := Lib.hid hc
  have HC2 := Lib.hid hc2
  have HN := Lib.hid hcap
  clear hc hc2 hcap
  obtain ⟨k, hk, hkl⟩ := mod_fact keep ((l.length : Int) + 2) (by omega) (by omega)
  go_enter Try.func4, Try.ntmps4
  go_wp2_with fail
  refine (new_h (Below.refl _ _)).mono ?_; rintro e w1 ⟨nb, rfl, hn⟩
  have HN1 := Lib.hid hn
  clear hn
  go_wp2_with fail
  refine (open_h 1 0 [some newLine] HN1.out (by simp) rfl rfl).mono ?_; rintro e w2 ⟨rfl, hn2⟩
  have HN2 := Lib.hid hn2
  clear hn2
  go_wp2_with fail
  refine (send_h 1 0 l [some { way := l, back := [], cut := false }] _ _ _ _ HN2.out (by decide) rfl (HC.out.below HN2.out.is (Nat.le_refl _)) HN.out (fun i x hx _ => by rw [one_line hx]; simp [newLine]; omega) rfl rfl).mono ?_; rintro e w3 ⟨rfl, hn3⟩
  have HN3 := Lib.hid hn3
  clear hn3
  go_wp2_with fail
  refine (cut_h 1 _ 0 _ HN3.out (by decide) (by omega) (fun i x hx => by rw [one_line hx]; exact h1) (cut1 _ rfl k).1 (cut1 _ rfl k).2).mono ?_; rintro e w4 ⟨rfl, hn4⟩
  have HN4 := Lib.hid hn4
  clear hn4
  go_wp2_with fail
  refine (send_h 1 24 l [some { way := l.take k, back := [], cut := true }] _ _ _ _ HN4.out (by decide) rfl (HC.out.below HN4.out.is (Nat.le_refl _)) HN.out (fun i x hx hcut => by rw [one_line hx] at hcut; cases hcut) rfl rfl).mono ?_; rintro e w5 ⟨rfl, hn5⟩
  have HN5 := Lib.hid hn5
  clear hn5
  go_wp2_with fail
  refine (answer_h 1 24 l [some { way := l.take k, back := [], cut := true }] _ _ _ _ HN5.out (by decide) rfl (HC.out.below HN5.out.is (Nat.le_refl _)) HN.out (fun i x hx hcut => by rw [one_line hx] at hcut; cases hcut) rfl rfl).mono ?_; rintro e w6 ⟨rfl, hn6⟩
  have HN6 := Lib.hid hn6
  clear hn6
  go_wp2_with fail
  refine (cut_h 1 0 24 [some { way := l.take k, back := [], cut := true }] HN6.out (by decide) (by omega) (fun i x hx => by rw [one_line hx]; simp; omega) rfl rfl).mono ?_; rintro e w7 ⟨rfl, hn7⟩
  have HN7 := Lib.hid hn7
  clear hn7
  go_wp2_with fail
  go_loopw [12, 13] (fun took i wr => ∃ (j : Nat) (p q : List UInt8), j ≤ ts.length ∧ i = .int .i64 j ∧ took = .string (strOf p) ∧ Hid (p ++ q = l.take k) ∧ Net1 W nb [some { way := q, back := [], cut := true }] wr) (fun _ i _ => ts.length - (intOf i).toNat)
  case atStart => exact ⟨0, [], l.take k, Nat.zero_le _, rfl, rfl, Lib.hid rfl, HN7.out⟩
  case round =>
    obtain ⟨j, p, q, hj, rfl, rfl, hpq, hn⟩ := hrel
    have hql : q.length ≤ l.length := by have := congrArg List.length hpq.out; simp at this; omega
    by_cases hlt : j < ts.length
    · obtain ⟨t, ht⟩ : ∃ t, ts[j]? = some t := ⟨_, List.getElem?_eq_getElem hlt⟩
      obtain ⟨g, off, rfl, hg, ct⟩ : ∃ b off, a2 = some ⟨b, off, none⟩ ∧ b < W.heap.size ∧ wr.cell? ⟨b, off + j, none⟩ = some (.int .i64 t) := by
        rcases HC2.out.below hn.is (Nat.le_refl _) with h | ⟨b, off, h1, h2, h3⟩
        · have := (List.getElem?_eq_some_iff.1 ht).1; have h := congrArg List.length h; rw [List.length_map] at h; simp only [List.length_nil] at h; omega
        · exact ⟨b, off, h1, h2, h3 j _ (by rw [List.getElem?_map, ht]; rfl)⟩
      clear ht
      obtain ⟨m, hm, hm9⟩ := mod_fact t 9 (by omega) (by omega)
      have HNR := Lib.hid hn
      clear hn
      go_wp2_with fail
      obtain ⟨r, hr⟩ : ∃ r, q.take m = r := ⟨_, rfl⟩
      have HR := Lib.hid hr
      clear hr
      refine (take_h 1 _ 0 r _ HNR.out (by decide) (by omega) (fun i x hx => by rw [one_line hx]; simp; omega) (take1 _ m).1 ((take1 _ m).2.1.trans HR.out) (take1 _ m).2.2).mono ?_; rintro e w8 ⟨a8, c8, rfl, hc8, hn8⟩
      have hcv := conv_cells w8 a8 c8 _ r hc8
      have hsa := strOf_append p r
      have hadd := run_string_add_sum (P := Try.prog) (w := w8) (strOf p) (strOf r) (by rw [strOf_size, strOf_size]; have h1 := congrArg List.length hpq.out; have h2 := congrArg List.length HR.out; simp at h1 h2; omega)
      rw [hsa] at hadd
      have HN8 := Lib.hid hn8
      clear hc8 hn8 hm
      go_wp2_with fail
      go_roundw
      case rel => exact ⟨j + 1, p ++ r, q.drop m, by omega, by go_num, rfl, Lib.hid (by rw [← HR.out, List.append_assoc, List.take_append_drop]; exact hpq.out), HN8.out⟩
      case measure => simp [intOf]; omega
    · have HNR := Lib.hid hn
      clear hn
      go_wp2_with fail
      refine (take_o 1 l.length 0 q _ HNR.out (by decide) (by omega) (fun i x hx => by rw [one_line hx]; simp; omega) (take1 _ l.length).1 ((take1 _ l.length).2.1.trans (List.take_of_length_le hql)) ((take1 _ l.length).2.2.trans (by rw [List.drop_of_length_le hql]))).mono ?_; rintro e w8 ⟨a8, c8, rfl, ho8⟩
      have HN8 := Lib.hid (ho8.below (Below.refl _ w8).drew)
      obtain ⟨m, hm1, hm2⟩ : ∃ m, l.take m = l.take k ∧ (k ≤ l.length ∧ m = k ∨ l.length < k ∧ m = l.length) := by
        by_cases h : k ≤ l.length
        · exact ⟨k, rfl, .inl ⟨h, rfl⟩⟩
        · exact ⟨l.length, by rw [List.take_of_length_le (Nat.le_refl _), List.take_of_length_le (by omega)], .inr ⟨by omega, rfl⟩⟩
      have hml : (l.take m).length = m := by simp; omega
      have HS8 : Hid (∀ (u : World) (N : List (Option Line)), Okay W nb N a8 q u → (convert 30 9 (.slice a8 q.length c8)).run Try.prog u = .ok (.string (strOf q)) u ∧ (convert 30 9 (.slice a m cap)).run Try.prog u = .ok (.string (strOf (l.take k))) u) :=
        Lib.hid fun u N hu => ⟨conv_cells u a8 c8 _ q hu.cells, by
          have := conv_cells u a cap _ (l.take m) (by have := (HC.out.below hu.is (Nat.le_refl _)).take m; rw [bys_take] at this; exact this)
          rw [hml, hm1] at this; exact this⟩
      have hsa : strOf p ++ strOf q = strOf (l.take k) := by rw [strOf_append, hpq.out]
      have hadd := fun u => run_string_add_sum (P := Try.prog) (w := u) (strOf p) (strOf q) (by rw [strOf_size, strOf_size]; have h1 := congrArg List.length hpq.out; simp at h1; omega)
      clear hml hm1 ho8
      have q0 : (0 : Int) ≤ k := by omega
      have q1 : (l.length : Int) ≤ cap := by omega
      rw [hsa] at hadd
      clear hsa
      have hm2 : (k < l.length ∧ m = k) ∨ (k = l.length ∧ m = l.length) ∨ (l.length < k ∧ m = l.length) := by omega
      rcases hm2 with ⟨hm3, hmk⟩ | ⟨hm3, hmk⟩ | ⟨hm3, hmk⟩
      · subst hmk
        have q2 : (m : Int) < l.length := by omega
        have q6 : ¬ (l.length : Int) < m := by omega
        have q3 : (m : Int) ≤ cap := by omega
        have q4 : m ≤ cap := by omega
        have q5 : (0 : Int) ≤ m := by omega
        have q7 : ¬ l.length < m := by omega
        have q8 : (if l.length < m then (l.length : Int) else (m : Int)) = m := if_neg q7
        have q9 : (if (l.length : Int) < m then (l.length : Int) else (m : Int)) = m := if_neg q6
        go_wp2_with fail
        go_region_held3 (fun u : World => (convert 30 9 (.slice a8 q.length c8)).run Try.prog u = .ok (.string (strOf q)) u ∧ (convert 30 9 (.slice a m cap)).run Try.prog u = .ok (.string (strOf (l.take m))) u) (first | exact HS8.out _ _ hn11 | exact HS8.out _ _ hn10 | exact HS8.out _ _ hn9 | exact HS8.out _ _ HN8.out) (first | (go_at_call 15; ((with_reducible refine (over_h 1 true HN8.out.net (by decide) rfl).mono ?_); rintro e w' ⟨rfl, rfl⟩)) | (go_at_call 16; ((with_reducible refine (drop_o 1 0 [none] HN8.out (by decide) (by simp) rfl rfl).mono ?_); rintro e w9 ⟨rfl, hn9⟩)) | (go_at_call 16; ((with_reducible refine (drop_o 1 23 [none] hn9 (by decide) (by simp) rfl rfl).mono ?_); rintro e w10 ⟨rfl, hn10⟩)) | (go_at_call 12; ((with_reducible refine (works_o hn10).mono ?_); rintro e w11 ⟨rfl, hn11⟩)))
        go_wp2_with fail
        go_ret
        exact ⟨rfl, hn11.is⟩
      · subst hmk
        subst hm3
        go_wp2_with fail
        go_region_held3 (fun u : World => (convert 30 9 (.slice a8 q.length c8)).run Try.prog u = .ok (.string (strOf q)) u ∧ (convert 30 9 (.slice a l.length cap)).run Try.prog u = .ok (.string (strOf (l.take l.length))) u) (first | exact HS8.out _ _ hn11 | exact HS8.out _ _ hn10 | exact HS8.out _ _ hn9 | exact HS8.out _ _ HN8.out) (first | (go_at_call 15; ((with_reducible refine (over_h 1 true HN8.out.net (by decide) rfl).mono ?_); rintro e w' ⟨rfl, rfl⟩)) | (go_at_call 16; ((with_reducible refine (drop_o 1 0 [none] HN8.out (by decide) (by simp) rfl rfl).mono ?_); rintro e w9 ⟨rfl, hn9⟩)) | (go_at_call 16; ((with_reducible refine (drop_o 1 23 [none] hn9 (by decide) (by simp) rfl rfl).mono ?_); rintro e w10 ⟨rfl, hn10⟩)) | (go_at_call 12; ((with_reducible refine (works_o hn10).mono ?_); rintro e w11 ⟨rfl, hn11⟩)))
        go_wp2_with fail
        go_ret
        exact ⟨rfl, hn11.is⟩
      · subst hmk
        have q2 : ¬ (k : Int) ≤ l.length := by omega
        have q3 : (l.length : Int) < k := by omega
        go_wp2_with fail
        go_region_held3 (fun u : World => (convert 30 9 (.slice a8 q.length c8)).run Try.prog u = .ok (.string (strOf q)) u ∧ (convert 30 9 (.slice a l.length cap)).run Try.prog u = .ok (.string (strOf (l.take k))) u) (first | exact HS8.out _ _ hn11 | exact HS8.out _ _ hn10 | exact HS8.out _ _ hn9 | exact HS8.out _ _ HN8.out) (first | (go_at_call 15; ((with_reducible refine (over_h 1 true HN8.out.net (by decide) rfl).mono ?_); rintro e w' ⟨rfl, rfl⟩)) | (go_at_call 16; ((with_reducible refine (drop_o 1 0 [none] HN8.out (by decide) (by simp) rfl rfl).mono ?_); rintro e w9 ⟨rfl, hn9⟩)) | (go_at_call 16; ((with_reducible refine (drop_o 1 23 [none] hn9 (by decide) (by simp) rfl rfl).mono ?_); rintro e w10 ⟨rfl, hn10⟩)) | (go_at_call 12; ((with_reducible refine (works_o hn10).mono ?_); rintro e w11 ⟨rfl, hn11⟩)))
        go_wp2_with fail
        go_ret
        exact ⟨rfl, hn11.is⟩
end Go.Proofs.Yteopfknoemifgaa
