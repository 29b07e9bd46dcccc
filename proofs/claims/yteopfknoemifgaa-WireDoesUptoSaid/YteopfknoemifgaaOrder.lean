/- Layer 9: the walk of WireOrder. Conditions: the arguments can be read; the bytes are together at most 1048576. -/
import Derived.Test.YteopfknoemifgaaCut
import Derived.Test.YteopfknoemifgaaSent
namespace Go.Proofs.Yteopfknoemifgaa
open Go.RowKit
set_option linter.unusedSimpArgs false
set_option linter.unusedVariables false

def lens (os : List Bs) : Nat := (os.map fun o => o.l.length).sum
theorem lens_take (os : List Bs) (j : Nat) : lens (os.take j) ≤ lens os := by
  have : os = os.take j ++ os.drop j := (List.take_append_drop _ _).symm
  unfold lens
  conv => rhs; rw [this, List.map_append, List.sum_append]
  omega
theorem lens_step {os : List Bs} {j : Nat} {o : Bs} (h : os[j]? = some o) : lens (os.take (j + 1)) = lens (os.take j) + o.l.length := by
  rw [take_succ_some h]; unfold lens; simp
theorem send1 (x : Line) (hx : x.cut = false) (l : List UInt8) : liveE [some x] 1 = 0 ∧ sendN [some x] 1 l = [some { x with way := x.way ++ l }] := by
  have h1 : lineAt [some x] 1 = some (0, x) := rfl
  have h2 : liveE [some x] 1 = 0 := by unfold liveE; rw [h1]; simp [hx]
  exact ⟨h2, by unfold sendN setLine; rw [if_pos h2, h1]; rfl⟩
theorem extract_of (T q : List UInt8) : (strOf (T ++ q)).extract 0 T.length = strOf T := by
  apply ByteArray.ext
  simp [strOf]

set_option maxRecDepth 100000 in
set_option maxHeartbeats 2000000 in
theorem order_walk (a : Option Addr) (cap : Nat) (os : List Bs) (a2 : Option Addr) (cap2 : Nat) (ts : List Int) (W : World) (h1 : os.length ≤ maxLen) (h2 : ts.length ≤ maxLen) (hlens : lens os ≤ 1048576)
    (hok : ∀ o ∈ os, o.ok W) (hc : Cells W.heap.size W a (os.map Bs.v)) (hc2 : Cells W.heap.size W a2 (ts.map (.int .i64))) :
    Calls Try.prog 3 #[.slice a os.length cap, .slice a2 ts.length cap2] W fun e w' => e = .returned (.bool true) ∧ Below W.heap.size W w' := by
  unfold maxLen at h1 h2
  have HC := Lib.hid hc
  have HC2 := Lib.hid hc2
  have HOK := Lib.hid hok
  have HLN := Lib.hid hlens
  clear hc hc2 hok hlens
  have hmx : ∃ M : Nat, os.length ≤ M ∧ ts.length ≤ M ∧ M ≤ 9223372036854775807 ∧ ∀ j : Nat, j < M ↔ (j < os.length ∨ j < ts.length) := ⟨max os.length ts.length, by omega, by omega, by omega, fun j => by omega⟩
  obtain ⟨M, hM1, hM2, hM3, hM4⟩ := hmx
  have HM4 := Lib.hid hM4
  clear hM4
  go_enter Try.func3, Try.ntmps3
  go_wp2_with fail
  refine (new_h (Below.refl _ _)).mono ?_; rintro e w1 ⟨nb, rfl, hn⟩
  have HN1 := Lib.hid hn
  clear hn
  go_wp2_with fail
  refine (open_h 1 0 [some newLine] HN1.out (by simp) rfl rfl).mono ?_; rintro e w2 ⟨rfl, hn2⟩
  have HN2 := Lib.hid hn2
  clear hn2
  go_wp2_with fail
  go_loopw [8, 9, 10] (fun all took i wr => ∃ (j : Nat) (T q : List UInt8), j ≤ M ∧ i = .int .i64 j ∧ all = .string (strOf (T ++ q)) ∧ took = .string (strOf T) ∧ Hid (T.length + q.length ≤ lens (os.take j)) ∧ Net1 W nb [some { way := q, back := [], cut := false }] wr) (fun _ _ i _ => M - (intOf i).toNat)
  case atStart => exact ⟨0, [], [], Nat.zero_le _, rfl, rfl, rfl, Lib.hid (by simp), HN2.out⟩
  case round =>
    obtain ⟨j, T, q, hj, rfl, rfl, rfl, hlen, hn⟩ := hrel
    have hbd : T.length + q.length ≤ 1048576 := by have h1 := hlen.out; have h2 := lens_take os j; have h3 := HLN.out; omega
    have HNR := Lib.hid hn
    clear hn
    by_cases hj1 : j < os.length
    · obtain ⟨o, ho⟩ : ∃ o, os[j]? = some o := ⟨_, List.getElem?_eq_getElem hj1⟩
      have hoko := HOK.out o (List.mem_of_getElem? ho)
      have HST := Lib.hid (lens_step ho)
      have hbo : T.length + q.length + o.l.length ≤ 1048576 := by have h1 := hlen.out; have h2 := lens_take os (j + 1); have h3 := HLN.out; have h4 := HST.out; omega
      obtain ⟨g, off, rfl, hg, ct⟩ : ∃ b off, a = some ⟨b, off, none⟩ ∧ b < W.heap.size ∧ ∀ u : World, Below W.heap.size W u → u.cell? ⟨b, off + j, none⟩ = some (.slice o.a o.l.length o.cap) := by
        rcases HC.out with h | ⟨b, off, h1, h2, h3⟩
        · have h := congrArg List.length h; rw [List.length_map] at h; simp only [List.length_nil] at h; omega
        · exact ⟨b, off, h1, h2, fun u hu => by rw [hu.cell (p := ⟨b, off + j, none⟩) h2]; exact h3 j _ (by rw [List.getElem?_map, ho]; rfl)⟩
      clear ho
      have ct1 := ct _ HNR.out.is
      have HCT := Lib.hid ct
      obtain ⟨oc, on, _⟩ := hoko
      have HOC := Lib.hid oc
      have HON := Lib.hid on
      clear ct oc on
      generalize o.a = oa at *
      generalize o.cap = ocap at *
      obtain ⟨ol, hol⟩ : ∃ l, o.l = l := ⟨_, rfl⟩
      rw [hol] at hbo ct1 HCT HOC HST
      clear hol
      go_wp2_with fail
      refine (send_h 1 0 ol _ _ _ _ _ HNR.out (by decide) rfl (HOC.out.below HNR.out.is (Nat.le_refl _)) HON.out (fun i x hx _ => by rw [one_line hx]; simp; omega) (send1 _ rfl ol).1 (send1 _ rfl ol).2).mono ?_; rintro e w3 ⟨rfl, hn3⟩
      have HN3 := Lib.hid hn3
      clear hn3
      have ct3 := HCT.out _ HN3.out.is
      have hcv := conv_cells w3 oa ocap W.heap.size ol (HOC.out.below HN3.out.is (Nat.le_refl _))
      have hsa := strOf_append (T ++ q) ol
      rw [List.append_assoc] at hsa
      have hadd := run_string_add_sum (P := Try.prog) (w := w3) (strOf (T ++ q)) (strOf ol) (by rw [strOf_size, strOf_size]; simp; omega)
      rw [hsa] at hadd
      clear hsa
      by_cases hj2 : j < ts.length
      · obtain ⟨t, ht⟩ : ∃ t, ts[j]? = some t := ⟨_, List.getElem?_eq_getElem hj2⟩
        obtain ⟨g2, off2, rfl, hg2, cu⟩ : ∃ b off, a2 = some ⟨b, off, none⟩ ∧ b < W.heap.size ∧ ∀ u : World, Below W.heap.size W u → u.cell? ⟨b, off + j, none⟩ = some (.int .i64 t) := by
          rcases HC2.out with h | ⟨b, off, h1, h2, h3⟩
          · have h := congrArg List.length h; rw [List.length_map] at h; simp only [List.length_nil] at h; omega
          · exact ⟨b, off, h1, h2, fun u hu => by rw [hu.cell (p := ⟨b, off + j, none⟩) h2]; exact h3 j _ (by rw [List.getElem?_map, ht]; rfl)⟩
        have HCU := Lib.hid cu
        clear cu ht
        obtain ⟨m, hm, hm9⟩ := mod_fact t 9 (by omega) (by omega)
        have cu3 := HCU.out _ HN3.out.is
        go_wp2_with fail
        obtain ⟨r, hr⟩ : ∃ r, (q ++ ol).take m = r := ⟨_, rfl⟩
        have HR := Lib.hid hr
        clear hr
        refine (take_h 1 _ 0 r _ HN3.out (by decide) (by omega) (fun i x hx => by rw [one_line hx]; simp; omega) (take1 _ m).1 ((take1 _ m).2.1.trans HR.out) (take1 _ m).2.2).mono ?_; rintro e w8 ⟨a8, c8, rfl, hc8, hn8⟩
        have cu8 := HCU.out _ hn8.is
        have hrl : r.length ≤ m := by rw [← HR.out]; simp; omega
        have hrl2 : r.length ≤ 1048576 := by have := congrArg List.length HR.out; simp at this; omega
        have hr3 : ¬ m < r.length := by omega
        have hr4 : decide (m < r.length) = false := by simpa using hr3
        have hcv8 := conv_cells w8 a8 c8 _ r hc8
        have hsa8 := strOf_append T r
        have hadd8 := run_string_add_sum (P := Try.prog) (w := w8) (strOf T) (strOf r) (by rw [strOf_size, strOf_size]; omega)
        rw [hsa8] at hadd8
        have HN8 := Lib.hid hn8
        have HEQ : Hid (T ++ (q ++ ol) = T ++ r ++ (q ++ ol).drop m) := Lib.hid (by rw [← HR.out, List.append_assoc, List.take_append_drop])
        clear hc8 hn8 hsa8
        go_wp2_with fail
        go_roundw
        case rel => exact ⟨j + 1, T ++ r, (q ++ ol).drop m, Nat.succ_le_of_lt ((HM4.out j).2 (by omega)), by go_num, by rw [HEQ.out], rfl, Lib.hid (by have h1 := congrArg List.length HEQ.out; simp only [List.length_append] at h1 ⊢; have h2 := HST.out; have h3 := hlen.out; omega), HN8.out⟩
        case measure => simp [intOf]; have := (HM4.out j).2 (by omega); omega
      · go_wp2_with fail
        go_roundw
        case rel => exact ⟨j + 1, T, q ++ ol, Nat.succ_le_of_lt ((HM4.out j).2 (by omega)), by go_num, rfl, rfl, Lib.hid (by have h2 := HST.out; have h3 := hlen.out; simp only [List.length_append]; omega), HN3.out⟩
        case measure => simp [intOf]; have := (HM4.out j).2 (by omega); omega
    · have hlt1 : lens (os.take (j + 1)) = lens (os.take j) := by rw [List.take_of_length_le (by omega), List.take_of_length_le (by omega)]
      have HLT := Lib.hid hlt1
      clear hlt1
      by_cases hj2 : j < ts.length
      · obtain ⟨t, ht⟩ : ∃ t, ts[j]? = some t := ⟨_, List.getElem?_eq_getElem hj2⟩
        obtain ⟨g2, off2, rfl, hg2, cu⟩ : ∃ b off, a2 = some ⟨b, off, none⟩ ∧ b < W.heap.size ∧ ∀ u : World, Below W.heap.size W u → u.cell? ⟨b, off + j, none⟩ = some (.int .i64 t) := by
          rcases HC2.out with h | ⟨b, off, h1, h2, h3⟩
          · have h := congrArg List.length h; rw [List.length_map] at h; simp only [List.length_nil] at h; omega
          · exact ⟨b, off, h1, h2, fun u hu => by rw [hu.cell (p := ⟨b, off + j, none⟩) h2]; exact h3 j _ (by rw [List.getElem?_map, ht]; rfl)⟩
        have HCU := Lib.hid cu
        clear cu ht
        obtain ⟨m, hm, hm9⟩ := mod_fact t 9 (by omega) (by omega)
        have cu3 := HCU.out _ HNR.out.is
        go_wp2_with fail
        obtain ⟨r, hr⟩ : ∃ r, (q).take m = r := ⟨_, rfl⟩
        have HR := Lib.hid hr
        clear hr
        refine (take_h 1 _ 0 r _ HNR.out (by decide) (by omega) (fun i x hx => by rw [one_line hx]; simp; omega) (take1 _ m).1 ((take1 _ m).2.1.trans HR.out) (take1 _ m).2.2).mono ?_; rintro e w8 ⟨a8, c8, rfl, hc8, hn8⟩
        have cu8 := HCU.out _ hn8.is
        have hrl : r.length ≤ m := by rw [← HR.out]; simp; omega
        have hrl2 : r.length ≤ 1048576 := by have := congrArg List.length HR.out; simp at this; omega
        have hr3 : ¬ m < r.length := by omega
        have hr4 : decide (m < r.length) = false := by simpa using hr3
        have hcv8 := conv_cells w8 a8 c8 _ r hc8
        have hsa8 := strOf_append T r
        have hadd8 := run_string_add_sum (P := Try.prog) (w := w8) (strOf T) (strOf r) (by rw [strOf_size, strOf_size]; omega)
        rw [hsa8] at hadd8
        have HN8 := Lib.hid hn8
        have HEQ : Hid (T ++ (q) = T ++ r ++ (q).drop m) := Lib.hid (by rw [← HR.out, List.append_assoc, List.take_append_drop])
        clear hc8 hn8 hsa8
        go_wp2_with fail
        go_roundw
        case rel => exact ⟨j + 1, T ++ r, (q).drop m, Nat.succ_le_of_lt ((HM4.out j).2 (by omega)), by go_num, by rw [HEQ.out], rfl, Lib.hid (by have h1 := congrArg List.length HEQ.out; simp only [List.length_append] at h1 ⊢; have h2 := HLT.out; have h3 := hlen.out; omega), HN8.out⟩
        case measure => simp [intOf]; have := (HM4.out j).2 (by omega); omega
      · obtain ⟨n0, hn0⟩ : ∃ n, T.length = n := ⟨_, rfl⟩
        obtain ⟨k0, hk0⟩ : ∃ n, q.length = n := ⟨_, rfl⟩
        obtain ⟨m0, hm0⟩ : ∃ n, n0 + k0 = n := ⟨_, rfl⟩
        have hx := extract_of T q
        have hs1 := strOf_size (T ++ q)
        have hs2 := strOf_size T
        rw [hn0] at hx hs2
        rw [List.length_append, hn0, hk0, hm0] at hs1
        have hs4 : n0 ≤ m0 := by omega
        have hs5 : m0 ≤ 1048576 := by omega
        have hs3 : Hid ((m0 : Int) - n0 = k0) := Lib.hid (by omega)
        have HK0 := Lib.hid hk0
        clear hn0 hk0 hm0 hbd
        go_wp2_with fail
        refine (flight_h 1 k0 HNR.out (by decide) HK0.out).mono ?_; rintro e w' ⟨rfl, rfl⟩
        have hs6 := hs3.out
        clear hx
        go_wp2_with fail
        refine (works_h HNR.out.is).mono ?_; rintro e w9 ⟨rfl, hb9⟩
        go_wp2_with fail
        go_ret
        exact ⟨rfl, hb9⟩
end Go.Proofs.Yteopfknoemifgaa
