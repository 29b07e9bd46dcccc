/- The contract of num.Parse: what a text is as a number. Conditions: the text can be read. -/
import Derived.Test.YtkmjchpmbndpiaaP5
import Derived.Lib.Strings
import Derived.Lib.IndexBytes
namespace Go.Proofs.Ytkmjchpmbndpiaa
open Go.RowKit
set_option linter.unusedSimpArgs false
set_option linter.unusedVariables false

def isDig (c : UInt8) : Bool := 48 ≤ c.toNat && c.toNat ≤ 57
def valOf (l : List UInt8) : Nat := l.foldl (fun v c => v * 10 + (c.toNat - 48)) 0
def parseS (below : Bool) (d : List UInt8) : Int × Int :=
  if d = [] ∨ (d.head? = some 48 ∧ (1 < d.length ∨ below = true)) ∨ d.all isDig = false then (0, 1)
  else (chkV (if below then -(valOf d : Int) else valOf d), chkE (if below then -(valOf d : Int) else valOf d))
def parseOf (l : List UInt8) : Int × Int := if l.head? = some 45 then parseS true l.tail else parseS false l

theorem ba_empty {s : ByteArray} (h : s.size = 0) : s.toList.isEmpty = true ∧ s.toList = [] := by
  rw [ByteArray.toList_eq]
  have : s.data.toList = [] := by
    have h' : s.data.toList.length = 0 := by simpa using h
    exact List.length_eq_zero_iff.1 h'
  rw [this]; exact ⟨rfl, rfl⟩
theorem ba_ne {s : ByteArray} (h : 0 < s.size) : s.toList.isEmpty = false ∧ ¬ s.toList = [] := by
  rw [ByteArray.toList_eq]
  have : s.data.toList ≠ [] := fun h0 => by
    have h' : s.data.toList.length = 0 := by rw [h0]; rfl
    have h2 : s.data.toList.length = s.size := by simp
    omega
  exact ⟨by simpa using this, this⟩
theorem get_list (s : ByteArray) (k : Nat) (h : k < s.size) : s.data.toList[k]? = some s[k] := by
  rw [List.getElem?_eq_getElem (by simpa using h)]; rfl
theorem head_list (s : ByteArray) (h : 0 < s.size) : s.data.toList.head? = some s[0] := by
  rw [← get_list s 0 h]; exact List.head?_eq_getElem?
theorem len_list (s : ByteArray) : s.data.toList.length = s.size := by simp
theorem ne_list (s : ByteArray) (h : 0 < s.size) : s.data.toList ≠ [] := fun h0 => by
  have h2 := len_list s
  rw [h0] at h2; simp at h2; omega

/-- What stands in the loop's slots after k digits. -/
def Num (l : List UInt8) (k : Nat) (m : Int) (over : Bool) : Prop :=
  (l.take k).all isDig = true ∧ 0 ≤ m ∧ m ≤ 18446744073709551615 ∧ (over = false → m = valOf (l.take k)) ∧ (over = true → 9223372036854775808 < valOf (l.take k))
theorem valOf_snoc (l : List UInt8) (c : UInt8) : valOf (l ++ [c]) = valOf l * 10 + (c.toNat - 48) := by simp [valOf]
theorem Num.zero (l : List UInt8) : Num l 0 0 false := by simp [Num, valOf]
theorem isDig_iff (c : UInt8) {n : Int} (h : (c.toNat : Int) = n) : isDig c = true ↔ 48 ≤ n ∧ n ≤ 57 := by
  unfold isDig; simp only [Bool.and_eq_true, decide_eq_true_eq]; omega
theorem Num.step {l : List UInt8} {k : Nat} {m n m' : Int} {over over' : Bool} {c : UInt8} (h : Num l k m over) (hc : l[k]? = some c) (hn : (c.toNat : Int) = n) (h1 : 48 ≤ n) (h2 : n ≤ 57)
    (ho : over' = (over || decide (1152921504606846976 < m))) (hm : m' = IntKind.u64.wrap (IntKind.u64.wrap (m * 10) + (n - 48))) : Num l (k + 1) m' over' := by
  obtain ⟨a1, a2, a3, a4, a5⟩ := h
  have hd := (isDig_iff c hn).2 ⟨h1, h2⟩
  have hv : valOf (l.take (k + 1)) = valOf (l.take k) * 10 + (c.toNat - 48) := by rw [take_succ_some hc, valOf_snoc]
  simp only [IntKind.wrap_u64] at hm
  refine ⟨by rw [take_succ_some hc, List.all_append, a1]; simp [hd], by omega, by omega, fun h => ?_, fun h => ?_⟩
  · rw [ho, Bool.or_eq_false_iff, decide_eq_false_iff_not] at h
    have := a4 h.1
    rw [hv]; omega
  · rw [ho, Bool.or_eq_true, decide_eq_true_eq] at h
    rw [hv]
    rcases h with h | h
    · have := a5 h; omega
    · cases over with
      | true => have := a5 rfl; omega
      | false => have := a4 rfl; omega
theorem all_false {l : List UInt8} {k : Nat} {c : UInt8} {n : Int} (hc : l[k]? = some c) (hn : (c.toNat : Int) = n) (h : n < 48 ∨ 57 < n) : l.all isDig = false := by
  cases ha : l.all isDig with
  | false => rfl
  | true =>
    have := List.all_eq_true.1 ha c (List.mem_of_getElem? hc)
    rw [isDig_iff c hn] at this; omega
theorem parseS_bad {b : Bool} {l : List UInt8} {k : Nat} {c : UInt8} {n : Int} (hc : l[k]? = some c) (hn : (c.toNat : Int) = n) (h : n < 48 ∨ 57 < n) : parseS b l = (0, 1) := by
  unfold parseS
  rw [if_pos]
  refine .inr (.inr ?_)
  cases ha : l.all isDig with
  | false => rfl
  | true =>
    have := List.all_eq_true.1 ha c (List.mem_of_getElem? hc)
    rw [isDig_iff c hn] at this; omega
theorem parseS_good {b : Bool} {l : List UInt8} {m : Int} {over : Bool} (h : Num l l.length m over) (h0 : l ≠ []) (hz : ¬ (l.head? = some 48 ∧ (1 < l.length ∨ b = true))) :
    parseS b l = if over then (0, 4) else (chkV (if b then -m else m), chkE (if b then -m else m)) := by
  obtain ⟨a1, a2, a3, a4, a5⟩ := h
  rw [List.take_length] at a1 a4 a5
  unfold parseS
  rw [if_neg (by rintro (h | h | h); exact h0 h; exact hz h; rw [a1] at h; cases h)]
  cases over with
  | false => rw [← a4 rfl]; rfl
  | true =>
    have := a5 rfl
    have hn : ¬ In64 (if b then -(valOf l : Int) else valOf l) := by
      unfold In64; cases b
      · simp only [Bool.false_eq_true, if_false]; omega
      · simp only [if_true]; omega
    rw [(chk_out hn).1, (chk_out hn).2]; rfl
theorem pair_ret {a b : Int} {p : Int × Int} (h : p = (a, b)) : Ending.returned (.tuple #[.int .i64 a, .int .i64 b]) = .returned (.tuple #[.int .i64 p.1, .int .i64 p.2]) := by rw [h]

set_option maxHeartbeats 1000000 in
theorem parse_loop_b (d s : ByteArray) (w : World) (hs : 0 < s.size) (hm : d.size ≤ 9223372036854775807) (hb : ((s[0].toNat : Int) == 45) = true) (hd : s.extract 1 s.size = d) (h0 : 0 < d.size) (HG : Hid (¬ (d.data.toList.head? = some 48 ∧ (1 < d.data.toList.length ∨ true = true)))) (hz : ((d[0].toNat : Int) == 48) = false) :
    Calls Try.prog 22 #[.string s] w fun e w' => e = .returned (.tuple #[.int .i64 (parseS true d.data.toList).1, .int .i64 (parseS true d.data.toList).2]) ∧ w = w' := by
  obtain ⟨hn1, hn2⟩ := ba_ne h0
  have HL := Lib.hid (len_list d)
  go_enter Try.func22, Try.ntmps22
  go_wp2_with fail
  go_loop [2, 3, 5, 6, 7] (fun _ _ m o i => ∃ (k : Nat) (mm : Int) (over : Bool), k ≤ d.size ∧ i = .int .i64 k ∧ m = .int .u64 mm ∧ o = .bool over ∧ Hid (Num d.data.toList k mm over)) (fun _ _ _ _ i => d.size - (intOf i).toNat)
  case atStart => exact ⟨0, 0, false, Nat.zero_le _, rfl, rfl, rfl, Lib.hid (Num.zero _)⟩
  case round =>
    obtain ⟨k, mm, over, hk, rfl, rfl, rfl, hh⟩ := hrel
    by_cases hlt : k < d.size
    · obtain ⟨c, hc⟩ : ∃ c, d[k] = c := ⟨_, rfl⟩
      have HG2 : Hid (d.data.toList[k]? = some c) := by rw [get_list d k hlt, hc]; exact Lib.hid rfl
      obtain ⟨n, hcn, hn0, hn3⟩ : ∃ n : Int, (c.toNat : Int) = n ∧ 0 ≤ n ∧ n ≤ 255 := ⟨_, rfl, by omega, by have := c.toNat_lt; omega⟩
      have HCN := Lib.hid hcn
      by_cases h48 : n < 48
      · go_wp2_with fail
        go_ret2
        exact ⟨pair_ret (parseS_bad HG2.out HCN.out (.inl h48)), rfl⟩
      · by_cases h57 : 57 < n
        · go_wp2_with fail
          go_ret2
          exact ⟨pair_ret (parseS_bad HG2.out HCN.out (.inr h57)), rfl⟩
        · cases over
          · by_cases hbig : 1152921504606846976 < mm
            all_goals
              go_wp2_with fail
              go_round
              case rel =>
                refine ⟨k + 1, _, _, by omega, by go_num, rfl, rfl, Lib.hid (Num.step hh.out HG2.out HCN.out (by omega) (by omega) ?_ ?_)⟩
                · simp [hbig]
                · simp only [IntKind.wrap_u64]; try omega
              case measure => simp [intOf]; omega
          · go_wp2_with fail
            go_round
            case rel =>
              refine ⟨k + 1, _, _, by omega, by go_num, rfl, rfl, Lib.hid (Num.step hh.out HG2.out HCN.out (by omega) (by omega) ?_ ?_)⟩
              · simp
              · simp only [IntKind.wrap_u64]; try omega
            case measure => simp [intOf]; omega
    · obtain rfl : k = d.size := by omega
      have hN := hh.out
      rw [← HL.out] at hN
      have HP := Lib.hid (parseS_good (b := true) hN (ne_list d h0) (by simpa using HG.out))
      cases over
      · have b1 := hN.2.1
        have HB := Lib.hid hN.2.2.1
        clear hN
        go_wp2_with fail
        refine (signed_any mm _ _ b1 HB.out).mono ?_; rintro e w' ⟨rfl, rfl⟩
        go_wp2_with fail
        go_ret2
        exact ⟨pair_ret HP.out, rfl⟩
      · clear hN
        go_wp2_with fail
        go_ret2
        exact ⟨pair_ret HP.out, rfl⟩

set_option maxHeartbeats 1000000 in
theorem parse_loop_n (d : ByteArray) (w : World) (hm : d.size ≤ 9223372036854775807)  (h0 : 0 < d.size) (HG : Hid (¬ (d.data.toList.head? = some 48 ∧ (1 < d.data.toList.length ∨ false = true)))) (hb : ((d[0].toNat : Int) == 45) = false) (hz : ((d[0].toNat : Int) == 48) = false) :
    Calls Try.prog 22 #[.string d] w fun e w' => e = .returned (.tuple #[.int .i64 (parseS false d.data.toList).1, .int .i64 (parseS false d.data.toList).2]) ∧ w = w' := by
  obtain ⟨hn1, hn2⟩ := ba_ne h0
  have HL := Lib.hid (len_list d)
  go_enter Try.func22, Try.ntmps22
  go_wp2_with fail
  go_loop [2, 3, 5, 6, 7] (fun _ _ m o i => ∃ (k : Nat) (mm : Int) (over : Bool), k ≤ d.size ∧ i = .int .i64 k ∧ m = .int .u64 mm ∧ o = .bool over ∧ Hid (Num d.data.toList k mm over)) (fun _ _ _ _ i => d.size - (intOf i).toNat)
  case atStart => exact ⟨0, 0, false, Nat.zero_le _, rfl, rfl, rfl, Lib.hid (Num.zero _)⟩
  case round =>
    obtain ⟨k, mm, over, hk, rfl, rfl, rfl, hh⟩ := hrel
    by_cases hlt : k < d.size
    · obtain ⟨c, hc⟩ : ∃ c, d[k] = c := ⟨_, rfl⟩
      have HG2 : Hid (d.data.toList[k]? = some c) := by rw [get_list d k hlt, hc]; exact Lib.hid rfl
      obtain ⟨n, hcn, hn0, hn3⟩ : ∃ n : Int, (c.toNat : Int) = n ∧ 0 ≤ n ∧ n ≤ 255 := ⟨_, rfl, by omega, by have := c.toNat_lt; omega⟩
      have HCN := Lib.hid hcn
      by_cases h48 : n < 48
      · go_wp2_with fail
        go_ret2
        exact ⟨pair_ret (parseS_bad HG2.out HCN.out (.inl h48)), rfl⟩
      · by_cases h57 : 57 < n
        · go_wp2_with fail
          go_ret2
          exact ⟨pair_ret (parseS_bad HG2.out HCN.out (.inr h57)), rfl⟩
        · cases over
          · by_cases hbig : 1152921504606846976 < mm
            all_goals
              go_wp2_with fail
              go_round
              case rel =>
                refine ⟨k + 1, _, _, by omega, by go_num, rfl, rfl, Lib.hid (Num.step hh.out HG2.out HCN.out (by omega) (by omega) ?_ ?_)⟩
                · simp [hbig]
                · simp only [IntKind.wrap_u64]; try omega
              case measure => simp [intOf]; omega
          · go_wp2_with fail
            go_round
            case rel =>
              refine ⟨k + 1, _, _, by omega, by go_num, rfl, rfl, Lib.hid (Num.step hh.out HG2.out HCN.out (by omega) (by omega) ?_ ?_)⟩
              · simp
              · simp only [IntKind.wrap_u64]; try omega
            case measure => simp [intOf]; omega
    · obtain rfl : k = d.size := by omega
      have hN := hh.out
      rw [← HL.out] at hN
      have HP := Lib.hid (parseS_good (b := false) hN (ne_list d h0) (by simpa using HG.out))
      cases over
      · have b1 := hN.2.1
        have HB := Lib.hid hN.2.2.1
        clear hN
        go_wp2_with fail
        refine (signed_any mm _ _ b1 HB.out).mono ?_; rintro e w' ⟨rfl, rfl⟩
        go_wp2_with fail
        go_ret2
        exact ⟨pair_ret HP.out, rfl⟩
      · clear hN
        go_wp2_with fail
        go_ret2
        exact ⟨pair_ret HP.out, rfl⟩

set_option maxHeartbeats 1000000 in
theorem parse_loop_z (d : ByteArray) (w : World) (hm : d.size ≤ 9223372036854775807)  (h0 : 0 < d.size) (HG : Hid (¬ (d.data.toList.head? = some 48 ∧ (1 < d.data.toList.length ∨ false = true)))) (hb : ((d[0].toNat : Int) == 45) = false) (hz : ((d[0].toNat : Int) == 48) = true) (hone : ¬ (1 : Int) < d.size) :
    Calls Try.prog 22 #[.string d] w fun e w' => e = .returned (.tuple #[.int .i64 (parseS false d.data.toList).1, .int .i64 (parseS false d.data.toList).2]) ∧ w = w' := by
  obtain ⟨hn1, hn2⟩ := ba_ne h0
  have HL := Lib.hid (len_list d)
  go_enter Try.func22, Try.ntmps22
  go_wp2_with fail
  go_loop [2, 3, 5, 6, 7] (fun _ _ m o i => ∃ (k : Nat) (mm : Int) (over : Bool), k ≤ d.size ∧ i = .int .i64 k ∧ m = .int .u64 mm ∧ o = .bool over ∧ Hid (Num d.data.toList k mm over)) (fun _ _ _ _ i => d.size - (intOf i).toNat)
  case atStart => exact ⟨0, 0, false, Nat.zero_le _, rfl, rfl, rfl, Lib.hid (Num.zero _)⟩
  case round =>
    obtain ⟨k, mm, over, hk, rfl, rfl, rfl, hh⟩ := hrel
    by_cases hlt : k < d.size
    · obtain ⟨c, hc⟩ : ∃ c, d[k] = c := ⟨_, rfl⟩
      have HG2 : Hid (d.data.toList[k]? = some c) := by rw [get_list d k hlt, hc]; exact Lib.hid rfl
      obtain ⟨n, hcn, hn0, hn3⟩ : ∃ n : Int, (c.toNat : Int) = n ∧ 0 ≤ n ∧ n ≤ 255 := ⟨_, rfl, by omega, by have := c.toNat_lt; omega⟩
      have HCN := Lib.hid hcn
      by_cases h48 : n < 48
      · go_wp2_with fail
        go_ret2
        exact ⟨pair_ret (parseS_bad HG2.out HCN.out (.inl h48)), rfl⟩
      · by_cases h57 : 57 < n
        · go_wp2_with fail
          go_ret2
          exact ⟨pair_ret (parseS_bad HG2.out HCN.out (.inr h57)), rfl⟩
        · cases over
          · by_cases hbig : 1152921504606846976 < mm
            all_goals
              go_wp2_with fail
              go_round
              case rel =>
                refine ⟨k + 1, _, _, by omega, by go_num, rfl, rfl, Lib.hid (Num.step hh.out HG2.out HCN.out (by omega) (by omega) ?_ ?_)⟩
                · simp [hbig]
                · simp only [IntKind.wrap_u64]; try omega
              case measure => simp [intOf]; omega
          · go_wp2_with fail
            go_round
            case rel =>
              refine ⟨k + 1, _, _, by omega, by go_num, rfl, rfl, Lib.hid (Num.step hh.out HG2.out HCN.out (by omega) (by omega) ?_ ?_)⟩
              · simp
              · simp only [IntKind.wrap_u64]; try omega
            case measure => simp [intOf]; omega
    · obtain rfl : k = d.size := by omega
      have hN := hh.out
      rw [← HL.out] at hN
      have HP := Lib.hid (parseS_good (b := false) hN (ne_list d h0) (by simpa using HG.out))
      cases over
      · have b1 := hN.2.1
        have HB := Lib.hid hN.2.2.1
        clear hN
        go_wp2_with fail
        refine (signed_any mm _ _ b1 HB.out).mono ?_; rintro e w' ⟨rfl, rfl⟩
        go_wp2_with fail
        go_ret2
        exact ⟨pair_ret HP.out, rfl⟩
      · clear hN
        go_wp2_with fail
        go_ret2
        exact ⟨pair_ret HP.out, rfl⟩

theorem parseS_lead {b : Bool} {l : List UInt8} (h : l = [] ∨ (l.head? = some 48 ∧ (1 < l.length ∨ b = true))) : parseS b l = (0, 1) := by
  unfold parseS
  rw [if_pos]
  rcases h with h | h
  · exact .inl h
  · exact .inr (.inl h)
theorem u8_beq (c d : UInt8) : ((c.toNat : Int) == (d.toNat : Int)) = decide (c = d) := by
  by_cases h : c = d
  · subst h; simp
  · rw [decide_eq_false h, beq_eq_false_iff_ne]
    intro h2
    exact h (UInt8.toNat_inj.1 (by omega))

set_option maxHeartbeats 1000000 in
theorem parse_any (s : ByteArray) (w : World) (hs : s.size ≤ 9223372036854775807) : Calls Try.prog 22 #[.string s] w fun e w' => e = .returned (.tuple #[.int .i64 (parseOf s.data.toList).1, .int .i64 (parseOf s.data.toList).2]) ∧ w = w' := by
  by_cases h0 : s.size = 0
  · have hr : Hid (parseOf s.data.toList = (0, 1)) := Lib.hid (by
      have h' : s.data.toList.length = 0 := by simpa using h0
      rw [List.length_eq_zero_iff.1 h']; rfl)
    have hz : ¬ (0 : Int) < s.size := by omega
    obtain ⟨e1, e2⟩ := ba_empty h0
    clear h0
    go_enter Try.func22, Try.ntmps22
    go_wp2_with fail
    go_ret2
    exact ⟨pair_ret hr.out, rfl⟩
  · have h1 : 0 < s.size := by omega
    have hhd := head_list s h1
    have hb : ((s[0].toNat : Int) == 45) = decide (s[0] = 45) := u8_beq s[0] 45
    by_cases hc : s[0] = 45
    · rw [decide_eq_true hc] at hb
      obtain ⟨d, hd⟩ : ∃ d, s.extract 1 s.size = d := ⟨_, rfl⟩
      have hl : s.data.toList.tail = d.data.toList := by
        rw [← hd, Lib.extract_to_end, List.drop_one]
      have hdz : d.size = s.size - 1 := by rw [← len_list, ← len_list, ← hl, List.length_tail]
      have hp : parseOf s.data.toList = parseS true d.data.toList := by
        unfold parseOf; rw [hhd, hc, if_pos rfl, hl]
      rw [hp]
      clear hl hhd hp hc h0
      by_cases hz0 : d.size = 0
      · obtain ⟨e1, e2⟩ := ba_empty hz0
        have hr : Hid (parseS true d.data.toList = (0, 1)) := Lib.hid (parseS_lead (.inl (by rw [← ByteArray.toList_eq]; exact e2)))
        clear hz0 hdz
        go_enter Try.func22, Try.ntmps22
        go_wp2_with fail
        go_ret2
        exact ⟨pair_ret hr.out, rfl⟩
      · have h2 : 0 < d.size := by omega
        have hz : ((d[0].toNat : Int) == 48) = decide (d[0] = 48) := u8_beq d[0] 48
        have hhd := head_list d h2
        have hm : d.size ≤ 9223372036854775807 := by omega
        by_cases hc : d[0] = 48
        · rw [decide_eq_true hc] at hz
          have hr : Hid (parseS true d.data.toList = (0, 1)) := Lib.hid (parseS_lead (.inr ⟨by rw [hhd, hc], .inr rfl⟩))
          obtain ⟨e1, e2⟩ := ba_ne h2
          clear hz0 hdz hhd hc
          by_cases hlen : (1 : Int) < d.size
          all_goals
            go_enter Try.func22, Try.ntmps22
            go_wp2_with fail
            go_ret2
            exact ⟨pair_ret hr.out, rfl⟩
        · rw [decide_eq_false hc] at hz
          exact parse_loop_b d s w h1 hm hb hd h2 (Lib.hid (by rw [hhd]; simp [hc])) hz
    · rw [decide_eq_false hc] at hb
      have hp : parseOf s.data.toList = parseS false s.data.toList := by
        unfold parseOf; rw [hhd, if_neg (by simpa using hc)]
      rw [hp]
      have hz : ((s[0].toNat : Int) == 48) = decide (s[0] = 48) := u8_beq s[0] 48
      by_cases hc2 : s[0] = 48
      · rw [decide_eq_true hc2] at hz
        by_cases hlen : (1 : Int) < s.size
        · have hr : Hid (parseS false s.data.toList = (0, 1)) := Lib.hid (parseS_lead (.inr ⟨by rw [hhd, hc2], .inl (by rw [len_list]; omega)⟩))
          obtain ⟨e1, e2⟩ := ba_ne h1
          clear hp hc hc2 hhd h0
          go_enter Try.func22, Try.ntmps22
          go_wp2_with fail
          go_ret2
          exact ⟨pair_ret hr.out, rfl⟩
        · exact parse_loop_z s w hs h1 (Lib.hid (by rw [len_list]; rintro ⟨_, h | h⟩; omega; cases h)) hb hz hlen
      · rw [decide_eq_false hc2] at hz
        exact parse_loop_n s w hs h1 (Lib.hid (by rw [hhd]; simp [hc2])) hb hz
end Go.Proofs.Ytkmjchpmbndpiaa
