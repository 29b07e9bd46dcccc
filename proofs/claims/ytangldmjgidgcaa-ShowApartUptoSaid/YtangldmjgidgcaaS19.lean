/- Layer 5: the contracts of Name and Key, the program's and the reference's. Written by genS19.py. Conditions: the text is no longer than 2^40. -/
import Derived.Test.YtangldmjgidgcaaS17
namespace Go.Proofs.Ytangldmjgidgcaa
open Go.RowKit Go.Shelf
set_option linter.unusedSimpArgs false
set_option linter.unusedVariables false

theorem toList_data (s : ByteArray) : s.toList = s.data.toList := by
  have h := strOf_list s.data.toList
  rwa [strOf_toList] at h
def nchar (c : Nat) : Bool := letter c || digt c
def nameB (l : List UInt8) : Bool := decide (1 ≤ l.length ∧ l.length ≤ 64 ∧ letter (nb l 0) = true ∧ ∀ k, k < l.length → nchar (nb l k) = true)
/-- What is seen ahead of place i. -/
def DoneN (l : List UInt8) (i : Nat) : Prop := i ≤ l.length ∧ (0 < i → letter (nb l 0) = true) ∧ ∀ k, k < i → nchar (nb l k) = true
theorem doneN_zero (l : List UInt8) : DoneN l 0 := ⟨by omega, fun h => by omega, fun k h => by omega⟩
theorem doneN_step {l : List UInt8} {i : Nat} (h : DoneN l i) (hi : i < l.length) (h0 : i = 0 → letter (nb l i) = true) (hc : nchar (nb l i) = true) : DoneN l (i + 1) := by
  obtain ⟨h1, h2, h3⟩ := h
  refine ⟨by omega, fun _ => ?_, fun k hk => ?_⟩
  · by_cases hz : i = 0
    · subst hz; exact h0 rfl
    · exact h2 (by omega)
  · by_cases hk2 : k = i
    · subst hk2; exact hc
    · exact h3 k (by omega)
theorem doneN_end {l : List UInt8} {i : Nat} (h : DoneN l i) (hi : l.length ≤ i) : nameB l = decide (1 ≤ l.length ∧ l.length ≤ 64) := by
  obtain ⟨h1, h2, h3⟩ := h
  unfold nameB
  apply decide_eq_decide.2
  constructor
  · rintro ⟨a, b, _⟩; exact ⟨a, b⟩
  · rintro ⟨a, b⟩; exact ⟨a, b, h2 (by omega), fun k hk => h3 k (by omega)⟩
theorem nameB_no {l : List UInt8} {i : Nat} (hi : i < l.length) (h : nchar (nb l i) = false ∨ (i = 0 ∧ letter (nb l i) = false)) : nameB l = false := by
  apply decide_eq_false
  rintro ⟨_, _, h3, h4⟩
  rcases h with h | ⟨rfl, h⟩
  · rw [h4 i hi] at h; cases h
  · rw [h3] at h; cases h
theorem letter_nchar {c : Nat} (h : letter c = true) : nchar c = true := by unfold nchar; rw [h]; rfl
theorem digt_nchar {c : Nat} (h : digt c = true) : nchar c = true := by unfold nchar; rw [h, Bool.or_true]
theorem nchar_no {c : Nat} (h : letter c = false) (k : digt c = false) : nchar c = false := by unfold nchar; rw [h, k]; rfl

set_option maxRecDepth 1000000 in
set_option maxHeartbeats 2000000 in
theorem rname_any (s : ByteArray) (w : World) (hs : s.size ≤ 1099511627776) :
    Calls Try.prog 13 #[.string s] w fun e w' => e = .returned (.bool (nameB s.data.toList)) ∧ w = w' := by
  have HL : Hid (s.data.toList.length = s.size) := Lib.hid (by simp)
  obtain ⟨R, hR⟩ : ∃ R, nameB s.data.toList = R := ⟨_, rfl⟩
  have HR := Lib.hid hR
  rw [hR]
  clear hR
  by_cases h1 : s.size < 1
  · have q1 : (s.size : Int) < 1 := by omega
    have HN : Hid (R = false) := Lib.hid (by rw [← HR.out]; exact decide_eq_false (by rw [HL.out]; omega))
    obtain rfl := HN.out
    go_enter Try.func13, Try.ntmps13
    go_wp2_with fail
    go_ret
    exact ⟨rfl, rfl⟩
  have q1 : ¬ (s.size : Int) < 1 := by omega
  by_cases h64 : 64 < s.size
  · have q2 : (64 : Int) < s.size := by omega
    have HN : Hid (R = false) := Lib.hid (by rw [← HR.out]; exact decide_eq_false (by rw [HL.out]; omega))
    obtain rfl := HN.out
    go_enter Try.func13, Try.ntmps13
    go_wp2_with fail
    go_ret
    exact ⟨rfl, rfl⟩
  have q2 : ¬ (64 : Int) < s.size := by omega
  have q2d : decide ((64 : Int) < s.size) = false := by simp; omega
  have q1d : decide ((s.size : Int) < 1) = false := by simp; omega
  have g0 : 0 < s.size := by omega
  have hc0 : s[0].toNat < 256 := by have := s[0].toNat_lt; omega
  have X0 : Hid (s[0].toNat = nb s.data.toList 0) := Lib.hid (nb_get s 0 g0)
  have L0 := Lib.hid (letter_any s[0].toNat hc0 w)
  cases hl : letter s[0].toNat with
  | false =>
    rw [hl] at L0
    have HN : Hid (R = false) := Lib.hid (by rw [← HR.out]; exact nameB_no (i := 0) (by rw [HL.out]; omega) (.inr ⟨rfl, by rw [← X0.out]; exact hl⟩))
    clear hl
    obtain rfl := HN.out
    go_enter Try.func13, Try.ntmps13
    go_wp2_with fail
    refine L0.out.mono ?_
    rintro e w8 ⟨rfl, rfl⟩
    go_wp2_with fail
    go_ret
    exact ⟨rfl, rfl⟩
  | true =>
    rw [hl] at L0
    have HL0 : Hid (letter (nb s.data.toList 0) = true) := Lib.hid (by rw [← X0.out]; exact hl)
    clear hl
    go_enter Try.func13, Try.ntmps13
    go_wp2_with fail
    refine L0.out.mono ?_
    rintro e w8 ⟨rfl, rfl⟩
    go_wp2_with fail
    go_loop [3] (fun k => ∃ i : Nat, k = .int .i64 i ∧ Hid (DoneN s.data.toList i)) (fun k => s.size - (intOf k).toNat)
    case atStart => exact ⟨0, rfl, Lib.hid (doneN_zero _)⟩
    case round =>
      obtain ⟨i, rfl, hd⟩ := hrel
      have hil : i ≤ s.size := by have := hd.out.1; rw [HL.out] at this; exact this
      by_cases hp : i < s.size
      · have hp' : (i : Int) < s.size := by omega
        have hc : s[i].toNat < 256 := by have := s[i].toNat_lt; omega
        have X : Hid (s[i].toNat = nb s.data.toList i) := Lib.hid (nb_get s i hp)
        have HLi := Lib.hid (letter_any s[i].toNat hc w)
        have HDi := Lib.hid (digit_any s[i].toNat hc w)
        have NX := Lib.hid (fun a => doneN_step hd.out (by rw [HL.out]; exact hp) (fun e => by subst e; exact HL0.out) a)
        cases hl : letter s[i].toNat with
        | true =>
          rw [hl] at HLi
          have HU := Lib.hid (NX.out (by rw [← X.out]; exact letter_nchar hl))
          clear hl
          go_wp2_with fail
          refine HLi.out.mono ?_
          rintro e w8 ⟨rfl, rfl⟩
          go_wp2_with fail
          go_round
          case rel => exact ⟨i + 1, by go_num, HU⟩
          case measure => simp [intOf]; omega
        | false =>
          rw [hl] at HLi
          cases hg : digt s[i].toNat with
          | true =>
            rw [hg] at HDi
            have HU := Lib.hid (NX.out (by rw [← X.out]; exact digt_nchar hg))
            clear hl hg
            go_wp2_with fail
            refine HLi.out.mono ?_
            rintro e w8 ⟨rfl, rfl⟩
            go_wp2_with fail
            refine HDi.out.mono ?_
            rintro e w8 ⟨rfl, rfl⟩
            go_wp2_with fail
            go_round
            case rel => exact ⟨i + 1, by go_num, HU⟩
            case measure => simp [intOf]; omega
          | false =>
            rw [hg] at HDi
            have HN : Hid (R = false) := Lib.hid (by rw [← HR.out]; exact nameB_no (i := i) (by rw [HL.out]; omega) (.inl (by rw [← X.out]; exact nchar_no hl hg)))
            clear hl hg
            go_wp2_with fail
            refine HLi.out.mono ?_
            rintro e w8 ⟨rfl, rfl⟩
            go_wp2_with fail
            refine HDi.out.mono ?_
            rintro e w8 ⟨rfl, rfl⟩
            go_wp2_with fail
            go_ret
            exact ⟨by rw [HN.out]; rfl, rfl⟩
      · have hp' : ¬ (i : Int) < s.size := by omega
        have HN : Hid (R = true) := Lib.hid (by rw [← HR.out, doneN_end hd.out (by rw [HL.out]; omega), HL.out]; exact decide_eq_true (by omega))
        go_wp2_with fail
        go_ret
        exact ⟨by rw [HN.out]; rfl, rfl⟩

theorem big_no {r m c : Nat} (SM : r < 128 → m = 1 ∧ c = r) (BG : ¬ r < 128 → ¬ c < 128) (h1 : ¬ (97 ≤ r ∧ r ≤ 122)) (h2 : ¬ (65 ≤ r ∧ r ≤ 90) ∧ r ≠ 95 ∧ ¬ (48 ≤ r ∧ r ≤ 57)) : nchar c = false := by
  by_cases hb : r < 128
  · have hsm := SM hb
    rw [hsm.2]
    exact nchar_no (decide_eq_false (by omega)) (decide_eq_false (by omega))
  · have := BG hb
    exact nchar_no (decide_eq_false (by omega)) (decide_eq_false (by omega))

set_option maxRecDepth 1000000 in
set_option maxHeartbeats 4000000 in
theorem name_any (s : ByteArray) (w : World) (hs : s.size ≤ 1099511627776) :
    Calls Try.prog 12 #[.string s] w fun e w' => e = .returned (.bool (nameB s.data.toList)) ∧ Below w.heap.size w w' := by
  have HL : Hid (s.data.toList.length = s.size) := Lib.hid (by simp)
  obtain ⟨R, hR⟩ : ∃ R, nameB s.data.toList = R := ⟨_, rfl⟩
  have HR := Lib.hid hR
  rw [hR]
  clear hR
  go_enter Try.func12, Try.ntmps12
  go_wp2_with fail
  go_loopw [] (fun wr => ∃ i : Nat, wr.heap[w.heap.size]? = some (.stringIter s i) ∧ Below w.heap.size w wr ∧ Hid (DoneN s.data.toList i)) (fun wr => s.size - wr.iterPos w.heap.size)
  case atStart =>
    refine ⟨0, ?_, (Below.refl _ w).alloc (Nat.le_refl _) _, Lib.hid (doneN_zero _)⟩
    have := World.iter_heap w s 0
    simpa using this
  case round =>
    obtain ⟨i, hit, hbw, hd⟩ := hrel
    have hszr : w.heap.size < wr.heap.size := (Array.getElem?_eq_some_iff.1 hit).1
    have HIT := Lib.hid hit
    have HBW := Lib.hid hbw
    clear hit hbw
    have hil : i ≤ s.size := by have := hd.out.1; rw [HL.out] at this; exact this
    by_cases hp : i < s.size
    · have hnx : ∀ ty, (Instr.next (.pointer (some ⟨w.heap.size, 0, none⟩)) true ty).run Try.prog wr = _ := fun ty => Lib.run_next_any_at wr w.heap.size s i ty HIT.out hp
      have hln : (s.data.toList.drop i).length ≠ 0 := by simp; omega
      have hdec := decode_spec s i hp
      have hmv : (if sg (s.data.toList.drop i) = 0 then 1 else sg (s.data.toList.drop i)) = stepQ (s.data.toList.drop i) := rfl
      rw [hmv] at hdec
      rw [hdec] at hnx
      dsimp only at hnx
      have hm1 := stepQ_pos (s.data.toList.drop i)
      have hm2 := stepQ_le hln
      rw [List.length_drop] at hm2
      simp only [Array.length_toList, ByteArray.size_data] at hm2
      have X : Hid (nb (s.data.toList.drop i) 0 = nb s.data.toList i) := Lib.hid (by rw [nb_drop, Nat.add_zero])
      have SM : Hid (rv (s.data.toList.drop i) < 128 → stepQ (s.data.toList.drop i) = 1 ∧ nb s.data.toList i = rv (s.data.toList.drop i)) := Lib.hid (fun h => by
        have := rv_small hln h
        exact ⟨by unfold stepQ; rw [if_neg (by omega)]; exact this.1, by rw [← X.out]; exact this.2⟩)
      have BG : Hid (¬ rv (s.data.toList.drop i) < 128 → ¬ nb s.data.toList i < 128) := Lib.hid (fun h h2 => h (by
        have h3 := sg_one.2 ⟨hln, by rw [X.out]; exact h2⟩
        have h4 : rv (s.data.toList.drop i) = nb (s.data.toList.drop i) 0 := by unfold rv; rw [if_pos h3]
        rw [h4, X.out]; exact h2))
      have hrl : rv (s.data.toList.drop i) ≤ 2147483647 := by have := decode_le s i; rw [hdec] at this; exact this
      have NX := Lib.hid (doneN_step hd.out (by rw [HL.out]; exact hp))
      have NO := Lib.hid (@nameB_no s.data.toList i (by rw [HL.out]; exact hp))
      clear hln hdec hmv
      generalize rv (s.data.toList.drop i) = r at *
      generalize stepQ (s.data.toList.drop i) = m at *
      have HIT2 := Lib.hid (Lib.iterAt_heap wr w.heap.size s i (i + m) HIT.out)
      have HBW2 := Lib.hid (Lib.below_iterAt HBW.out (k := w.heap.size) (by omega) s (i + m))
      generalize hWn : wr.iterAt w.heap.size s (i + m) = Wn at *
      have HWn := Lib.hid hWn
      clear hWn
      by_cases c1 : 97 ≤ r
      · have d1 : (97 : Int) ≤ r := by omega
        by_cases c2 : r ≤ 122
        · have d2 : (r : Int) ≤ 122 := by omega
          have t : True := trivial
          have hsm := SM.out (by omega)
          have HM := Lib.hid hsm.1
          have hlt : letter (nb s.data.toList i) = true := by rw [hsm.2]; exact decide_eq_true (by omega)
          have HU := Lib.hid (NX.out (fun _ => hlt) (letter_nchar hlt))
          clear hsm hlt
          go_wp2_with fail
          go_roundw
          case rel => exact ⟨i + m, HIT2.out, HBW2.out, by rw [HM.out]; exact HU⟩
          case measure => simp only [World.iterPos, HIT2.out, HIT.out]; omega
        have d2 : ¬ (r : Int) ≤ 122 := by omega
        have d3 : (65 : Int) ≤ r := by omega
        have d4 : ¬ (r : Int) ≤ 90 := by omega
        have d5 : ((r : Int) == 95) = false := by simp; omega
        have d6 : ¬ (r : Int) < 48 := by omega
        have d7 : (57 : Int) < r := by omega
        have t : True := trivial
        have HU := Lib.hid (NO.out (.inl (big_no SM.out BG.out (by omega) (by omega))))
        by_cases hz : i = 0
        · have hzb : ((i : Int) == 0) = true := by simp; omega
          clear hz
          go_wp2_with fail
          go_ret
          exact ⟨by rw [← HR.out, HU.out]; rfl, HBW2.out⟩
        · have hzb : ((i : Int) == 0) = false := by simp; omega
          go_wp2_with fail
          go_ret
          exact ⟨by rw [← HR.out, HU.out]; rfl, HBW2.out⟩
      have d1 : ¬ (97 : Int) ≤ r := by omega
      by_cases c3 : 65 ≤ r
      · have d3 : (65 : Int) ≤ r := by omega
        by_cases c4 : r ≤ 90
        · have d4 : (r : Int) ≤ 90 := by omega
          have t : True := trivial
          have hsm := SM.out (by omega)
          have HM := Lib.hid hsm.1
          have hlt : letter (nb s.data.toList i) = true := by rw [hsm.2]; exact decide_eq_true (by omega)
          have HU := Lib.hid (NX.out (fun _ => hlt) (letter_nchar hlt))
          clear hsm hlt
          go_wp2_with fail
          go_roundw
          case rel => exact ⟨i + m, HIT2.out, HBW2.out, by rw [HM.out]; exact HU⟩
          case measure => simp only [World.iterPos, HIT2.out, HIT.out]; omega
        have d4 : ¬ (r : Int) ≤ 90 := by omega
        by_cases c5 : r = 95
        · have d5 : ((r : Int) == 95) = true := by simp; omega
          have C5 := Lib.hid c5
          have hsm := SM.out (by omega)
          have HM := Lib.hid hsm.1
          have hlt : letter (nb s.data.toList i) = true := by rw [hsm.2]; exact decide_eq_true (by omega)
          have HU := Lib.hid (NX.out (fun _ => hlt) (letter_nchar hlt))
          clear hsm hlt c5
          go_wp2_with fail
          go_roundw
          case rel => exact ⟨i + m, HIT2.out, HBW2.out, by rw [HM.out]; exact HU⟩
          case measure => simp only [World.iterPos, HIT2.out, HIT.out]; omega
        have d5 : ((r : Int) == 95) = false := by simp; omega
        have d6 : ¬ (r : Int) < 48 := by omega
        have d7 : (57 : Int) < r := by omega
        have t : True := trivial
        have HU := Lib.hid (NO.out (.inl (big_no SM.out BG.out (by omega) (by omega))))
        by_cases hz : i = 0
        · have hzb : ((i : Int) == 0) = true := by simp; omega
          clear hz
          go_wp2_with fail
          go_ret
          exact ⟨by rw [← HR.out, HU.out]; rfl, HBW2.out⟩
        · have hzb : ((i : Int) == 0) = false := by simp; omega
          go_wp2_with fail
          go_ret
          exact ⟨by rw [← HR.out, HU.out]; rfl, HBW2.out⟩
      have d3 : ¬ (65 : Int) ≤ r := by omega
      have d5 : ((r : Int) == 95) = false := by simp; omega
      by_cases c6 : r < 48
      · have d6 : (r : Int) < 48 := by omega
        have t : True := trivial
        have HU := Lib.hid (NO.out (.inl (big_no SM.out BG.out (by omega) (by omega))))
        by_cases hz : i = 0
        · have hzb : ((i : Int) == 0) = true := by simp; omega
          clear hz
          go_wp2_with fail
          go_ret
          exact ⟨by rw [← HR.out, HU.out]; rfl, HBW2.out⟩
        · have hzb : ((i : Int) == 0) = false := by simp; omega
          go_wp2_with fail
          go_ret
          exact ⟨by rw [← HR.out, HU.out]; rfl, HBW2.out⟩
      have d6 : ¬ (r : Int) < 48 := by omega
      by_cases c7 : 57 < r
      · have d7 : (57 : Int) < r := by omega
        have t : True := trivial
        have HU := Lib.hid (NO.out (.inl (big_no SM.out BG.out (by omega) (by omega))))
        by_cases hz : i = 0
        · have hzb : ((i : Int) == 0) = true := by simp; omega
          clear hz
          go_wp2_with fail
          go_ret
          exact ⟨by rw [← HR.out, HU.out]; rfl, HBW2.out⟩
        · have hzb : ((i : Int) == 0) = false := by simp; omega
          go_wp2_with fail
          go_ret
          exact ⟨by rw [← HR.out, HU.out]; rfl, HBW2.out⟩
      have d7 : ¬ (57 : Int) < r := by omega
      have hsm := SM.out (by omega)
      have HM := Lib.hid hsm.1
      have hdg : digt (nb s.data.toList i) = true := by rw [hsm.2]; exact decide_eq_true (by omega)
      have hnl : letter (nb s.data.toList i) = false := by rw [hsm.2]; exact decide_eq_false (by omega)
      by_cases hz : i = 0
      · have hzb : ((i : Int) == 0) = true := by simp; omega
        have HU := Lib.hid (NO.out (.inr ⟨hz, hnl⟩))
        clear hz hsm hdg hnl
        go_wp2_with fail
        go_ret
        exact ⟨by rw [← HR.out, HU.out]; rfl, HBW2.out⟩
      · have hzb : ((i : Int) == 0) = false := by simp; omega
        have HU := Lib.hid (NX.out (fun h => absurd h hz) (digt_nchar hdg))
        clear hsm hdg hnl
        go_wp2_with fail
        go_roundw
        case rel => exact ⟨i + m, HIT2.out, HBW2.out, by rw [HM.out]; exact HU⟩
        case measure => simp only [World.iterPos, HIT2.out, HIT.out]; omega
    · have hnx : ∀ ty, (Instr.next (.pointer (some ⟨w.heap.size, 0, none⟩)) true ty).run Try.prog wr = _ := fun ty => Lib.run_next_end_at wr w.heap.size s i ty HIT.out hp
      have HE := Lib.hid (doneN_end hd.out (by rw [HL.out]; omega))
      have hle : s.toList.length = s.size := by rw [← HL.out, toList_data]
      by_cases he : s.size = 0
      · have k1 : s.toList = [] := List.length_eq_zero_iff.1 (by omega)
        have HF : Hid (R = false) := Lib.hid (by rw [← HR.out, HE.out, HL.out]; exact decide_eq_false (by omega))
        have k1b : s.toList.isEmpty = true := by rw [k1]; rfl
        clear hle k1
        go_wp2_with fail
        go_ret
        exact ⟨by rw [HF.out]; rfl, HBW.out⟩
      · have k1 : ¬ s.toList = [] := fun h => by rw [h] at hle; simp at hle; omega
        have k1b : s.toList.isEmpty = false := by rw [List.isEmpty_eq_false_iff]; exact k1
        clear hle
        by_cases h64 : s.size ≤ 64
        · have k2 : (s.size : Int) ≤ 64 := by omega
          have HF : Hid (R = true) := Lib.hid (by rw [← HR.out, HE.out, HL.out]; exact decide_eq_true (by omega))
          go_wp2_with fail
          go_ret
          exact ⟨by rw [HF.out]; rfl, HBW.out⟩
        · have k2 : ¬ (s.size : Int) ≤ 64 := by omega
          have HF : Hid (R = false) := Lib.hid (by rw [← HR.out, HE.out, HL.out]; exact decide_eq_false (by omega))
          go_wp2_with fail
          go_ret
          exact ⟨by rw [HF.out]; rfl, HBW.out⟩

def keyL (l : List UInt8) : List UInt8 := if nameB l = true then l else 39 :: (quoteL l ++ [39])
theorem key_any (s : ByteArray) (w : World) (hs : s.size ≤ 1099511627776) :
    Calls Try.prog 14 #[.string s] w fun e w' => e = .returned (.string (strOf (keyL s.data.toList))) ∧ Below w.heap.size w w' := by
  have HN := Lib.hid (name_any s w hs)
  cases hb : nameB s.data.toList with
  | true =>
    have HK : Hid (strOf (keyL s.data.toList) = s) := Lib.hid (by unfold keyL; rw [if_pos hb]; exact strOf_toList s)
    rw [hb] at HN
    clear hb
    rw [HK.out]
    go_enter Try.func14, Try.ntmps14
    go_wp2_with fail
    refine HN.out.mono ?_
    rintro e w1 ⟨rfl, hb1⟩
    go_wp2_with fail
    go_ret
    exact ⟨rfl, hb1⟩
  | false =>
    have HK : Hid (keyL s.data.toList = 39 :: (quoteL s.data.toList ++ [39])) := Lib.hid (by unfold keyL; rw [if_neg (by rw [hb]; simp)])
    rw [hb] at HN
    clear hb
    rw [HK.out]
    go_enter Try.func14, Try.ntmps14
    go_wp2_with fail
    refine HN.out.mono ?_
    rintro e w1 ⟨rfl, hb1⟩
    have HB1 := Lib.hid hb1
    clear hb1
    go_wp2_with fail
    refine (quote_any s w1 hs).mono ?_
    rintro e w2 ⟨rfl, hb2⟩
    go_wp2_with fail
    go_ret
    exact ⟨rfl, below_step HB1.out rfl hb2⟩
theorem rkey_any (s : ByteArray) (w : World) (hs : s.size ≤ 1099511627776) :
    Calls Try.prog 15 #[.string s] w fun e w' => e = .returned (.string (strOf (keyL s.data.toList))) ∧ Below w.heap.size w w' := by
  have HN := Lib.hid (rname_any s w hs)
  cases hb : nameB s.data.toList with
  | true =>
    have HK : Hid (strOf (keyL s.data.toList) = s) := Lib.hid (by unfold keyL; rw [if_pos hb]; exact strOf_toList s)
    rw [hb] at HN
    clear hb
    rw [HK.out]
    go_enter Try.func15, Try.ntmps15
    go_wp2_with fail
    refine HN.out.mono ?_
    rintro e w1 ⟨rfl, rfl⟩
    go_wp2_with fail
    go_ret
    exact ⟨rfl, Below.refl _ _⟩
  | false =>
    have HK : Hid (keyL s.data.toList = 39 :: (quoteL s.data.toList ++ [39])) := Lib.hid (by unfold keyL; rw [if_neg (by rw [hb]; simp)])
    rw [hb] at HN
    clear hb
    rw [HK.out]
    go_enter Try.func15, Try.ntmps15
    go_wp2_with fail
    refine HN.out.mono ?_
    rintro e w1 ⟨rfl, rfl⟩
    go_wp2_with fail
    refine (rquote_any s w hs).mono ?_
    rintro e w2 ⟨rfl, hb2⟩
    go_wp2_with fail
    go_ret
    exact ⟨rfl, hb2⟩
end Go.Proofs.Ytangldmjgidgcaa
