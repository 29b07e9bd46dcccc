/- Layer 3: the contracts of Parts and Plain (value, wattleref03), over trees. Conditions: as many parts as an int holds; the reference's Plain: the value may be. -/
import Derived.Test.YtdkgjbjlpofieaaLook
namespace Go.Proofs.Ytdkgjbjlpofieaa
open Go.RowKit
set_option linter.unusedSimpArgs false
set_option linter.unusedVariables false

theorem IsVs.below {B B' : Nat} {w w' : World} {a : Option Addr} {l : List Vt} (h : IsVs B w a 0 l) (hb : Below B' w w') (hB : B ≤ B') : IsVs B w' a 0 l :=
  IsVs.mk (fun i t hi => by
    obtain ⟨b, off, cs, h1, h2, h3, h4⟩ := h.get i t hi
    exact ⟨b, off, cs, h1, h2, fun j v hj => by rw [hb.cell (by show b < B'; omega)]; exact h3 j v hj, IsV.below hb hB t cs h4⟩)
/-- One element of a row of values: its six cells. -/
theorem IsVs.at {B : Nat} {w : World} {a : Option Addr} {l : List Vt} (h : IsVs B w a 0 l) {j : Nat} {t : Vt} (ht : l[j]? = some t) :
    ∃ eb eo k b i s l2 ks la lc ka kc, t = .mk k b i s l2 ks ∧ a = some ⟨eb, eo, none⟩ ∧ eb < B ∧
      (w.cell? ⟨eb, eo + j * 6, none⟩ = some (.int .i64 k) ∧ w.cell? ⟨eb, eo + j * 6 + 1, none⟩ = some (.bool b) ∧ w.cell? ⟨eb, eo + j * 6 + 2, none⟩ = some (.int .i64 i) ∧ w.cell? ⟨eb, eo + j * 6 + 3, none⟩ = some (.string s) ∧ w.cell? ⟨eb, eo + j * 6 + 4, none⟩ = some (.slice la l2.length lc) ∧ w.cell? ⟨eb, eo + j * 6 + 5, none⟩ = some (.slice ka ks.length kc)) ∧
      IsV B w [.int .i64 k, .bool b, .int .i64 i, .string s, .slice la l2.length lc, .slice ka ks.length kc] (.mk k b i s l2 ks) := by
  obtain ⟨eb, eo, cs, h1, h2, h3, h4⟩ := h.get j t ht
  obtain ⟨k, b, i, s, l2, ks⟩ := t
  have h5 := h4
  unfold IsV at h5
  obtain ⟨la, lc, ka, kc, rfl, _⟩ := h5
  have g := fun n v hv => by have := h3 n v hv; rwa [Nat.zero_add, ← Nat.add_assoc] at this
  exact ⟨eb, eo, k, b, i, s, l2, ks, la, lc, ka, kc, rfl, h1, h2, ⟨by have := g 0 _ rfl; rwa [Nat.add_zero] at this, g 1 _ rfl, g 2 _ rfl, g 3 _ rfl, g 4 _ rfl, g 5 _ rfl⟩, h4⟩

mutual
def partsV : Vt → Nat
  | .mk _ _ _ _ l _ => 1 + partsVs l
def partsVs : List Vt → Nat
  | [] => 0
  | t :: ts => partsV t + partsVs ts
end
theorem partsVs_take {l : List Vt} {j : Nat} {t : Vt} (h : l[j]? = some t) : partsVs (l.take (j + 1)) = partsVs (l.take j) + partsV t := by
  rw [take_succ_some h]
  induction l.take j with
  | nil => simp [partsVs]
  | cons u us ih => simp only [List.cons_append, partsVs, ih]; omega
theorem partsVs_get {l : List Vt} {j : Nat} {t : Vt} (h : l[j]? = some t) : partsVs (l.take j) + partsV t ≤ partsVs l := by
  induction l generalizing j with
  | nil => simp at h
  | cons u us ih =>
    cases j with
    | zero => simp at h; subst h; simp [partsVs]
    | succ j =>
      have := ih (j := j) (by simpa using h)
      simp only [List.take_succ_cons, partsVs]; omega
def PartsSaid (t : Vt) : Prop := ∀ (cs : List Value) (B : Nat) (w : World), IsV B w cs t → B ≤ w.heap.size → partsV t ≤ 1099511627776 →
    Calls Try.prog 21 #[.agg cs.toArray] w fun e w' => e = .returned (.int .i64 (partsV t)) ∧ Below w.heap.size w w'
set_option maxRecDepth 100000 in
set_option maxHeartbeats 4000000 in
theorem parts_any (t : Vt) : PartsSaid t := by
  refine t.down (p := PartsSaid) fun k b i s l ks ih cs B w hV hB hp => ?_
  unfold IsV at hV
  obtain ⟨la, lc, ka, kc, rfl, -, -, ⟨hlc, hlm⟩, -, -, -, -, hL⟩ := hV
  have IH := Lib.hid ih
  have HLs := Lib.hid hL
  clear ih hL
  have HP : Hid (partsV (.mk k b i s l ks) = 1 + partsVs l) := Lib.hid (by unfold partsV; rfl)
  rw [HP.out] at hp
  show Calls Try.prog 21 #[.agg #[.int .i64 k, .bool b, .int .i64 i, .string s, .slice la l.length lc, .slice ka ks.length kc]] w _
  have HB0 := Lib.hid ((Below.refl w.heap.size w).alloc (Nat.le_refl _) (.cells #[.int .i64 k, .bool b, .int .i64 i, .string s, .slice la l.length lc, .slice ka ks.length kc] 26))
  rw [HP.out]
  go_enter Try.func21, Try.ntmps21
  go_wp2_with fail
  go_loopw [3, 9] (fun nv iv wr => ∃ (j n : Nat), iv = .int .i64 j ∧ nv = .int .i64 n ∧ j ≤ l.length ∧ Hid (n = 1 + partsVs (l.take j)) ∧ Hid (Below w.heap.size w wr)) (fun _ iv _ => l.length - (intOf iv).toNat)
  case atStart => exact ⟨0, 1, rfl, rfl, Nat.zero_le _, Lib.hid (by simp [partsVs]), HB0⟩
  case round =>
    obtain ⟨j, n, rfl, rfl, hj, HN, HBR⟩ := hrel
    by_cases hlt : j < l.length
    · have hlt' : (j : Int) < l.length := by omega
      have hj0 : (0 : Int) ≤ (j : Int) := by omega
      obtain ⟨t, ht⟩ := get_some hlt
      have hpg := partsVs_get ht
      have hpt := partsVs_take ht
      obtain ⟨eb, eo, k2, b2, i2, s2, l2, ks2, la2, lc2, ka2, kc2, rfl, rfl, heb, ⟨g0, g1, g2, g3, g4, g5⟩, hVt⟩ := (HLs.out.below HBR.out hB).at ht
      have hz := HBR.out.size
      have hVx : ∀ w', Below wr.heap.size wr w' → IsV B w' [.int .i64 k2, .bool b2, .int .i64 i2, .string s2, .slice la2 l2.length lc2, .slice ka2 ks2.length kc2] (.mk k2 b2 i2 s2 l2 ks2) := fun w' hb => IsV.below hb (Nat.le_trans hB hz) _ _ hVt
      have HI := Lib.hid (fun w' (hb : Below wr.heap.size wr w') => IH.out j _ ht _ B w' (hVx w' hb) (Nat.le_trans hB (Nat.le_trans hz hb.size)) (by omega))
      obtain ⟨m, hm⟩ : ∃ m, partsV (.mk k2 b2 i2 s2 l2 ks2) = m := ⟨_, rfl⟩
      rw [hm] at HI hpg hpt
      have HPT := Lib.hid hpt
      have hnm : n + m ≤ 1099511627776 := by have := HN.out; omega
      clear hVt hVx ht hpg hpt hm
      go_wp2_with fail
      refine (HI.out _ ((Below.refl _ _).alloc (Nat.le_refl _) _)).mono ?_
      rintro e w2 ⟨rfl, hb2⟩
      have HB2 := Lib.hid (below_step (HBR.out.alloc hz _) rfl hb2)
      clear hb2 g0 g1 g2 g3 g4 g5
      go_wp2_with fail
      go_roundw
      case rel => exact ⟨j + 1, n + m, by go_num, by go_num, by omega, Lib.hid (by rw [HPT.out, HN.out]; omega), HB2⟩
      case measure => simp [intOf]; omega
    · have hlt' : ¬ (j : Int) < l.length := by omega
      have HF : Hid (n = 1 + partsVs l) := Lib.hid (by rw [HN.out, List.take_of_length_le (by omega)])
      go_wp2_with fail
      go_ret
      exact ⟨by show Ending.returned (.int .i64 (n : Int)) = _; rw [HF.out]; first | rfl | simp, HBR.out⟩
def RPartsSaid (t : Vt) : Prop := ∀ (cs : List Value) (B : Nat) (w : World), IsV B w cs t → B ≤ w.heap.size → partsV t ≤ 1099511627776 →
    Calls Try.prog 22 #[.agg cs.toArray] w fun e w' => e = .returned (.int .i64 (partsV t)) ∧ Below w.heap.size w w'
set_option maxRecDepth 100000 in
set_option maxHeartbeats 4000000 in
theorem rparts_any (t : Vt) : RPartsSaid t := by
  refine t.down (p := RPartsSaid) fun k b i s l ks ih cs B w hV hB hp => ?_
  unfold IsV at hV
  obtain ⟨la, lc, ka, kc, rfl, -, -, ⟨hlc, hlm⟩, -, -, -, -, hL⟩ := hV
  have IH := Lib.hid ih
  have HLs := Lib.hid hL
  clear ih hL
  have HP : Hid (partsV (.mk k b i s l ks) = 1 + partsVs l) := Lib.hid (by unfold partsV; rfl)
  rw [HP.out] at hp
  show Calls Try.prog 22 #[.agg #[.int .i64 k, .bool b, .int .i64 i, .string s, .slice la l.length lc, .slice ka ks.length kc]] w _
  have HB0 := Lib.hid ((Below.refl w.heap.size w).alloc (Nat.le_refl _) (.cells #[.int .i64 k, .bool b, .int .i64 i, .string s, .slice la l.length lc, .slice ka ks.length kc] 26))
  have HBX := Lib.hid (Block.new w [.int .i64 k, .bool b, .int .i64 i, .string s, .slice la l.length lc, .slice ka ks.length kc] 26)
  rw [HP.out]
  go_enter Try.func22, Try.ntmps22
  go_wp2_with fail
  go_loopw [3, 4] (fun nv iv wr => ∃ (j n : Nat), iv = .int .i64 j ∧ nv = .int .i64 n ∧ j ≤ l.length ∧ Hid (n = 1 + partsVs (l.take j)) ∧ Hid (Below (w.heap.size + 1) (w.alloc (.cells #[.int .i64 k, .bool b, .int .i64 i, .string s, .slice la l.length lc, .slice ka ks.length kc] 26)) wr)) (fun _ iv _ => l.length - (intOf iv).toNat)
  case atStart => exact ⟨0, 1, rfl, rfl, Nat.zero_le _, Lib.hid (by simp [partsVs]), Lib.hid (Below.refl _ _)⟩
  case round =>
    obtain ⟨j, n, rfl, rfl, hj, HN, HBW⟩ := hrel
    have HBR := Lib.hid (HB0.out.trans (HBW.out.mono (by omega)))
    have y4 := (HBX.out.below HBW.out (by omega)).cell (i := 4) rfl
    by_cases hlt : j < l.length
    · have hlt' : (j : Int) < l.length := by omega
      have hj0 : (0 : Int) ≤ (j : Int) := by omega
      obtain ⟨t, ht⟩ := get_some hlt
      have hpg := partsVs_get ht
      have hpt := partsVs_take ht
      obtain ⟨eb, eo, k2, b2, i2, s2, l2, ks2, la2, lc2, ka2, kc2, rfl, rfl, heb, ⟨g0, g1, g2, g3, g4, g5⟩, hVt⟩ := (HLs.out.below HBR.out hB).at ht
      have hz := HBW.out.size
      have HI := Lib.hid (IH.out j _ ht _ B wr hVt (Nat.le_trans hB HBR.out.size) (by omega))
      obtain ⟨m, hm⟩ : ∃ m, partsV (.mk k2 b2 i2 s2 l2 ks2) = m := ⟨_, rfl⟩
      rw [hm] at HI hpg hpt
      have HPT := Lib.hid hpt
      have hnm : n + m ≤ 1099511627776 := by have := HN.out; omega
      clear hVt ht hpg hpt hm
      go_wp2_with fail
      refine HI.out.mono ?_
      rintro e w2 ⟨rfl, hb2⟩
      have HB2 := Lib.hid (HBW.out.trans (hb2.mono (Nat.le_trans (by simp) hz)))
      clear hb2 g0 g1 g2 g3 g4 g5 y4
      go_wp2_with fail
      go_roundw
      case rel => exact ⟨j + 1, n + m, by go_num, by go_num, by omega, Lib.hid (by rw [HPT.out, HN.out]; omega), HB2⟩
      case measure => simp [intOf]; omega
    · have hlt' : ¬ (j : Int) < l.length := by omega
      have HF : Hid (n = 1 + partsVs l) := Lib.hid (by rw [HN.out, List.take_of_length_le (by omega)])
      go_wp2_with fail
      go_ret
      exact ⟨by show Ending.returned (.int .i64 (n : Int)) = _; rw [HF.out]; first | rfl | simp, HBR.out⟩

mutual
def plainV : Vt → Bool
  | .mk k _ _ _ l _ => decide (k < 6) && plainVs l
def plainVs : List Vt → Bool
  | [] => true
  | t :: ts => plainV t && plainVs ts
end
theorem plainVs_at {l : List Vt} {j : Nat} {t : Vt} (h : l[j]? = some t) : plainVs (l.drop j) = (plainV t && plainVs (l.drop (j + 1))) := by
  obtain ⟨h1, h2⟩ := List.getElem?_eq_some_iff.1 h
  rw [List.drop_eq_getElem_cons h1, h2, plainVs]
def PlainSaid (t : Vt) : Prop := ∀ (cs : List Value) (B : Nat) (w : World), IsV B w cs t → B ≤ w.heap.size →
    Calls Try.prog 23 #[.agg cs.toArray] w fun e w' => e = .returned (.bool (plainV t)) ∧ Below w.heap.size w w'
theorem plain1_any (t : Vt) (h : PlainSaid t) (cs : List Value) (B : Nat) (w : World) (hV : IsV B w cs t) (hB : B ≤ w.heap.size) :
    Calls Try.prog 44 #[.agg cs.toArray] w fun e w' => e = .returned (.bool !(plainV t)) ∧ Below w.heap.size w w' := by
  have HM := Lib.hid (fun w' (hb : Below w.heap.size w w') => h cs B w' (IsV.below hb hB t cs hV) (Nat.le_trans hB hb.size))
  clear h
  obtain ⟨k, b, i, s, l, ks⟩ := t
  unfold IsV at hV
  obtain ⟨la, lc, ka, kc, rfl, -, -, -, -, -, -, -, -⟩ := hV
  show Calls Try.prog 44 #[.agg #[.int .i64 k, .bool b, .int .i64 i, .string s, .slice la l.length lc, .slice ka ks.length kc]] w _
  have HB0 := Lib.hid ((Below.refl w.heap.size w).alloc (Nat.le_refl _) (.cells #[.int .i64 k, .bool b, .int .i64 i, .string s, .slice la l.length lc, .slice ka ks.length kc] 26))
  obtain ⟨r, hr⟩ : ∃ r, plainV (.mk k b i s l ks) = r := ⟨_, rfl⟩
  rw [hr] at HM ⊢
  clear hr
  go_enter Try.func44, Try.ntmps44
  go_wp2_with fail
  refine (HM.out _ HB0.out).mono ?_
  rintro e w1 ⟨rfl, hb1⟩
  go_wp2_with fail
  go_ret
  exact ⟨rfl, below_step HB0.out rfl hb1⟩
def IdxP (l : List Vt) (w : World) (e : Ending) (w' : World) : Prop := ∃ r : Int, e = .returned (.int .i64 r) ∧ decide (0 ≤ r) = !(plainVs l) ∧ Below w.heap.size w w'
set_option maxRecDepth 100000 in
set_option maxHeartbeats 4000000 in
theorem indexPlain_any (l : List Vt) (ih : ∀ (j : Nat) t, l[j]? = some t → PlainSaid t) (la : Option Addr) (lc : Nat) (B : Nat) (w : World) (hL : IsVs B w la 0 l) (hB : B ≤ w.heap.size) (hlm : l.length ≤ 9223372036854775807) :
    Calls Try.prog 61 #[.slice la l.length lc, .func (.func 44) #[] #[]] w (IdxP l w) := by
  have IH := Lib.hid ih
  have HLs := Lib.hid hL
  clear ih hL
  go_enter Try.func61, Try.ntmps61
  go_wp2_with fail
  go_loopw [8] (fun iv wr => ∃ (j : Nat), iv = .int .i64 j ∧ j ≤ l.length ∧ Hid (plainVs l = plainVs (l.drop j)) ∧ Hid (Below w.heap.size w wr)) (fun iv _ => l.length - (intOf iv).toNat)
  case atStart => exact ⟨0, rfl, Nat.zero_le _, Lib.hid rfl, Lib.hid (Below.refl _ _)⟩
  case round =>
    obtain ⟨j, rfl, hj, HN, HBR⟩ := hrel
    by_cases hlt : j < l.length
    · have hlt' : (j : Int) < l.length := by omega
      have hj0 : (0 : Int) ≤ (j : Int) := by omega
      obtain ⟨t, ht⟩ := get_some hlt
      have HPT := Lib.hid (plainVs_at ht)
      obtain ⟨eb, eo, k2, b2, i2, s2, l2, ks2, la2, lc2, ka2, kc2, rfl, rfl, heb, ⟨g0, g1, g2, g3, g4, g5⟩, hVt⟩ := (HLs.out.below HBR.out hB).at ht
      have HI := Lib.hid (plain1_any _ (IH.out j _ ht) _ B wr hVt (Nat.le_trans hB HBR.out.size))
      clear hVt ht
      cases hpv : plainV (.mk k2 b2 i2 s2 l2 ks2) with
      | true =>
        rw [hpv] at HI HPT
        clear hpv
        go_wp2_with fail
        refine HI.out.mono ?_
        rintro e w2 ⟨rfl, hb2⟩
        have HB2 := Lib.hid (below_step HBR.out rfl hb2)
        clear hb2 g0 g1 g2 g3 g4 g5
        go_wp2_with fail
        go_roundw
        case rel => exact ⟨j + 1, by go_num, by omega, Lib.hid (by rw [HN.out, HPT.out, Bool.true_and]), HB2⟩
        case measure => simp [intOf]; omega
      | false =>
        rw [hpv] at HI HPT
        clear hpv
        go_wp2_with fail
        refine HI.out.mono ?_
        rintro e w2 ⟨rfl, hb2⟩
        have HB2 := Lib.hid (below_step HBR.out rfl hb2)
        clear hb2 g0 g1 g2 g3 g4 g5
        go_wp2_with fail
        go_ret
        exact ⟨j, rfl, by rw [HN.out, HPT.out, Bool.false_and]; simp, HB2.out⟩
    · have hlt' : ¬ (j : Int) < l.length := by omega
      have HF : Hid (plainVs l = true) := Lib.hid (by rw [HN.out, List.drop_of_length_le (by omega)]; rfl)
      go_wp2_with fail
      go_ret
      exact ⟨-1, rfl, by rw [HF.out]; decide, HBR.out⟩
theorem containsPlain_any (l : List Vt) (ih : ∀ (j : Nat) t, l[j]? = some t → PlainSaid t) (la : Option Addr) (lc : Nat) (B : Nat) (w : World) (hL : IsVs B w la 0 l) (hB : B ≤ w.heap.size) (hlm : l.length ≤ 9223372036854775807) :
    Calls Try.prog 43 #[.slice la l.length lc, .func (.func 44) #[] #[]] w fun e w' => e = .returned (.bool !(plainVs l)) ∧ Below w.heap.size w w' := by
  have HI := Lib.hid (indexPlain_any l ih la lc B w hL hB hlm)
  clear ih hL
  obtain ⟨R, hR⟩ : ∃ R, plainVs l = R := ⟨_, rfl⟩
  unfold IdxP at HI
  rw [hR] at HI ⊢
  clear hR
  go_enter Try.func43, Try.ntmps43
  go_wp2_with fail
  refine HI.out.mono ?_
  rintro e w1 ⟨r, rfl, hr, hb1⟩
  have HB1 := Lib.hid hb1
  have HRR := Lib.hid hr
  clear hb1 hr
  go_wp2_with fail
  go_ret
  exact ⟨by rw [← HRR.out]; rfl, HB1.out⟩
set_option maxRecDepth 100000 in
set_option maxHeartbeats 4000000 in
theorem plain_any (t : Vt) : PlainSaid t := by
  refine t.down (p := PlainSaid) fun k b i s l ks ih cs B w hV hB => ?_
  unfold IsV at hV
  obtain ⟨la, lc, ka, kc, rfl, -, -, ⟨hlc, hlm⟩, -, -, -, -, hL⟩ := hV
  have HC := Lib.hid (fun w' (hb : Below w.heap.size w w') => containsPlain_any l ih la lc B w' (hL.below hb hB) (Nat.le_trans hB hb.size) (by omega))
  clear ih hL
  show Calls Try.prog 23 #[.agg #[.int .i64 k, .bool b, .int .i64 i, .string s, .slice la l.length lc, .slice ka ks.length kc]] w _
  have HB0 := Lib.hid ((Below.refl w.heap.size w).alloc (Nat.le_refl _) (.cells #[.int .i64 k, .bool b, .int .i64 i, .string s, .slice la l.length lc, .slice ka ks.length kc] 26))
  have HP : Hid (plainV (.mk k b i s l ks) = (decide (k < 6) && plainVs l)) := Lib.hid (by unfold plainV; rfl)
  rw [HP.out]
  obtain ⟨R, hR⟩ : ∃ R, plainVs l = R := ⟨_, rfl⟩
  rw [hR] at HC ⊢
  clear hR HP
  by_cases hk : k < 6
  · have hkd : decide (k < 6) = true := decide_eq_true hk
    rw [hkd]
    clear hkd
    go_enter Try.func23, Try.ntmps23
    go_wp2_with fail
    refine (HC.out _ HB0.out).mono ?_
    rintro e w1 ⟨rfl, hb1⟩
    go_wp2_with fail
    go_ret
    exact ⟨by cases R <;> rfl, below_step HB0.out rfl hb1⟩
  · have hkd : decide (k < 6) = false := decide_eq_false hk
    have HKD := Lib.hid hkd
    rw [hkd]
    clear hkd
    go_enter Try.func23, Try.ntmps23
    go_wp2_with fail
    go_ret
    exact ⟨rfl, HB0.out⟩
def RPlainSaid (t : Vt) : Prop := ∀ (cs : List Value) (B : Nat) (w : World) (d : Int) (p : Nat), IsV B w cs t → B ≤ w.heap.size → (mayV t d p).2 = true →
    Calls Try.prog 24 #[.agg cs.toArray] w fun e w' => e = .returned (.bool (plainV t)) ∧ Below w.heap.size w w'
set_option maxRecDepth 100000 in
set_option maxHeartbeats 4000000 in
theorem rplain_any (t : Vt) : RPlainSaid t := by
  refine t.down (p := RPlainSaid) fun k b i s l ks ih cs B w d p hV hB hmay => ?_
  unfold IsV at hV
  obtain ⟨la, lc, ka, kc, rfl, -, -, ⟨hlc, hlm⟩, -, -, -, -, hL⟩ := hV
  obtain ⟨k', b', i', s', l', ks', heq, hhead, hsub⟩ := mayV_parts hmay
  obtain ⟨rfl, rfl, rfl, rfl, rfl, rfl⟩ : k' = k ∧ b' = b ∧ i' = i ∧ s' = s ∧ l' = l ∧ ks' = ks := by cases heq; exact ⟨rfl, rfl, rfl, rfl, rfl, rfl⟩
  have hk7 : 0 ≤ k' ∧ k' ≤ 7 := by have := of_decide_eq_true hhead; exact ⟨this.2.2.1, this.2.2.2.1⟩
  have IH := Lib.hid ih
  have HLs := Lib.hid hL
  have HSUB := Lib.hid hsub
  clear ih hL heq hhead hsub hmay
  show Calls Try.prog 24 #[.agg #[.int .i64 k', .bool b', .int .i64 i', .string s', .slice la l'.length lc, .slice ka ks'.length kc]] w _
  have HB0 := Lib.hid ((Below.refl w.heap.size w).alloc (Nat.le_refl _) (.cells #[.int .i64 k', .bool b', .int .i64 i', .string s', .slice la l'.length lc, .slice ka ks'.length kc] 26))
  have HBX := Lib.hid (Block.new w [.int .i64 k', .bool b', .int .i64 i', .string s', .slice la l'.length lc, .slice ka ks'.length kc] 26)
  have HP : Hid (plainV (.mk k' b' i' s' l' ks') = (decide (k' < 6) && plainVs l')) := Lib.hid (by unfold plainV; rfl)
  rw [HP.out]
  by_cases h6 : k' = 6
  · have k6 : (k' == 6) = true := by simp; exact h6
    have hkd : decide (k' < 6) = false := decide_eq_false (by omega)
    rw [hkd]
    clear h6 hkd
    go_enter Try.func24, Try.ntmps24
    go_wp2_with fail
    go_ret
    exact ⟨rfl, HB0.out⟩
  have k6 : (k' == 6) = false := by simp; exact h6
  by_cases h7 : k' = 7
  · have k7 : (k' == 7) = true := by simp; exact h7
    have hkd : decide (k' < 6) = false := decide_eq_false (by omega)
    rw [hkd]
    clear h6 h7 hkd
    go_enter Try.func24, Try.ntmps24
    go_wp2_with fail
    go_ret
    exact ⟨rfl, HB0.out⟩
  have k7 : (k' == 7) = false := by simp; exact h7
  have hkd : decide (k' < 6) = true := decide_eq_true (by omega)
  rw [hkd, Bool.true_and]
  clear hkd h6 h7
  go_enter Try.func24, Try.ntmps24
  go_wp2_with fail
  go_loopw [3] (fun iv wr => ∃ (j : Nat), iv = .int .i64 j ∧ j ≤ l'.length ∧ Hid (plainVs l' = plainVs (l'.drop j)) ∧ Hid (Below (w.heap.size + 1) (w.alloc (.cells #[.int .i64 k', .bool b', .int .i64 i', .string s', .slice la l'.length lc, .slice ka ks'.length kc] 26)) wr)) (fun iv _ => l'.length - (intOf iv).toNat)
  case atStart => exact ⟨0, rfl, Nat.zero_le _, Lib.hid rfl, Lib.hid (Below.refl _ _)⟩
  case round =>
    obtain ⟨j, rfl, hj, HN, HBW⟩ := hrel
    have HBR := Lib.hid (HB0.out.trans (HBW.out.mono (by omega)))
    have y4 := (HBX.out.below HBW.out (by omega)).cell (i := 4) rfl
    by_cases hlt : j < l'.length
    · have hlt' : (j : Int) < l'.length := by omega
      have hj0 : (0 : Int) ≤ (j : Int) := by omega
      obtain ⟨t, ht⟩ := get_some hlt
      have HPT := Lib.hid (plainVs_at ht)
      obtain ⟨eb, eo, k2, b2, i2, s2, l2, ks2, la2, lc2, ka2, kc2, rfl, rfl, heb, ⟨g0, g1, g2, g3, g4, g5⟩, hVt⟩ := (HLs.out.below HBR.out hB).at ht
      have hz := HBW.out.size
      obtain ⟨q, hq⟩ := HSUB.out j _ ht
      have HI := Lib.hid (IH.out j _ ht _ B wr (d - 1) q hVt (Nat.le_trans hB HBR.out.size) hq)
      clear hVt ht hq
      cases hpv : plainV (.mk k2 b2 i2 s2 l2 ks2) with
      | true =>
        rw [hpv] at HI HPT
        clear hpv
        go_wp2_with fail
        refine HI.out.mono ?_
        rintro e w2 ⟨rfl, hb2⟩
        have HB2 := Lib.hid (HBW.out.trans (hb2.mono (Nat.le_trans (by simp) hz)))
        clear hb2 g0 g1 g2 g3 g4 g5 y4
        go_wp2_with fail
        go_roundw
        case rel => exact ⟨j + 1, by go_num, by omega, Lib.hid (by rw [HN.out, HPT.out, Bool.true_and]), HB2⟩
        case measure => simp [intOf]; omega
      | false =>
        rw [hpv] at HI HPT
        clear hpv
        go_wp2_with fail
        refine HI.out.mono ?_
        rintro e w2 ⟨rfl, hb2⟩
        have HB2 := Lib.hid (below_step HBR.out rfl hb2)
        clear hb2 g0 g1 g2 g3 g4 g5 y4
        go_wp2_with fail
        go_ret
        exact ⟨by rw [HN.out, HPT.out, Bool.false_and]; rfl, HB2.out⟩
    · have hlt' : ¬ (j : Int) < l'.length := by omega
      have HF : Hid (plainVs l' = true) := Lib.hid (by rw [HN.out, List.drop_of_length_le (by omega)]; rfl)
      go_wp2_with fail
      go_ret
      exact ⟨by rw [HF.out]; rfl, HBR.out⟩
end Go.Proofs.Ytdkgjbjlpofieaa
