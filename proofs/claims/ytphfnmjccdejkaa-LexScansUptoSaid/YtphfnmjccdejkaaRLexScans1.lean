/- The texts L23 of this seat, one behind the other. Conditions: each says its own. -/
import Derived.Test.YtphfnmjccdejkaaM3

/- Layer 10: the law LexScans. Conditions: the text is no longer than 2^40; the variable of internal/bytealg is an int. -/
namespace Go.Proofs.Ytphfnmjccdejkaa
open Go.RowKit Go.Shelf
set_option linter.unusedSimpArgs false
set_option linter.unusedVariables false

theorem scanN_len : ∀ (f : Nat) (r : List UInt8) (p : Nat) (acc l : List (Tok × Nat)), acc.length ≤ 4096 → scanN f r p acc = .ok l → l.length ≤ 4097
  | 0, _, _, _, _, _, h => by rw [scanN] at h; cases h
  | f + 1, r, p, acc, l, ha, h => by
    rw [scanN] at h
    split at h
    · split at h
      · cases h
      · cases h; simp; omega
    · split at h
      · cases h
      · split at h
        · cases h
        · exact scanN_len f _ _ _ l (by simp; omega) h
theorem scanL_len {s : List UInt8} {l : List (Tok × Nat)} (h : scanL s = .ok l) : l.length ≤ 4097 := by
  unfold scanL at h
  split at h
  · cases h
  · exact scanN_len _ _ _ _ _ (by simp) h

set_option maxRecDepth 100000 in
set_option maxHeartbeats 4000000 in
theorem lexScans_any (s : ByteArray) (mm : Int) (w : World) (hs : s.size ≤ 1099511627776) (hm : w.cell? mlA = some (.int .i64 mm)) (hg : 0 < w.heap.size) :
    Calls Try.prog 3 #[.string s] w fun e w' => e = .returned (.bool true) ∧ Below w.heap.size w w' := by
  have HS := Lib.hid (scan_any s mm w hs hm hg)
  have HR := Lib.hid (fun w => rscan_any s w hs)
  have HW := Lib.hid (fun w' h1 h2 => word_any s mm w' hs h1 h2)
  have HRW := Lib.hid (fun w => rword_any s w hs)
  have HLEN := Lib.hid (fun l => scanL_len (s := s.data.toList) (l := l))
  obtain ⟨X, b, hXb⟩ := wordR_form s.data.toList
  rw [hXb] at HW HRW
  clear hXb
  obtain ⟨R, hR⟩ : ∃ R, scanL s.data.toList = R := ⟨_, rfl⟩
  rw [hR] at HS HR HLEN
  clear hR
  have HM : Hid (∀ w', Below w.heap.size w w' → w'.cell? mlA = some (.int .i64 mm) ∧ 0 < w'.heap.size) := Lib.hid (fun w' hb => ⟨by rw [hb.cell (by show 0 < w.heap.size; exact hg)]; exact hm, Nat.lt_of_lt_of_le hg hb.size⟩)
  clear hm
  go_enter Try.func3, Try.ntmps3
  go_wp2_with fail
  refine HS.out.mono ?_
  rintro e w1 ⟨he, hb1⟩
  obtain ⟨l1, v1, p1, x1, rfl, ho1, hr1⟩ := scan_list he
  have HB1 := Lib.hid hb1
  have HO1 := Lib.hid ho1
  have HR1 := Lib.hid hr1
  clear hb1 ho1 hr1 he
  go_wp2_with fail
  refine (HR.out _).mono ?_
  rintro e w2 ⟨he, hb2⟩
  obtain ⟨l2, v2, p2, x2, rfl, ho2, hr2⟩ := scan_list he
  have HB2 := Lib.hid (below_step HB1.out rfl hb2)
  have HO1b := Lib.hid (own_below HO1.out hb2)
  obtain ⟨rfl, rfl, rfl⟩ : l2 = l1 ∧ p2 = p1 ∧ x2 = x1 := by
    have h1 := HR1.out
    cases R with
    | bad p x => obtain ⟨a, b, c⟩ := hr2; obtain ⟨a', b', c'⟩ := h1; exact ⟨a.trans a'.symm, b.trans b'.symm, c.trans c'.symm⟩
    | ok l => obtain ⟨a, b, c⟩ := hr2; obtain ⟨a', b', c'⟩ := h1; exact ⟨a.trans a'.symm, b.trans b'.symm, c.trans c'.symm⟩
  have HO2 := Lib.hid ho2
  have hlen : l2.length ≤ 1000000 := by
    cases R with
    | bad p x => obtain ⟨rfl, _⟩ := hr2; simp
    | ok l => obtain ⟨rfl, _⟩ := hr2; have := HLEN.out _ rfl; omega
  clear hb2 ho2 hr2 he HR1 HO1
  go_wp2_with fail
  refine (HW.out w2 (HM.out w2 HB2.out).1 (HM.out w2 HB2.out).2).mono ?_
  rintro e w3 ⟨rfl, hb3⟩
  have HB3 := Lib.hid (below_step HB2.out rfl hb3)
  have HO1c := Lib.hid (own_below HO1b.out hb3)
  have HO2c := Lib.hid (own_below HO2.out hb3)
  clear hb3
  go_wp2_with fail
  refine (HRW.out _).mono ?_
  rintro e w4 ⟨rfl, hb4⟩
  have HB4 := Lib.hid (below_step HB3.out rfl hb4)
  have HSM := Lib.hid (same_eq _ _ l2 v1 v2 w4 hlen (own_below HO1c.out hb4) (own_below HO2c.out hb4))
  clear hb4
  go_wp2_with fail
  refine HSM.out.mono ?_
  rintro e w5 ⟨rfl, hb5⟩
  have HB5 := Lib.hid (below_step HB4.out rfl hb5)
  have HWK := Lib.hid (works_any mm w5 (HM.out w5 HB5.out).1 (HM.out w5 HB5.out).2)
  clear hb5
  go_wp2_with fail
  refine HWK.out.mono ?_
  rintro e w6 ⟨rfl, hb6⟩
  have HB6 := Lib.hid (below_step HB5.out rfl hb6)
  clear hb6
  go_wp2_with fail
  go_ret
  exact ⟨rfl, HB6.out⟩
end Go.Proofs.Ytphfnmjccdejkaa
