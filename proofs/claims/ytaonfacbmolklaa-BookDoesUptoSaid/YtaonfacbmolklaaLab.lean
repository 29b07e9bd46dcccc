/- The reference's Label: a text put into a sorted row, anew. Conditions: none. -/
import Derived.Test.YtaonfacbmolklaaAlone
namespace Go.Proofs.Ytaonfacbmolklaa
open Go.RowKit
set_option linter.unusedSimpArgs false
set_option linter.unusedVariables false

/-- What is yet to be put out. -/
def lab (x : ByteArray) : List ByteArray → Bool → List ByteArray
  | [], done => if done then [] else [x]
  | y :: ys, done => (if !done && !(ltS y x) then [x] else []) ++ ((if y = x then [] else [y]) ++ lab x ys (done || !(ltS y x)))
theorem drop_cons {α : Type} {l : List α} {j : Nat} {y : α} (h : l[j]? = some y) : l.drop j = y :: l.drop (j + 1) := by
  obtain ⟨h1, h2⟩ := List.getElem?_eq_some_iff.1 h
  rw [List.drop_eq_getElem_cons h1, h2]
theorem lab_done (x : ByteArray) : ∀ (l : List ByteArray), x ∉ l → lab x l true = l
  | [], _ => rfl
  | y :: ys, h => by
    have h1 : ¬ y = x := fun e => h (by rw [e]; exact List.mem_cons_self)
    unfold lab
    rw [if_neg h1, Bool.true_or, lab_done x ys (fun hm => h (List.mem_cons_of_mem _ hm))]
    rfl
theorem lab_ins (x : ByteArray) : ∀ (l : List ByteArray), SortedS l → lab x l false = insS l x
  | [], _ => rfl
  | y :: ys, hs => by
    have hmem : ∀ z ∈ ys, ltS y z = true := fun z hz => by
      obtain ⟨i, hi⟩ := List.mem_iff_getElem?.1 hz
      exact hs 0 (i + 1) y z (by omega) rfl (by simpa using hi)
    unfold lab insS
    by_cases h : y = x
    · subst h
      rw [ltS_irrefl]
      have hn : y ∉ ys := fun hm => by have := hmem y hm; rw [ltS_irrefl] at this; cases this
      simp [lab_done y ys hn]
    · by_cases h1 : ltS y x = true
      · have h2 : ltS x y = false := ltS_asymm h1
        simp [h, h1, h2, lab_ins x ys hs.tail, fun e : x = y => h e.symm]
      · have h1' : ltS y x = false := by simpa using h1
        have h2 : ltS x y = true := by
          rcases ltS_tri x y with h3 | h3 | h3
          · exact h3
          · exact absurd h3.symm h
          · rw [h1'] at h3; cases h3
        have hn : x ∉ ys := fun hm => by have := hmem x hm; rw [h1'] at this; cases this
        simp [h, h1', h2, lab_done x ys hn, fun e : x = y => h e.symm]
theorem Try.infoStr : (Try.prog.info? 9).map (fun i => (i.zero, i.size, i.bytes)) = some (some (.string ByteArray.empty), 1, 16) := by kernel_rfl
def LabP (w : World) (r : List ByteArray) (e : Ending) (w' : World) : Prop := ∃ a c, e = .returned (.slice a r.length c) ∧ w'.ownsRow w.heap.size 9 1 (.slice a r.length c) r.length (r.map Value.string) ∧ Below w.heap.size w w'
set_option maxRecDepth 100000 in
set_option maxHeartbeats 4000000 in
theorem label_any (w : World) (l : List ByteArray) (x : ByteArray) (a : Option Addr) (c : Nat) (hrow : StrRow w.heap.size w a l) (hn : l.length ≤ 1099511627776) :
    Calls Try.prog 44 #[.slice a l.length c, .string x, .bool true] w (LabP w (lab x l false)) := by
  have HROW := Lib.hid hrow
  obtain ⟨n, hl⟩ : ∃ n, l.length = n := ⟨_, rfl⟩
  rw [hl] at hn ⊢
  have HL := Lib.hid hl
  obtain ⟨R, hR⟩ : ∃ R, lab x l false = R := ⟨_, rfl⟩
  have HR := Lib.hid hR
  obtain ⟨Q, hQ⟩ : ∃ Q, LabP w R = Q := ⟨_, rfl⟩
  have HQ := Lib.hid hQ
  rw [hR, hQ]
  obtain ⟨iP, siP, szP, s1P, s2P⟩ := info_parts Try.infoStr
  clear hrow hl hR hQ
  go_enter Try.func44, Try.ntmps44
  go_wp2_with fail
  go_loopw [7, 8, 9] (fun ov dv jv wr => ∃ (j n2 : Nat) (a2 : Option Addr) (c2 : Nat) (d : Bool) (ks : List ByteArray), jv = .int .i64 j ∧ dv = .bool d ∧ ov = .slice a2 n2 c2 ∧ j ≤ n ∧ n2 ≤ j + 1 ∧ Hid (d = false → n2 ≤ j) ∧ Hid (wr.ownsRow w.heap.size 9 1 (.slice a2 n2 c2) n2 (ks.map Value.string) ∧ ks.length = n2 ∧ ks ++ lab x (l.drop j) d = R) ∧ Hid (Below w.heap.size w wr)) (fun _ _ jv _ => n - (intOf jv).toNat)
  case atStart => exact ⟨0, 0, none, 0, false, [], rfl, rfl, rfl, Nat.zero_le _, Nat.zero_le _, Lib.hid (fun _ => Nat.zero_le _), Lib.hid ⟨World.ownsRow_nil _ _ _ _, rfl, HR.out⟩, Lib.hid (Below.refl _ _)⟩
  case round =>
    obtain ⟨j, n2, a2, c2, d, ks, rfl, rfl, rfl, hj, hn2, HDN, HO, HB⟩ := hrel
    by_cases hlt : j < n
    · have hlt' : (j : Int) < n := by omega
      have hj0 : (0 : Int) ≤ (j : Int) := by omega
      obtain ⟨y, hy⟩ : ∃ y, l[j]? = some y := get_some (by have := HL.out; omega)
      obtain ⟨b, off, rfl, hb, hc⟩ := HROW.out.get hy
      have hcw : wr.cell? ⟨b, off + j, none⟩ = some (.string y) := by rw [HB.out.cell hb]; exact hc
      have hdrop : l.drop j = y :: l.drop (j + 1) := drop_cons hy
      have hfin := HO.out.2.2
      rw [hdrop] at hfin
      unfold lab at hfin
      have HFIN := Lib.hid hfin
      have HZ := Lib.hid HB.out.size
      clear hfin hdrop hc hy
      have hbe := ba_beq y x
      have HCW := Lib.hid hcw
      have HN2 := HDN
      have hn22 := hn2
      cases d with
      | true =>
        by_cases hyx : y = x
        · have h4 : (y.toList == x.toList) = true := by rw [hbe]; exact decide_eq_true hyx
          have HFX : Hid (ks ++ lab x (l.drop (j + 1)) true = R) := Lib.hid (by have h := HFIN.out; simpa [hyx] using h)
          clear hyx hbe
          go_wp2_with fail
          go_roundw
          case rel => exact ⟨j + 1, n2, a2, c2, true, ks, by go_num, rfl, rfl, by omega, by omega, Lib.hid (by have := HN2.out; intro; first | omega | contradiction), Lib.hid ⟨HO.out.1, HO.out.2.1, by have h := HFIN.out; exact HFX.out⟩, HB⟩
          case measure => simp [intOf]; omega
        · have h4 : (y.toList == x.toList) = false := by rw [hbe]; exact decide_eq_false hyx
          have HFX : Hid ((ks ++ [y]) ++ lab x (l.drop (j + 1)) true = R) := Lib.hid (by have h := HFIN.out; simpa [hyx] using h)
          clear hyx hbe
          go_wp2_with (at_builtin; refine wpList_append_lies _ rfl _ _ 29 rfl w.heap.size 9 iP _ 1 16 Try.underlying29 siP szP s1P s2P rfl (by omega) (.slice a2 n2 c2) (n2) (ks.map Value.string) rfl (HO.out.1.alloc _) ⟨wr.heap.size, 0, none⟩ 1 1 [.string y] rfl rfl (World.news_of_block (cs := #[.string y]) (t := 9) (fr := (0, 0)) (new_drew wr _)) (by simp [Value.oneCell']) (by omega) (by unfold maxLen; omega) (by omega) (by have := HZ.out; simp; omega) (wr.heap.size + 1) (by simp) ?_)
          intro g0 cap0 w0 hown0 hg0 hat0 hlt0
          have HO0 : Hid (w0.ownsRow w.heap.size 9 1 (.slice (some ⟨g0, 0, none⟩) (n2 + 1) cap0) (n2 + 1) ((ks ++ [y]).map Value.string) ∧ (ks ++ [y]).length = n2 + 1) := Lib.hid (by rw [List.map_append, List.length_append, HO.out.2.1]; exact ⟨by have h := hown0; simpa [List.append_assoc] using h, rfl⟩)
          have HB0 : Hid (Below w.heap.size w w0) := Lib.hid (kept_more (HB.out.alloc HZ.out _) (HO.out.1.alloc _) hg0)
          have HZ0 : Hid (w.heap.size ≤ w0.heap.size) := Lib.hid HB0.out.size
          have hc0 : w0.cell? ⟨b, off + j, none⟩ = some (.string y) := by rw [HB0.out.cell hb, ← HB.out.cell hb]; exact HCW.out
          clear hown0 hg0 hat0 hlt0
          go_wp2_with fail
          go_roundw
          case rel => exact ⟨j + 1, n2 + 1, some ⟨g0, 0, none⟩, cap0, true, (ks ++ [y]), by go_num, rfl, rfl, by omega, by omega, Lib.hid (by have := HN2.out; intro; first | omega | contradiction), Lib.hid ⟨HO0.out.1, HO0.out.2, by have h := HFIN.out; exact HFX.out⟩, HB0⟩
          case measure => simp [intOf]; omega
      | false =>
        cases hyl : ltS y x with
        | true =>
          have hyx : ¬ y = x := fun e => by rw [e, ltS_irrefl] at hyl; cases hyl
          have h4 : (y.toList == x.toList) = false := by rw [hbe]; exact decide_eq_false hyx
          have h5 : Op.bytesLess y.toList x.toList = true := hyl
          have HFX : Hid ((ks ++ [y]) ++ lab x (l.drop (j + 1)) false = R) := Lib.hid (by have h := HFIN.out; simpa [hyx, hyl] using h)
          have hn23 : n2 ≤ j := HN2.out rfl
          clear hyx hbe hyl
          go_wp2_with (at_builtin; refine wpList_append_lies _ rfl _ _ 29 rfl w.heap.size 9 iP _ 1 16 Try.underlying29 siP szP s1P s2P rfl (by omega) (.slice a2 n2 c2) (n2) (ks.map Value.string) rfl (HO.out.1.alloc _) ⟨wr.heap.size, 0, none⟩ 1 1 [.string y] rfl rfl (World.news_of_block (cs := #[.string y]) (t := 9) (fr := (0, 0)) (new_drew wr _)) (by simp [Value.oneCell']) (by omega) (by unfold maxLen; omega) (by omega) (by have := HZ.out; simp; omega) (wr.heap.size + 1) (by simp) ?_)
          intro g0 cap0 w0 hown0 hg0 hat0 hlt0
          have HO0 : Hid (w0.ownsRow w.heap.size 9 1 (.slice (some ⟨g0, 0, none⟩) (n2 + 1) cap0) (n2 + 1) ((ks ++ [y]).map Value.string) ∧ (ks ++ [y]).length = n2 + 1) := Lib.hid (by rw [List.map_append, List.length_append, HO.out.2.1]; exact ⟨by have h := hown0; simpa [List.append_assoc] using h, rfl⟩)
          have HB0 : Hid (Below w.heap.size w w0) := Lib.hid (kept_more (HB.out.alloc HZ.out _) (HO.out.1.alloc _) hg0)
          have HZ0 : Hid (w.heap.size ≤ w0.heap.size) := Lib.hid HB0.out.size
          have hc0 : w0.cell? ⟨b, off + j, none⟩ = some (.string y) := by rw [HB0.out.cell hb, ← HB.out.cell hb]; exact HCW.out
          clear hown0 hg0 hat0 hlt0
          go_wp2_with fail
          go_roundw
          case rel => exact ⟨j + 1, n2 + 1, some ⟨g0, 0, none⟩, cap0, false, (ks ++ [y]), by go_num, rfl, rfl, by omega, by omega, Lib.hid (by have := HN2.out; intro; first | omega | contradiction), Lib.hid ⟨HO0.out.1, HO0.out.2, by have h := HFIN.out; exact HFX.out⟩, HB0⟩
          case measure => simp [intOf]; omega
        | false =>
          have h5 : Op.bytesLess y.toList x.toList = false := hyl
          have hn23 : n2 ≤ j := HN2.out rfl
          by_cases hyx : y = x
          · have h4 : (y.toList == x.toList) = true := by rw [hbe]; exact decide_eq_true hyx
            have HFX : Hid ((ks ++ [x]) ++ lab x (l.drop (j + 1)) true = R) := Lib.hid (by have h := HFIN.out; simpa [hyx, hyl, ltS_irrefl] using h)
            clear hyx hbe hyl
            go_wp2_with (at_builtin; refine wpList_append_lies _ rfl _ _ 29 rfl w.heap.size 9 iP _ 1 16 Try.underlying29 siP szP s1P s2P rfl (by omega) (.slice a2 n2 c2) (n2) (ks.map Value.string) rfl (HO.out.1.alloc _) ⟨wr.heap.size, 0, none⟩ 1 1 [.string x] rfl rfl (World.news_of_block (cs := #[.string x]) (t := 9) (fr := (0, 0)) (new_drew wr _)) (by simp [Value.oneCell']) (by omega) (by unfold maxLen; omega) (by omega) (by have := HZ.out; simp; omega) (wr.heap.size + 1) (by simp) ?_)
            intro g0 cap0 w0 hown0 hg0 hat0 hlt0
            have HO0 : Hid (w0.ownsRow w.heap.size 9 1 (.slice (some ⟨g0, 0, none⟩) (n2 + 1) cap0) (n2 + 1) ((ks ++ [x]).map Value.string) ∧ (ks ++ [x]).length = n2 + 1) := Lib.hid (by rw [List.map_append, List.length_append, HO.out.2.1]; exact ⟨by have h := hown0; simpa [List.append_assoc] using h, rfl⟩)
            have HB0 : Hid (Below w.heap.size w w0) := Lib.hid (kept_more (HB.out.alloc HZ.out _) (HO.out.1.alloc _) hg0)
            have HZ0 : Hid (w.heap.size ≤ w0.heap.size) := Lib.hid HB0.out.size
            have hc0 : w0.cell? ⟨b, off + j, none⟩ = some (.string y) := by rw [HB0.out.cell hb, ← HB.out.cell hb]; exact HCW.out
            clear hown0 hg0 hat0 hlt0
            go_wp2_with fail
            go_roundw
            case rel => exact ⟨j + 1, n2 + 1, some ⟨g0, 0, none⟩, cap0, true, (ks ++ [x]), by go_num, rfl, rfl, by omega, by omega, Lib.hid (by have := HN2.out; intro; first | omega | contradiction), Lib.hid ⟨HO0.out.1, HO0.out.2, by have h := HFIN.out; exact HFX.out⟩, HB0⟩
            case measure => simp [intOf]; omega
          · have h4 : (y.toList == x.toList) = false := by rw [hbe]; exact decide_eq_false hyx
            have HFX : Hid (((ks ++ [x]) ++ [y]) ++ lab x (l.drop (j + 1)) true = R) := Lib.hid (by have h := HFIN.out; simpa [hyx, hyl] using h)
            clear hyx hbe hyl
            go_wp2_with (at_builtin; refine wpList_append_lies _ rfl _ _ 29 rfl w.heap.size 9 iP _ 1 16 Try.underlying29 siP szP s1P s2P rfl (by omega) (.slice a2 n2 c2) (n2) (ks.map Value.string) rfl (HO.out.1.alloc _) ⟨wr.heap.size, 0, none⟩ 1 1 [.string x] rfl rfl (World.news_of_block (cs := #[.string x]) (t := 9) (fr := (0, 0)) (new_drew wr _)) (by simp [Value.oneCell']) (by omega) (by unfold maxLen; omega) (by omega) (by have := HZ.out; simp; omega) (wr.heap.size + 1) (by simp) ?_)
            intro g0 cap0 w0 hown0 hg0 hat0 hlt0
            have HO0 : Hid (w0.ownsRow w.heap.size 9 1 (.slice (some ⟨g0, 0, none⟩) (n2 + 1) cap0) (n2 + 1) ((ks ++ [x]).map Value.string) ∧ (ks ++ [x]).length = n2 + 1) := Lib.hid (by rw [List.map_append, List.length_append, HO.out.2.1]; exact ⟨by have h := hown0; simpa [List.append_assoc] using h, rfl⟩)
            have HB0 : Hid (Below w.heap.size w w0) := Lib.hid (kept_more (HB.out.alloc HZ.out _) (HO.out.1.alloc _) hg0)
            have HZ0 : Hid (w.heap.size ≤ w0.heap.size) := Lib.hid HB0.out.size
            have hc0 : w0.cell? ⟨b, off + j, none⟩ = some (.string y) := by rw [HB0.out.cell hb, ← HB.out.cell hb]; exact HCW.out
            clear hown0 hg0 hat0 hlt0
            go_wp2_with (at_builtin; refine wpList_append_lies _ rfl _ _ 29 rfl w.heap.size 9 iP _ 1 16 Try.underlying29 siP szP s1P s2P rfl (by omega) (.slice (some ⟨g0, 0, none⟩) (n2 + 1) cap0) (n2 + 1) ((ks ++ [x]).map Value.string) rfl (HO0.out.1.alloc _) ⟨w0.heap.size, 0, none⟩ 1 1 [.string y] rfl rfl (World.news_of_block (cs := #[.string y]) (t := 9) (fr := (0, 0)) (new_drew w0 _)) (by simp [Value.oneCell']) (by omega) (by unfold maxLen; omega) (by omega) (by have := HZ0.out; simp; omega) (w0.heap.size + 1) (by simp) ?_)
            intro g1 cap1 w1 hown1 hg1 hat1 hlt1
            have HO1 : Hid (w1.ownsRow w.heap.size 9 1 (.slice (some ⟨g1, 0, none⟩) (n2 + 1 + 1) cap1) (n2 + 1 + 1) (((ks ++ [x]) ++ [y]).map Value.string) ∧ ((ks ++ [x]) ++ [y]).length = n2 + 1 + 1) := Lib.hid (by rw [List.map_append, List.length_append, HO0.out.2]; exact ⟨by have h := hown1; simpa [List.append_assoc] using h, rfl⟩)
            have HB1 : Hid (Below w.heap.size w w1) := Lib.hid (kept_more (HB0.out.alloc HZ0.out _) (HO0.out.1.alloc _) hg1)
            have HZ1 : Hid (w.heap.size ≤ w1.heap.size) := Lib.hid HB1.out.size
            have hc1 : w1.cell? ⟨b, off + j, none⟩ = some (.string y) := by rw [HB1.out.cell hb, ← HB.out.cell hb]; exact HCW.out
            clear hown1 hg1 hat1 hlt1
            go_wp2_with fail
            go_roundw
            case rel => exact ⟨j + 1, n2 + 1 + 1, some ⟨g1, 0, none⟩, cap1, true, ((ks ++ [x]) ++ [y]), by go_num, rfl, rfl, by omega, by omega, Lib.hid (by have := HN2.out; intro; first | omega | contradiction), Lib.hid ⟨HO1.out.1, HO1.out.2, by have h := HFIN.out; exact HFX.out⟩, HB1⟩
            case measure => simp [intOf]; omega
    · have hlt' : ¬ (j : Int) < n := by omega
      have hjn : j = n := by omega
      have hfin := HO.out.2.2
      rw [List.drop_eq_nil_of_le (by have := HL.out; omega)] at hfin
      have HFIN := Lib.hid hfin
      have HZ := Lib.hid HB.out.size
      clear hfin
      cases d with
      | true =>
        have HFX : Hid (ks = R) := Lib.hid (by have h := HFIN.out; simpa [lab] using h)
        go_wp2_with fail
        rw [← HQ.out]
        refine ⟨a2, c2, ?_, ?_, HB.out⟩
        · rw [← HFX.out, HO.out.2.1]
        · rw [← HFX.out, HO.out.2.1]; exact HO.out.1
      | false =>
        have HFX : Hid (ks ++ [x] = R) := Lib.hid (by have h := HFIN.out; simpa [lab] using h)
        go_wp2_with (at_builtin; refine wpList_append_lies _ rfl _ _ 29 rfl w.heap.size 9 iP _ 1 16 Try.underlying29 siP szP s1P s2P rfl (by omega) (.slice a2 n2 c2) (n2) (ks.map Value.string) rfl (HO.out.1.alloc _) ⟨wr.heap.size, 0, none⟩ 1 1 [.string x] rfl rfl (World.news_of_block (cs := #[.string x]) (t := 9) (fr := (0, 0)) (new_drew wr _)) (by simp [Value.oneCell']) (by omega) (by unfold maxLen; omega) (by omega) (by have := HZ.out; simp; omega) (wr.heap.size + 1) (by simp) ?_)
        intro g0 cap0 w0 hown0 hg0 hat0 hlt0
        have HO0 : Hid (w0.ownsRow w.heap.size 9 1 (.slice (some ⟨g0, 0, none⟩) (n2 + 1) cap0) (n2 + 1) ((ks ++ [x]).map Value.string) ∧ (ks ++ [x]).length = n2 + 1) := Lib.hid (by rw [List.map_append, List.length_append, HO.out.2.1]; exact ⟨hown0, rfl⟩)
        have HB0 : Hid (Below w.heap.size w w0) := Lib.hid (kept_more (HB.out.alloc HZ.out _) (HO.out.1.alloc _) hg0)
        clear hown0 hg0 hat0 hlt0
        go_wp2_with fail
        rw [← HQ.out]
        refine ⟨some ⟨g0, 0, none⟩, cap0, ?_, ?_, HB0.out⟩
        · rw [← HFX.out, HO0.out.2]; rfl
        · rw [← HFX.out, HO0.out.2]; exact HO0.out.1
end Go.Proofs.Ytaonfacbmolklaa
