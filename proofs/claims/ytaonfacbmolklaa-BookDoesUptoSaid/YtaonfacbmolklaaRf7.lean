/- The reference's book: Drop. Conditions: sizes are small. -/
import Derived.Test.YtaonfacbmolklaaRf6
namespace Go.Proofs.Ytaonfacbmolklaa
open Go.RowKit
set_option linter.unusedSimpArgs false
set_option linter.unusedVariables false

theorem RActed.trans {a b c : World} {B P : Nat} {bk bk' : Bk} {S : Nat → Prop} (h : RActed a B P bk S b) (k : RActed b B P bk' (grow S a b) c) : RActed a B P bk' S c := by
  obtain ⟨⟨_, _, h1, _⟩, h2⟩ := h
  obtain ⟨k1, k2⟩ := k
  have hbs := h1.base
  have hz1 := h2.size
  have hz2 := k2.size
  obtain ⟨lv, zs, hI, hes⟩ := k1
  refine ⟨⟨lv, zs, hI.same (fun _ _ _ => rfl) (fun x hx => ?_) (fun x hx => ?_), hes⟩, h2.trans k2 fun x hx => ?_⟩
  · unfold grow at *
    rcases hx with (hx | hx) | hx
    · exact .inl hx
    · exact .inr ⟨hx.1, by omega⟩
    · exact .inr ⟨by omega, hx.2⟩
  · apply hI.base
    unfold grow at *
    rcases hx with hx | hx
    · exact .inl (.inl hx)
    · by_cases h3 : x < b.heap.size
      · exact .inl (.inr ⟨hx.1, h3⟩)
      · exact .inr ⟨by omega, hx.2⟩
  · rcases hx with hx | hx
    · exact .inl hx
    · exact .inr hx.1
theorem flat_len {α : Type} {f : α → List Value} {size : Nat} : ∀ (zs : List α), (∀ o ∈ zs, (f o).length = size) → (zs.flatMap f).length = zs.length * size
  | [], _ => by simp
  | o :: zs, hf => by rw [List.flatMap_cons, List.length_append, hf o (by simp), flat_len zs (fun o ho => hf o (by simp [ho])), List.length_cons, Nat.succ_mul, Nat.add_comm]
theorem flat_take {α : Type} {f : α → List Value} {size : Nat} : ∀ (zs : List α) (k : Nat), (∀ o ∈ zs, (f o).length = size) → (zs.flatMap f).take (k * size) = (zs.take k).flatMap f
  | [], k, _ => by simp
  | o :: zs, 0, _ => by simp
  | o :: zs, k + 1, hf => by
    have hl := hf o (by simp)
    rw [List.flatMap_cons, List.take_succ_cons, List.flatMap_cons, List.take_append, List.take_of_length_le (by rw [hl, Nat.succ_mul]; omega), hl, show (k + 1) * size - size = k * size from by rw [Nat.succ_mul]; omega, flat_take zs k (fun o ho => hf o (by simp [ho]))]
theorem flat_drop {α : Type} {f : α → List Value} {size : Nat} : ∀ (zs : List α) (k : Nat), (∀ o ∈ zs, (f o).length = size) → (zs.flatMap f).drop (k * size) = (zs.drop k).flatMap f
  | [], k, _ => by simp
  | o :: zs, 0, _ => by simp
  | o :: zs, k + 1, hf => by
    have hl := hf o (by simp)
    rw [List.flatMap_cons, List.drop_succ_cons, List.drop_append, List.drop_of_length_le (by rw [hl, Nat.succ_mul]; omega), hl, show (k + 1) * size - size = k * size from by rw [Nat.succ_mul]; omega, flat_drop zs k (fun o ho => hf o (by simp [ho])), List.nil_append]
theorem IsRef.one {w : World} {B P : Nat} {last : Int} {S : Nat → Prop} {lv : Value} {zs : List Z} (h : IsRef w B P last S lv zs) : ∀ u ∈ zs.flatMap cellsZ, u.oneCell' = true := by
  intro u hu
  obtain ⟨z, hz, hu⟩ := List.mem_flatMap.1 hu
  obtain ⟨⟨a1, c1, h1, _⟩, ⟨a2, c2, h2, _⟩⟩ := h.rows z hz
  unfold cellsZ cellsE at hu
  rw [h1, h2] at hu
  simp only [List.mem_cons, List.not_mem_nil, or_false] at hu
  rcases hu with rfl | rfl | rfl | rfl | rfl | rfl <;> rfl
def RDropP (w : World) (B P : Nat) (bk : Bk) (S : Nat → Prop) (who : Int) (e : Ending) (w' : World) : Prop := e = .returned (.int .i64 (dropB bk who).1) ∧ RActed w B P (dropB bk who).2 S w'
set_option maxRecDepth 100000 in
set_option maxHeartbeats 8000000 in
theorem rdrop_any (w : World) (B P : Nat) (bk : Bk) (S : Nat → Prop) (who : Int) (h : RefAt w B P bk S) (hn : bk.es.length ≤ 1000000) :
    Calls Try.prog 17 #[.pointer (some ⟨P, 0, none⟩), .int .i64 who] w (RDropP w B P bk S who) := by
  have HRA := Lib.hid h
  obtain ⟨lv, zs, hI, hes⟩ := h
  have HI := Lib.hid hI
  have HES := Lib.hid hes
  have hlen : zs.length = bk.es.length := by rw [← hes, List.length_map]
  have HN := Lib.hid hn
  obtain ⟨a, c, rfl⟩ := own_form hI.row
  have HF := Lib.hid (rfind_any w B P bk.last who S _ zs hI (by omega))
  rw [hes] at HF
  have HPL : Hid (dropB bk who = match findB bk.es who with | none => (23, bk) | some k => (0, ⟨forgetB (bk.es.eraseIdx k), bk.last⟩)) := Lib.hid rfl
  have HPB : Hid (placeB bk.es who = match findB bk.es who with | none => -1 | some k => (k : Int)) := Lib.hid rfl
  obtain ⟨Q, hQ⟩ : ∃ Q, RDropP w B P bk S who = Q := ⟨_, rfl⟩
  rw [hQ]
  have HQ := Lib.hid hQ
  cases hfd : findB bk.es who with
  | none =>
    have hp : placeB bk.es who = -1 := by rw [HPB.out, hfd]
    have HR : Hid (dropB bk who = (23, bk)) := Lib.hid (by have h := HPL.out; rw [hfd] at h; exact h)
    rw [hp] at HF
    clear hI hes hlen hQ hfd hp hn
    go_enter Try.func17, Try.ntmps17
    go_wp2_with fail
    refine HF.out.mono ?_
    rintro e w1 ⟨rfl, rfl⟩
    go_wp2_with fail
    rw [← HQ.out]
    unfold RDropP
    rw [HR.out]
    exact ⟨by rfl, HRA.out.acted (Below.refl _ _)⟩
  | some k =>
    have hp : placeB bk.es who = (k : Int) := by rw [HPB.out, hfd]
    have HR : Hid (dropB bk who = (0, ⟨forgetB (bk.es.eraseIdx k), bk.last⟩)) := Lib.hid (by have h := HPL.out; rw [hfd] at h; exact h)
    rw [hp] at HF
    obtain ⟨e, he, _, _⟩ := findB_some hfd
    have hkn : k < zs.length := by have := (List.getElem?_eq_some_iff.1 he).1; omega
    obtain ⟨z, hz⟩ : ∃ z, zs[k]? = some z := get_some hkn
    obtain ⟨g, c', hac, hg, hc⟩ := hI.cell hz
    injection hac with e1 e2 e3
    subst e1
    clear e2 e3
    have hcl : ∀ (zs : List Z), ∀ o ∈ zs, (cellsZ o).length = 6 := fun _ o _ => cellsZ_len o
    have hCW := own_cells_of hI.row
    have HC1 : Hid (Cells w.heap.size w (some ⟨g, 0, none⟩) ((zs.take k).flatMap cellsZ)) := Lib.hid (by rw [← flat_take zs k (hcl zs)]; exact hCW.take _)
    have HC2 : Hid (Cells w.heap.size w (some ⟨g, 0 + (k + 1) * 6, none⟩) ((zs.drop (k + 1)).flatMap cellsZ)) := Lib.hid (by rw [← flat_drop zs (k + 1) (hcl zs)]; exact hCW.drop _)
    have HO1 : Hid (∀ u ∈ (zs.take k).flatMap cellsZ, u.oneCell' = true) := Lib.hid (fun u hu => by rw [← flat_take zs k (hcl zs)] at hu; exact hI.one u (List.mem_of_mem_take hu))
    have HO2 : Hid (∀ u ∈ (zs.drop (k + 1)).flatMap cellsZ, u.oneCell' = true) := Lib.hid (fun u hu => by rw [← flat_drop zs (k + 1) (hcl zs)] at hu; exact hI.one u (List.mem_of_mem_drop hu))
    have HL1 : Hid (((zs.take k).flatMap cellsZ).length = k * 6) := Lib.hid (by rw [flat_len _ (hcl _), List.length_take, Nat.min_eq_left (Nat.le_of_lt hkn)])
    have HL2 : Hid (((zs.drop (k + 1)).flatMap cellsZ).length = (zs.length - (k + 1)) * 6) := Lib.hid (by rw [flat_len _ (hcl _), List.length_drop])
    have hcap := own_cap hI.row
    have c0 := hI.blk.cell (i := 0) rfl
    have hPl := hI.blk.lt
    have hBl := hI.size
    have hk0 : (0 : Int) ≤ (k : Int) := by omega
    have hn1 : zs.length ≤ 1000000 := by omega
    obtain ⟨n, hzn⟩ : ∃ n, zs.length = n := ⟨_, rfl⟩
    have HZN := Lib.hid hzn
    rw [hzn] at c0 hn1 hkn HI HL2 hcap
    obtain ⟨iT, siT, szT, s1T, s2T⟩ := info_parts Try.infoT
    clear hI hes hlen hQ hfd hp he hz hc hn hcl hCW hzn
    go_enter Try.func17, Try.ntmps17
    go_wp2_with fail
    refine HF.out.mono ?_
    rintro e w1 ⟨rfl, rfl⟩
    have hnil := World.ownsRow_nil w w.heap.size 58 6
    go_wp2_with (at_builtin; refine wpList_append_rows rfl _ _ 26 rfl w.heap.size 58 iT _ 6 80 Try.underlying26 siT szT s1T s2T rfl (by omega) (.slice none 0 0) 0 [] rfl hnil (some ⟨g, 0, none⟩) k c w.heap.size ((zs.take k).flatMap cellsZ) rfl (fun h => by cases h) HL1.out HC1.out HO1.out (by unfold maxLen; omega) (by omega) (Nat.le_refl _) ?_)
    intro a1 cap1 w1 hown1 hg1 hat1
    have hb1 : Below w.heap.size w w1 := kept_more (Below.refl _ _) hnil hg1
    have c1 := (hb1.cell (p := ⟨P, 0, none⟩) hPl).trans c0
    have HB1 := Lib.hid hb1
    have HW1 : Hid (w1.ownsRow w.heap.size 58 6 (.slice a1 k cap1) k ((zs.take k).flatMap cellsZ)) := Lib.hid (by simpa using hown1)
    clear hown1 hg1 hat1 hb1 hnil
    by_cases hck : c = k + 1
    · have HD : Hid ((zs.drop (k + 1)).flatMap cellsZ = []) := Lib.hid (by rw [List.drop_of_length_le (by rw [HZN.out]; omega)]; rfl)
      go_wp2_with (at_builtin; refine wpList_append_rows rfl _ _ 26 rfl w.heap.size 58 iT _ 6 80 Try.underlying26 siT szT s1T s2T rfl (by omega) (.slice a1 k cap1) k ((zs.take k).flatMap cellsZ) rfl HW1.out (some ⟨g, 0, none⟩) (n - (k + 1)) 0 w1.heap.size [] rfl (fun h => by cases h) (by rw [show n - (k + 1) = 0 from by omega]; rfl) (.inl rfl) (fun u hu => by simp at hu) (by unfold maxLen; omega) (by omega) HB1.out.size ?_)
      intro a2 cap2 w2 hown2 hg2 hat2
      have HB2 : Hid (Below w.heap.size w w2) := Lib.hid (kept_more HB1.out HW1.out hg2)
      have hb3 := HI.out.blk.of_heap (HB2.out.block P hPl)
      have k0 := hb3.cell (i := 0) rfl
      have f0 := hb3.free 0
      have HW2 : Hid (w2.ownsRow w.heap.size 58 6 (.slice a2 (k + (n - (k + 1))) cap2) (zs.eraseIdx k).length ((zs.eraseIdx k).flatMap cellsZ)) := Lib.hid (by
        have hl : (zs.eraseIdx k).length = k + (n - (k + 1)) := by rw [List.length_eraseIdx, if_pos (by rw [HZN.out]; exact hkn), HZN.out]; omega
        have hf : (zs.eraseIdx k).flatMap cellsZ = (zs.take k).flatMap cellsZ ++ [] := by rw [List.eraseIdx_eq_take_drop_succ, List.flatMap_append]; rw [HD.out]
        rw [hl, hf]; simpa using hown2)
      clear hown2 hg2 hat2 hb3
      go_wp2_with fail
      have HRN := Lib.hid (HI.out.renew HB2.out HW2.out (fun z hz => List.mem_of_mem_eraseIdx hz))
      have HER : Hid ((zs.eraseIdx k).map (fun z => z.1) = bk.es.eraseIdx k) := Lib.hid (by rw [List.eraseIdx_eq_take_drop_succ, List.eraseIdx_eq_take_drop_succ, List.map_append, List.map_take, List.map_drop, HES.out])
      obtain ⟨w3, hw3⟩ : ∃ w3, w2.setCell ⟨P, 0, none⟩ (.slice a2 (k + (n - (k + 1))) cap2) = w3 := ⟨_, rfl⟩
      rw [hw3] at HRN ⊢
      clear hw3 k0 f0
      have HFG := Lib.hid (rforget_any w3 B P ⟨bk.es.eraseIdx k, bk.last⟩ _ (by rw [← HER.out]; exact HRN.out.1) (by have := HN.out; have := (List.eraseIdx_sublist bk.es k).length_le; show (bk.es.eraseIdx k).length ≤ _; omega))
      refine HFG.out.mono ?_
      rintro e w4 ⟨rfl, hr4⟩
      have HR4 := Lib.hid hr4
      clear hr4
      go_wp2_with fail
      rw [← HQ.out]
      unfold RDropP
      rw [HR.out]
      exact ⟨by rfl, HRN.out.trans HR4.out⟩
    · have hck2 : ¬ (c - (k + 1) = 0) := by omega
      go_wp2_with (at_builtin; refine wpList_append_rows rfl _ _ 26 rfl w.heap.size 58 iT _ 6 80 Try.underlying26 siT szT s1T s2T rfl (by omega) (.slice a1 k cap1) k ((zs.take k).flatMap cellsZ) rfl HW1.out (some ⟨g, (k + 1) * 6, none⟩) (n - (k + 1)) (c - (k + 1)) w1.heap.size ((zs.drop (k + 1)).flatMap cellsZ) rfl (fun h => by cases h) HL2.out (by have h := HC2.out; rw [Nat.zero_add] at h; exact (h.below HB1.out (Nat.le_refl _)).mono HB1.out.size) HO2.out (by unfold maxLen; omega) (by omega) HB1.out.size ?_)
      intro a2 cap2 w2 hown2 hg2 hat2
      have HB2 : Hid (Below w.heap.size w w2) := Lib.hid (kept_more HB1.out HW1.out hg2)
      have hb3 := HI.out.blk.of_heap (HB2.out.block P hPl)
      have k0 := hb3.cell (i := 0) rfl
      have f0 := hb3.free 0
      have HW2 : Hid (w2.ownsRow w.heap.size 58 6 (.slice a2 (k + (n - (k + 1))) cap2) (zs.eraseIdx k).length ((zs.eraseIdx k).flatMap cellsZ)) := Lib.hid (by
        have hl : (zs.eraseIdx k).length = k + (n - (k + 1)) := by rw [List.length_eraseIdx, if_pos (by rw [HZN.out]; exact hkn), HZN.out]; omega
        have hf : (zs.eraseIdx k).flatMap cellsZ = (zs.take k).flatMap cellsZ ++ (zs.drop (k + 1)).flatMap cellsZ := by rw [List.eraseIdx_eq_take_drop_succ, List.flatMap_append]
        rw [hl, hf]; exact hown2)
      clear hown2 hg2 hat2 hb3
      go_wp2_with fail
      have HRN := Lib.hid (HI.out.renew HB2.out HW2.out (fun z hz => List.mem_of_mem_eraseIdx hz))
      have HER : Hid ((zs.eraseIdx k).map (fun z => z.1) = bk.es.eraseIdx k) := Lib.hid (by rw [List.eraseIdx_eq_take_drop_succ, List.eraseIdx_eq_take_drop_succ, List.map_append, List.map_take, List.map_drop, HES.out])
      obtain ⟨w3, hw3⟩ : ∃ w3, w2.setCell ⟨P, 0, none⟩ (.slice a2 (k + (n - (k + 1))) cap2) = w3 := ⟨_, rfl⟩
      rw [hw3] at HRN ⊢
      clear hw3 k0 f0
      have HFG := Lib.hid (rforget_any w3 B P ⟨bk.es.eraseIdx k, bk.last⟩ _ (by rw [← HER.out]; exact HRN.out.1) (by have := HN.out; have := (List.eraseIdx_sublist bk.es k).length_le; show (bk.es.eraseIdx k).length ≤ _; omega))
      refine HFG.out.mono ?_
      rintro e w4 ⟨rfl, hr4⟩
      have HR4 := Lib.hid hr4
      clear hr4
      go_wp2_with fail
      rw [← HQ.out]
      unfold RDropP
      rw [HR.out]
      exact ⟨by rfl, HRN.out.trans HR4.out⟩
end Go.Proofs.Ytaonfacbmolklaa
