/- The program's book: Drop. Conditions: sizes are small. -/
import Derived.Test.YtaonfacbmolklaaDel
namespace Go.Proofs.Ytaonfacbmolklaa
open Go.RowKit
set_option linter.unusedSimpArgs false
set_option linter.unusedVariables false

theorem drop1_any (w : World) (p q bx : Nat) {cp cq : List Value} {tp tq : TypeId} (hp : Block w p cp tp) (hq : Block w q cq tq) (hbx : w.cell? ⟨bx, 0, none⟩ = some (.pointer (some ⟨q, 0, none⟩))) :
    Calls Try.prog 39 #[.pointer (some ⟨p, 0, none⟩), .pointer (some ⟨bx, 0, none⟩)] w fun e' w' => e' = .returned (.bool (decide (p = q))) ∧ Below w.heap.size w w' := by
  by_cases h : p = q
  · subst h
    rw [decide_eq_true rfl]
    have hps := fun w' (a : Addr) => eql_ptr_same w' a
    clear hp hq
    go_enter Try.func39, Try.ntmps39
    go_wp2_with fail
    go_ret
    exact ⟨by rfl, Below.refl _ _⟩
  · rw [decide_eq_false h]
    have hpo : (binOp .eql 53 (.pointer (some ⟨p, 0, none⟩)) (.pointer (some ⟨q, 0, none⟩))).run Try.prog w = .ok (.bool false) w := eql_ptr_other _ h hp hq
    clear hp hq h
    go_enter Try.func39, Try.ntmps39
    go_wp2_with fail
    go_ret
    exact ⟨by rfl, Below.refl _ _⟩
theorem erase_map {α β : Type} (f : α → β) : ∀ (l : List α) (k : Nat), (l.eraseIdx k).map f = (l.map f).eraseIdx k
  | [], k => by simp
  | a :: l, 0 => by simp
  | a :: l, k + 1 => by simp [erase_map f l k]
/-- The book without one of its entries. -/
theorem IsBook.erase {w w1 : World} {B P g c k n : Nat} {bk : Bk} {tag : Nat → Nat × Nat} {rs : List R} (h : IsBook w B P bk tag (.slice (some ⟨g, 0, none⟩) n c) rs) (hk : k < n) (hg : w.grownBy w1 (some g))
    (hown : w1.ownsRow B 53 1 (.slice (some ⟨g, 0, none⟩) (n - 1) c) (n - 1) ((rs.map R.ptr).eraseIdx k)) (hn : rs.length = n) :
    IsBook (w1.setCell ⟨P, 0, none⟩ (.slice (some ⟨g, 0, none⟩) (n - 1) c)) B P ⟨bk.es.eraseIdx k, bk.last⟩ tag (.slice (some ⟨g, 0, none⟩) (n - 1) c) (rs.eraseIdx k) := by
  have hgt := h.tl g rfl
  have hgP : g ≠ P := fun e => by rw [e, h.tP] at hgt; injection hgt with _ h2; cases h2
  have hPl := (h.ownlt (.inl rfl)).2
  have hsame : ∀ q, q < w.heap.size → q ≠ g → q ≠ P → (w1.setCell ⟨P, 0, none⟩ (.slice (some ⟨g, 0, none⟩) (n - 1) c)).heap[q]? = w.heap[q]? := fun q h1 h2 h3 => by
    rw [Below.heap_setCell _ _ _ _ h3, hg.block q h1 (fun e => h2 (by injection e))]
  have hget : ∀ (i : Nat), ∃ i0, (rs.eraseIdx k)[i]? = rs[i0]? ∧ (bk.es.eraseIdx k)[i]? = bk.es[i0]? := fun i => by
    rw [List.getElem?_eraseIdx, List.getElem?_eraseIdx]
    by_cases h1 : i < k
    · exact ⟨i, by rw [if_pos h1], by rw [if_pos h1]⟩
    · exact ⟨i + 1, by rw [if_neg h1], by rw [if_neg h1]⟩
  refine ⟨?_, h.base, h.tP, ?_, fun q e => by obtain rfl : g = q := by injection e
                                              exact hgt, ?_, ?_, ?_, ?_⟩
  · exact (h.blk.of_heap (hg.block P hPl (fun e => hgP (by injection e with e; exact e.symm)))).set 0 _
  · rw [List.length_eraseIdx, if_pos (by omega), hn, erase_map]
    exact own_setCell hown (fun e => hgP (by injection e)) _
  · rw [List.length_eraseIdx, List.length_eraseIdx, h.len]
  · intro i r e hr he
    obtain ⟨i0, h1, h2⟩ := hget i
    rw [h1] at hr
    rw [h2] at he
    have hE := h.ent i0 r e hr he
    refine hE.same fun q hq => ?_
    have hl := (h.ownlt (.inr (.inr ⟨r, List.mem_of_getElem? hr, hq⟩))).2
    have ht : (tag q).1 = r.p := by
      rcases hq with rfl | hq | hq
      · rw [hE.tp]
      · rw [hE.t1 q hq]
      · rw [hE.t2 q hq]
    have hrP : r.p ≠ P := fun e => h.np (by rw [← e]; exact List.mem_map_of_mem (List.mem_of_getElem? hr))
    refine hsame q hl (fun e => ?_) (fun e => ?_)
    · rw [e, hgt] at ht; exact hrP ht.symm
    · rw [e, h.tP] at ht; exact hrP ht.symm
  · exact (((List.eraseIdx_sublist _ _).map R.p)).nodup h.nd
  · intro hm
    exact h.np ((((List.eraseIdx_sublist _ _).map R.p)).subset hm)
def DropP (w : World) (B P : Nat) (bk : Bk) (S : Nat → Prop) (who : Int) (e : Ending) (w' : World) : Prop := e = .returned (.int .i64 (dropB bk who).1) ∧ Acted w B P (dropB bk who).2 S w'
set_option maxRecDepth 100000 in
set_option maxHeartbeats 4000000 in
theorem drop_any (w : World) (B P : Nat) (bk : Bk) (S : Nat → Prop) (who : Int) (h : BookAt w B P bk S) (hn : bk.es.length ≤ 1000000) :
    Calls Try.prog 16 #[.pointer (some ⟨P, 0, none⟩), .int .i64 who] w (DropP w B P bk S who) := by
  have HBA := Lib.hid h
  obtain ⟨tag, lv, rs, hI, hS⟩ := h
  have HF := Lib.hid (fun u (hb : Below w.heap.size w u) => find_any u B P bk tag lv rs who (hI.below hb) (by omega))
  have HI := Lib.hid hI
  have HS := Lib.hid hS
  obtain ⟨Q, hQ⟩ : ∃ Q, DropP w B P bk S who = Q := ⟨_, rfl⟩
  have HQ := Lib.hid hQ
  rw [hQ]
  clear hI hS hQ
  go_enter Try.func16, Try.ntmps16
  go_wp2_with fail
  refine (HF.out w (Below.refl _ _)).mono ?_
  rintro e w1 ⟨rfl, ⟨h1, rfl⟩ | ⟨k, r, h1, h2, rfl⟩⟩
  · have HR : Hid (dropB bk who = (23, bk)) := Lib.hid (by unfold dropB; rw [h1])
    clear h1
    go_wp2_with fail
    rw [← HQ.out]
    unfold DropP
    rw [HR.out]
    exact ⟨by rfl, HBA.out.acted ((Below.refl _ _).alloc (Nat.le_refl _) _)⟩
  · have HR : Hid (dropB bk who = (0, ⟨forgetB (bk.es.eraseIdx k), bk.last⟩)) := Lib.hid (by unfold dropB; rw [h1])
    have HK := Lib.hid h1
    have HRK := Lib.hid h2
    have hlen := HI.out.len
    obtain ⟨g, c, rfl, hlb⟩ := HI.out.ptr h2
    have hkn : k < rs.length := (List.getElem?_eq_some_iff.1 h2).1
    obtain ⟨W1, hW1⟩ : ∃ W1, w.alloc (.cells #[.pointer (some ⟨r.p, 0, none⟩)] 53) = W1 := ⟨_, rfl⟩
    have hb1 : Below w.heap.size w W1 := by rw [← hW1]; exact (Below.refl _ _).alloc (Nat.le_refl _) _
    have hX1 : Block W1 w.heap.size [.pointer (some ⟨r.p, 0, none⟩)] 53 := by rw [← hW1]; exact Block.new _ _ _
    have hI1 := HI.out.below hb1
    have c0 := hI1.blk.cell (i := 0) rfl
    have hgl := hI1.row.lt g rfl
    have hwl : w.heap.size < W1.heap.size := hX1.lt
    have hgX : g ≠ w.heap.size := by have := (HI.out.row.lt g rfl).2; omega
    obtain ⟨e, he⟩ : ∃ e, bk.es[k]? = some e := get_some (by omega)
    have hDel := delete_any W1 B g c k w.heap.size (rs.map R.ptr) (by rw [List.length_map]; exact hI1.row) (by rw [List.length_map]; exact hkn) (by rw [List.length_map]; omega) (fun j v hv => by
        rw [List.getElem?_map] at hv
        cases hr : rs[j]? with
        | none => rw [hr] at hv; cases hv
        | some s => rw [hr] at hv; cases hv; exact ⟨s.p, rfl⟩) (fun w' j v hg hv => by
        rw [List.getElem?_map] at hv
        cases hr : rs[j]? with
        | none => rw [hr] at hv; cases hv
        | some s =>
          rw [hr] at hv
          cases hv
          have hoth : ∀ (i : Nat) r, rs[i]? = some r → r.p < W1.heap.size ∧ r.p ≠ g := fun i r hr => by
            have h3 := hI1.ownlt (.inr (.inr ⟨r, List.mem_of_getElem? hr, .inl rfl⟩))
            refine ⟨h3.2, fun e2 => ?_⟩
            obtain ⟨e3, he3⟩ : ∃ e3, bk.es[i]? = some e3 := get_some (by have := (List.getElem?_eq_some_iff.1 hr).1; omega)
            have h4 := (hI1.ent i r e3 hr he3).tp
            rw [e2] at h4
            rw [hI1.tl g rfl] at h4
            injection h4 with h5 _
            exact hI1.np (by rw [h5, ← e2]; exact List.mem_map_of_mem (List.mem_of_getElem? hr))
          obtain ⟨e3, he3⟩ : ∃ e3, bk.es[j]? = some e3 := get_some (by have := (List.getElem?_eq_some_iff.1 hr).1; omega)
          have hsb := (hI1.ent j s e3 hr he3).blk
          have hrb := (hI1.ent k r e h2 he).blk
          have hd := drop1_any w' s.p r.p w.heap.size (hsb.of_heap (hg.block _ (hoth j s hr).1 (fun e => (hoth j s hr).2 (by injection e)))) (hrb.of_heap (hg.block _ (hoth k r h2).1 (fun e => (hoth k r h2).2 (by injection e)))) ((hX1.of_heap (hg.block _ hwl (fun e => hgX (by injection e with e; exact e.symm)))).cell rfl)
          rwa [show decide (s.p = r.p) = decide (j = k) from by rw [Bool.eq_iff_iff]; simpa using hI1.inj hr h2] at hd)
    rw [List.length_map] at hDel
    have hgP : g ≠ P := fun e => by have h3 := hI1.tl g rfl; rw [e, hI1.tP] at h3; injection h3 with _ h4; cases h4
    have HDEL := Lib.hid hDel
    have HI1 := Lib.hid hI1
    have HB1 := Lib.hid hb1
    have HW1 := Lib.hid hW1
    have HLEN := Lib.hid hlen
    have HGP := Lib.hid hgP
    obtain ⟨n, hnn⟩ : ∃ n, rs.length = n := ⟨_, rfl⟩
    have HNN := Lib.hid hnn
    rw [hnn] at c0 HDEL hkn
    have HKN := Lib.hid hkn
    clear h1 h2 hlen hlb hb1 hX1 hI1 hgl hwl hgX he hDel hgP hnn hkn
    rw [← hW1] at c0
    clear hW1
    go_wp2_with fail
    rw [HW1.out]
    refine HDEL.out.mono ?_
    rintro e w2 ⟨rfl, hown, hg⟩
    have hP2 := HI1.out.blk.of_heap (hg.block P HI1.out.blk.lt (fun e => HGP.out (by injection e with e; exact e.symm)))
    have x0 := hP2.cell (i := 0) rfl
    have f0 := hP2.free 0
    have HO := Lib.hid hown
    have HG := Lib.hid hg
    clear hP2 hown hg c0
    go_wp2_with fail
    have hER := IsBook.erase (k := k) HI1.out (by have := HNN.out; have := HKN.out; omega) HG.out (by rw [HNN.out]; exact HO.out) rfl
    have hBA3 : BookAt (w2.setCell ⟨P, 0, none⟩ (.slice (some ⟨g, 0, none⟩) (n - 1) c)) B P ⟨bk.es.eraseIdx k, bk.last⟩ S := ⟨tag, _, _, by rw [HNN.out] at hER; exact hER, fun q hq => by
      rcases hq with rfl | hq | ⟨s, hs, hq⟩
      · exact HS.out _ (.inl rfl)
      · exact HS.out _ (.inr (.inl hq))
      · exact HS.out _ (.inr (.inr ⟨s, (List.eraseIdx_sublist _ _).subset hs, hq⟩))⟩
    have hK3 : KeptS S w (w2.setCell ⟨P, 0, none⟩ (.slice (some ⟨g, 0, none⟩) (n - 1) c)) := ((KeptS.of_below HB1.out).grown HG.out (fun q e => .inl (HS.out _ (.inr (.inl e))))).setCell (.inl (HS.out _ (.inl rfl))) _
    have HFG := Lib.hid (forget_any _ B P _ S hBA3 (by
      show (bk.es.eraseIdx k).length ≤ _
      have := (List.eraseIdx_sublist bk.es k).length_le
      omega))
    have HK3 := Lib.hid hK3
    clear hER hBA3 hK3
    refine HFG.out.mono ?_
    rintro e w4 ⟨rfl, hA⟩
    have HA := Lib.hid hA
    clear hA
    go_wp2_with fail
    rw [← HQ.out]
    unfold DropP
    rw [HR.out]
    refine ⟨by rfl, HA.out.1.mono fun q hq => ?_, HK3.out.trans HA.out.2 fun q hq => .inl hq⟩
    rcases hq with hq | hq
    · exact .inl hq
    · exact .inr ⟨by have := HK3.out.size; omega, hq.2⟩
end Go.Proofs.Ytaonfacbmolklaa
