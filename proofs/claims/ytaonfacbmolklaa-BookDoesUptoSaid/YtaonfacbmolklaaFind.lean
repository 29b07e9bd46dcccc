/- The program's book: find, beside, ahead, sides, Flags, Size, Last. Conditions: sizes are small. -/
import Derived.Test.YtaonfacbmolklaaBk
import Derived.LaidEqlPtr
namespace Go.Proofs.Ytaonfacbmolklaa
open Go.RowKit
set_option linter.unusedSimpArgs false
set_option linter.unusedVariables false

theorem IsBook.at {w : World} {B P : Nat} {bk : Bk} {tag : Nat → Nat × Nat} {lv : Value} {rs : List R} (h : IsBook w B P bk tag lv rs) {j : Nat} {e : E} (he : bk.es[j]? = some e) :
    ∃ r, rs[j]? = some r ∧ IsE w B tag r e := by
  obtain ⟨r, hr⟩ : ∃ r, rs[j]? = some r := get_some (by have := (List.getElem?_eq_some_iff.1 he).1; have := h.len; omega)
  exact ⟨r, hr, h.ent j r e hr he⟩
theorem IsBook.ptr {w : World} {B P : Nat} {bk : Bk} {tag : Nat → Nat × Nat} {lv : Value} {rs : List R} (h : IsBook w B P bk tag lv rs) {j : Nat} {r : R} (hr : rs[j]? = some r) :
    ∃ b c, lv = .slice (some ⟨b, 0, none⟩) rs.length c ∧ w.cell? ⟨b, j, none⟩ = some (.pointer (some ⟨r.p, 0, none⟩)) := by
  have hh := h.row
  rcases hh.2 with ⟨h1, h2⟩ | ⟨g, cap, cur, h1, h2⟩
  · have := (List.getElem?_eq_some_iff.1 hr).1; omega
  · refine ⟨g, cap, h1, ?_⟩
    have h3 := World.ownsRow.cells hh (g := g) (by rw [h1]; rfl) j r.ptr (by rw [List.getElem?_map, hr]; rfl)
    simpa [addr_add, R.ptr] using h3
theorem IsBook.form {w : World} {B P : Nat} {bk : Bk} {tag : Nat → Nat × Nat} {lv : Value} {rs : List R} (h : IsBook w B P bk tag lv rs) : ∃ a c, lv = .slice a bk.es.length c := by
  obtain ⟨a, c, h1⟩ := own_form h.row
  exact ⟨a, c, by rw [h1, h.len]⟩
def FindP (es : List E) (rs : List R) (who : Int) (w : World) (e : Ending) (w' : World) : Prop :=
  w = w' ∧ ((findB es who = none ∧ e = .returned (.pointer none)) ∨ ∃ k r, findB es who = some k ∧ rs[k]? = some r ∧ e = .returned (.pointer (some ⟨r.p, 0, none⟩)))
set_option maxRecDepth 100000 in
theorem find_any (w : World) (B P : Nat) (bk : Bk) (tag : Nat → Nat × Nat) (lv : Value) (rs : List R) (who : Int) (h : IsBook w B P bk tag lv rs) (hn : bk.es.length ≤ 1099511627776) :
    Calls Try.prog 27 #[.pointer (some ⟨P, 0, none⟩), .int .i64 who] w (FindP bk.es rs who w) := by
  obtain ⟨a, c, rfl⟩ := h.form
  have HB := Lib.hid h
  have c0 := h.blk.cell (i := 0) rfl
  obtain ⟨n, hl⟩ : ∃ n, bk.es.length = n := ⟨_, rfl⟩
  rw [hl] at hn c0
  have HLN := Lib.hid hl
  obtain ⟨Q, hQ⟩ : ∃ Q, FindP bk.es rs who w = Q := ⟨_, rfl⟩
  have HQ := Lib.hid hQ
  rw [hQ]
  clear h hl hQ
  go_enter Try.func27, Try.ntmps27
  go_wp2_with fail
  go_loop [12] (fun iv => ∃ (j : Nat), iv = .int .i64 j ∧ j ≤ n ∧ Hid (∀ (i : Nat) u, i < j → bk.es[i]? = some u → decide (u.who = who ∧ u.end_ = 0) = false)) (fun iv => n - (intOf iv).toNat)
  case atStart => exact ⟨0, rfl, Nat.zero_le _, Lib.hid (fun _ _ h => absurd h (Nat.not_lt_zero _))⟩
  case round =>
    obtain ⟨j, rfl, hj, HN⟩ := hrel
    by_cases hlt : j < n
    · have hlt' : (j : Int) < n := by omega
      have hj0 : (0 : Int) ≤ (j : Int) := by omega
      obtain ⟨e, he⟩ : ∃ e, bk.es[j]? = some e := get_some (by have := HLN.out; omega)
      obtain ⟨r, hr, hE⟩ := HB.out.at he
      obtain ⟨lb, lc, hlv, hcp⟩ := HB.out.ptr hr
      injection hlv with e1 e2 e3
      subst e1
      have x0 := hE.blk.cell (i := 0) rfl
      have x2 := hE.blk.cell (i := 2) rfl
      have HE := Lib.hid he
      have HR := Lib.hid hr
      obtain ⟨ewho, eat, eend, er, et, eo⟩ := e
      clear hE he hr e2 e3
      by_cases h1 : ewho = who
      · subst h1
        by_cases h2 : eend = 0
        · subst h2
          have HF : Hid (findB bk.es ewho = some j) := Lib.hid (by
            unfold findB
            rw [List.findIdx?_eq_some_iff_getElem]
            have hjl := (List.getElem?_eq_some_iff.1 HE.out)
            refine ⟨hjl.1, by rw [hjl.2]; simp, fun i hi => ?_⟩
            have := HN.out i _ hi (List.getElem?_eq_getElem (by have := hjl.1; omega))
            rw [this]; decide)
          go_wp2_with fail
          rw [← HQ.out]
          exact ⟨rfl, .inr ⟨j, r, HF.out, HR.out, rfl⟩⟩
        · have h2' : (eend == 0) = false := by simpa using h2
          have H2 := Lib.hid h2
          clear h2
          go_wp2_with fail
          go_round
          case rel => exact ⟨j + 1, by go_num, by omega, Lib.hid (fun i u hi hu => by
            by_cases hij : i = j
            · subst hij; rw [HE.out] at hu; cases hu; exact decide_eq_false (fun h => H2.out h.2)
            · exact HN.out i u (by omega) hu)⟩
          case measure => simp [intOf]; omega
      · have h1' : (ewho == who) = false := by simpa using h1
        have H1 := Lib.hid h1
        clear h1
        go_wp2_with fail
        go_round
        case rel => exact ⟨j + 1, by go_num, by omega, Lib.hid (fun i u hi hu => by
            by_cases hij : i = j
            · subst hij; rw [HE.out] at hu; cases hu; exact decide_eq_false (fun h => H1.out h.1)
            · exact HN.out i u (by omega) hu)⟩
        case measure => simp [intOf]; omega
    · have hlt' : ¬ (j : Int) < n := by omega
      have HF : Hid (findB bk.es who = none) := Lib.hid (by
        unfold findB
        rw [List.findIdx?_eq_none_iff]
        intro x hx
        obtain ⟨i, hi⟩ := List.mem_iff_getElem?.1 hx
        exact HN.out i x (by have := (List.getElem?_eq_some_iff.1 hi).1; have := HLN.out; omega) hi)
      go_wp2_with fail
      rw [← HQ.out]
      exact ⟨rfl, .inl ⟨HF.out, rfl⟩⟩

/-- Two entries, read in all worlds that are as w. -/
theorem IsBook.cellE {w w' : World} {B P : Nat} {bk : Bk} {tag : Nat → Nat × Nat} {lv : Value} {rs : List R} (h : IsBook w B P bk tag lv rs) (hb : Below w.heap.size w w') {j : Nat} {e : E} {r : R} (hr : rs[j]? = some r) (he : bk.es[j]? = some e) {q : Nat} {v : Value} (hv : (cellsE e r.v1 r.v2)[q]? = some v) : w'.cell? ⟨r.p, q, none⟩ = some v := by
  have hE := h.ent j r e hr he
  exact (hE.blk.below hb hE.blk.lt).cell hv
theorem IsBook.inj {w : World} {B P : Nat} {bk : Bk} {tag : Nat → Nat × Nat} {lv : Value} {rs : List R} (h : IsBook w B P bk tag lv rs) {i k : Nat} {r s : R} (hr : rs[i]? = some r) (hs : rs[k]? = some s) : r.p = s.p ↔ i = k := by
  constructor
  · intro hp
    have h1 : (rs.map R.p)[i]? = some r.p := by rw [List.getElem?_map, hr]; rfl
    have h2 : (rs.map R.p)[k]? = some r.p := by rw [List.getElem?_map, hs, hp]; rfl
    obtain ⟨a1, a2⟩ := List.getElem?_eq_some_iff.1 h1
    obtain ⟨b1, b2⟩ := List.getElem?_eq_some_iff.1 h2
    have hp := List.pairwise_iff_getElem.1 h.nd
    rcases Nat.lt_trichotomy i k with hik | hik | hik
    · exact absurd (a2.trans b2.symm) (hp i k a1 b1 hik)
    · exact hik
    · exact absurd (b2.trans a2.symm) (hp k i b1 a1 hik)
  · rintro rfl
    rw [hr] at hs
    cases hs
    rfl
theorem Try.infoEntry : (Try.prog.info? 55).map (fun i => decide (i.size ≠ 0)) = some true := by kernel_rfl
theorem info_some {P : Program} {t : TypeId} (h : (P.info? t).map (fun i => decide (i.size ≠ 0)) = some true) : ∃ j, P.info? t = some j ∧ j.size ≠ 0 := by
  cases hq : P.info? t with
  | none => rw [hq] at h; cases h
  | some j => rw [hq] at h; exact ⟨j, rfl, by simpa using h⟩
theorem neq_ptr_same (w : World) (a : Addr) : (binOp .neq 53 (.pointer (some a)) (.pointer (some a))).run Try.prog w = .ok (.bool false) w := by
  obtain ⟨j, hj, _⟩ := info_some Try.infoEntry
  have h : ∀ d : Nat, (Op.equalIn (d + 1) 53 (.pointer (some a)) (.pointer (some a))).run Try.prog w = .ok true w := fun d => by
    simp [Op.equalIn, run_underlying Try.underlying53, sizeOf, typeInfo, hj, run_sameAddr_same]
  simp only [binOp]
  simp [Op.equal, Op.maxDepth, h 9999]
theorem neq_ptr_other (w : World) {a b : Nat} {ca cb : List Value} {ta tb : TypeId} (hne : ¬ a = b) (ha : Block w a ca ta) (hb : Block w b cb tb) : (binOp .neq 53 (.pointer (some ⟨a, 0, none⟩)) (.pointer (some ⟨b, 0, none⟩))).run Try.prog w = .ok (.bool true) w := by
  obtain ⟨j, hj, hsz⟩ := info_some Try.infoEntry
  have h : ∀ d : Nat, (Op.equalIn (d + 1) 53 (.pointer (some ⟨a, 0, none⟩)) (.pointer (some ⟨b, 0, none⟩))).run Try.prog w = .ok false w := fun d => by
    simp [Op.equalIn, run_underlying Try.underlying53, sizeOf, typeInfo, hj, hsz, run_sameAddr_other w (a := ⟨a, 0, none⟩) (b := ⟨b, 0, none⟩) (fun e => hne (by injection e)) ha hb]
  simp only [binOp]
  simp [Op.equal, Op.maxDepth, h 9999]
theorem eql_ptr_same (w : World) (a : Addr) : (binOp .eql 53 (.pointer (some a)) (.pointer (some a))).run Try.prog w = .ok (.bool true) w := by
  obtain ⟨j, hj, _⟩ := info_some Try.infoEntry
  exact run_eql_ptr_same w a Try.underlying53 hj
theorem eql_ptr_other (w : World) {a b : Nat} {ca cb : List Value} {ta tb : TypeId} (hne : ¬ a = b) (ha : Block w a ca ta) (hb : Block w b cb tb) : (binOp .eql 53 (.pointer (some ⟨a, 0, none⟩)) (.pointer (some ⟨b, 0, none⟩))).run Try.prog w = .ok (.bool false) w := by
  obtain ⟨j, hj, hsz⟩ := info_some Try.infoEntry
  exact run_eql_ptr_other w Try.underlying53 hj hsz (fun e => hne (by injection e)) ha hb
set_option maxRecDepth 100000 in
theorem beside_any (w : World) (B P : Nat) (bk : Bk) (tag : Nat → Nat × Nat) (lv : Value) (rs : List R) (i k : Nat) (r s : R) (e t : E) (h : IsBook w B P bk tag lv rs) (hr : rs[i]? = some r) (hs : rs[k]? = some s) (he : bk.es[i]? = some e) (ht : bk.es[k]? = some t) :
    Calls Try.prog 32 #[.pointer (some ⟨r.p, 0, none⟩), .pointer (some ⟨s.p, 0, none⟩)] w fun e w' => e = .returned (.bool (besideB bk.es i k)) ∧ Below w.heap.size w w' := by
  have hB : besideB bk.es i k = decide (i ≠ k ∧ (e.end_ = 0 ∨ t.at_ < e.end_)) := by unfold besideB; rw [he, ht]
  have hinj := h.inj hr hs
  have hrE := h.ent i r e hr he
  have hsE := h.ent k s t hs ht
  have e2 := hrE.blk.cell (i := 2) rfl
  have t1 := hsE.blk.cell (i := 1) rfl
  rw [hB]
  have hps := fun w' (a : Addr) => neq_ptr_same w' a
  have hpo : ∀ n, ¬ r.p = s.p → (binOp .neq 53 (.pointer (some ⟨r.p, 0, none⟩)) (.pointer (some ⟨s.p, 0, none⟩))).run Try.prog (w.drewN n) = .ok (.bool true) (w.drewN n) := fun n hne => neq_ptr_other _ hne (show Block (w.drewN n) r.p _ _ from hrE.blk) (show Block (w.drewN n) s.p _ _ from hsE.blk)
  clear h he ht hB hrE hsE
  generalize e.end_ = ee at *
  generalize t.at_ = ta at *
  generalize r.p = rp at *
  generalize s.p = sp at *
  clear hr hs
  by_cases hik : i = k
  · have hp : rp = sp := hinj.2 hik
    rw [decide_eq_false (fun h => h.1 hik)]
    clear hinj hik hpo
    subst hp
    go_enter Try.func32, Try.ntmps32
    go_wp2_with fail
    go_quiet (fail)
    go_wp2_with fail
    go_ret
    exact ⟨by rfl, below_drewN (Below.refl _ _) _⟩
  · have hp : ¬ rp = sp := fun h => hik (hinj.1 h)
    clear hinj
    by_cases h0 : ee = 0
    · rw [decide_eq_true ⟨hik, .inl h0⟩]
      subst h0
      clear hik
      go_enter Try.func32, Try.ntmps32
      go_wp2_with fail
      go_quiet (fail)
      go_wp2_with fail
      go_ret
      exact ⟨by rfl, below_drewN (Below.refl _ _) _⟩
    · have h0' : (ee == 0) = false := by simpa using h0
      by_cases h1 : ta < ee
      · rw [decide_eq_true ⟨hik, .inr h1⟩]
        clear hik h0
        go_enter Try.func32, Try.ntmps32
        go_wp2_with fail
        go_quiet (fail)
        go_wp2_with fail
        go_ret
        exact ⟨by rfl, below_drewN (Below.refl _ _) _⟩
      · rw [decide_eq_false (fun h => by rcases h.2 with h | h; exact h0 h; exact h1 h)]
        have H1 := Lib.hid h1
        clear hik h0
        go_enter Try.func32, Try.ntmps32
        go_wp2_with fail
        go_quiet (fail)
        go_wp2_with fail
        go_ret
        exact ⟨by show Ending.returned (.bool (decide (ta < ee))) = _; rw [decide_eq_false (by have := H1.out; omega)], below_drewN (Below.refl _ _) _⟩
theorem own_row_of {w : World} {B : Nat} {v : Value} {n : Nat} {ks : List ByteArray} (h : w.ownsRow B 9 1 v n (ks.map Value.string)) : ∃ a c, v = .slice a n c ∧ StrRow w.heap.size w a ks ∧ n = ks.length := by
  obtain ⟨a, c, rfl⟩ := own_form h
  exact ⟨a, c, rfl, own_cells_of h, by have := h.1; simpa using this.symm⟩
set_option maxRecDepth 100000 in
theorem ahead_any (w : World) (B P : Nat) (bk : Bk) (tag : Nat → Nat × Nat) (lv : Value) (rs : List R) (i k : Nat) (r s : R) (e t : E) (h : IsBook w B P bk tag lv rs) (hr : rs[i]? = some r) (hs : rs[k]? = some s) (he : bk.es[i]? = some e) (ht : bk.es[k]? = some t) (hl : e.reads.length ≤ 1099511627776) (hl2 : t.touches.length ≤ 1099511627776) :
    Calls Try.prog 33 #[.pointer (some ⟨r.p, 0, none⟩), .pointer (some ⟨s.p, 0, none⟩)] w fun e w' => e = .returned (.bool (aheadB bk.es i k)) ∧ Below w.heap.size w w' := by
  have hB : aheadB bk.es i k = meetB e.reads t.touches := by unfold aheadB; rw [he, ht]
  have hrE := h.ent i r e hr he
  have hsE := h.ent k s t hs ht
  obtain ⟨ra, rc, hv1, hrow1, _⟩ := own_row_of hrE.o1
  obtain ⟨ta, tc, hv2, hrow2, _⟩ := own_row_of hsE.o2
  have hb1 : r.p < w.heap.size := hrE.blk.lt
  have hb2 : s.p < w.heap.size := hsE.blk.lt
  have e3 : ∀ u : Ext w.heap.size w, u.w.cell? ⟨r.p, 3, none⟩ = some (.slice ra e.reads.length rc) := fun u => u.cell hb1 (by rw [← hv1]; exact hrE.blk.cell rfl)
  have t4 : ∀ u : Ext w.heap.size w, u.w.cell? ⟨s.p, 4, none⟩ = some (.slice ta t.touches.length tc) := fun u => u.cell hb2 (by rw [← hv2]; exact hsE.blk.cell rfl)
  have HM := Lib.hid (fun u : Ext w.heap.size w => ext_call u (Nat.le_refl _) (meet_any e.reads t.touches ra ta rc tc w.heap.size u.w (hrow1.below u.below (Nat.le_refl _)) (hrow2.below u.below (Nat.le_refl _)) u.below.size hl hl2))
  rw [hB]
  obtain ⟨u0, hu0⟩ := Ext.start w.heap.size w
  have HU := Lib.hid hu0
  clear h he ht hB hrE hsE hb1 hb2 hu0 hrow1 hrow2 hv1 hv2
  generalize meetB e.reads t.touches = X at *
  generalize e.reads.length = en at *
  generalize t.touches.length = tn at *
  generalize r.p = rp at *
  generalize s.p = sp at *
  clear hr hs
  go_enter Try.func33, Try.ntmps33
  go_wp2_with fail
  refine wp_region_ext w.heap.size (by kernel_rfl) (by kernel_rfl) ?_
  repeat (go_big_quiet_step ((with_reducible exact HM.out _)))
  refine wpQuiet_nil ?_
  rintro w2 ⟨u, rfl⟩
  go_wp2_with fail
  go_ret
  exact ⟨by rfl, u.below⟩
/-- The plain form of a loop over all entries. -/
def sideIn (es : List E) (k j : Nat) : Bool := (List.range j).any fun i => besideB es i k && aheadB es i k
def sideOut (es : List E) (k j : Nat) : Bool := (List.range j).any fun i => besideB es i k && aheadB es k i
theorem sideIn_succ (es : List E) (k j : Nat) : sideIn es k (j + 1) = (sideIn es k j || (besideB es j k && aheadB es j k)) := by
  unfold sideIn; rw [List.range_succ, List.any_append]; simp
theorem sideOut_succ (es : List E) (k j : Nat) : sideOut es k (j + 1) = (sideOut es k j || (besideB es j k && aheadB es k j)) := by
  unfold sideOut; rw [List.range_succ, List.any_append]; simp
/-- All sizes of a book are small. -/
def SmallB (bk : Bk) : Prop := bk.es.length ≤ 1099511627776 ∧ ∀ e ∈ bk.es, e.reads.length ≤ 1099511627776 ∧ e.touches.length ≤ 1099511627776
set_option maxRecDepth 100000 in
set_option maxHeartbeats 4000000 in
theorem sides_any (w : World) (B P : Nat) (bk : Bk) (tag : Nat → Nat × Nat) (lv : Value) (rs : List R) (k : Nat) (s : R) (h : IsBook w B P bk tag lv rs) (hs : rs[k]? = some s) (hsm : SmallB bk) :
    Calls Try.prog 31 #[.pointer (some ⟨P, 0, none⟩), .pointer (some ⟨s.p, 0, none⟩)] w fun e w' => e = .returned (.tuple #[.bool (inB bk.es k), .bool (outB bk.es k)]) ∧ Below w.heap.size w w' := by
  obtain ⟨a, c, rfl⟩ := h.form
  obtain ⟨t, ht⟩ : ∃ t, bk.es[k]? = some t := get_some (by have := (List.getElem?_eq_some_iff.1 hs).1; have := h.len; omega)
  have htm := hsm.2 t (List.mem_of_getElem? ht)
  have HB := Lib.hid h
  have hPlt := h.blk.lt
  have c0 : ∀ u : Ext w.heap.size w, u.w.cell? ⟨P, 0, none⟩ = some (.slice a bk.es.length c) := fun u => u.cell hPlt (h.blk.cell rfl)
  have HPT : Hid (∀ (j : Nat) (r : R), rs[j]? = some r → ∃ lb, a = some ⟨lb, 0, none⟩ ∧ ∀ u : Ext w.heap.size w, u.w.cell? ⟨lb, j, none⟩ = some (.pointer (some ⟨r.p, 0, none⟩))) := Lib.hid (fun j r hr => by
    obtain ⟨b, c', h1, h2⟩ := h.ptr hr
    injection h1 with h1
    have hrl : b < w.heap.size := (h.row.lt b (by rw [h1]; rfl)).2
    exact ⟨b, h1, fun u => u.cell hrl h2⟩)
  have HBE : Hid (∀ (u : Ext w.heap.size w) (j : Nat) (r : R) (e : E), rs[j]? = some r → bk.es[j]? = some e → Calls Try.prog 32 #[.pointer (some ⟨r.p, 0, none⟩), .pointer (some ⟨s.p, 0, none⟩)] u.w fun e w' => e = .returned (.bool (besideB bk.es j k)) ∧ ∃ u' : Ext w.heap.size w, w' = u'.w) := Lib.hid (fun u j r e hr he => ext_call u (Nat.le_refl _) (beside_any u.w B P bk tag _ rs j k r s e t (h.below u.below) hr hs he ht))
  have HAH : Hid (∀ (u : Ext w.heap.size w) (j : Nat) (r : R) (e : E), rs[j]? = some r → bk.es[j]? = some e → Calls Try.prog 33 #[.pointer (some ⟨r.p, 0, none⟩), .pointer (some ⟨s.p, 0, none⟩)] u.w fun e w' => e = .returned (.bool (aheadB bk.es j k)) ∧ ∃ u' : Ext w.heap.size w, w' = u'.w) := Lib.hid (fun u j r e hr he => ext_call u (Nat.le_refl _) (ahead_any u.w B P bk tag _ rs j k r s e t (h.below u.below) hr hs he ht (hsm.2 e (List.mem_of_getElem? he)).1 htm.2))
  have HAK : Hid (∀ (u : Ext w.heap.size w) (j : Nat) (r : R) (e : E), rs[j]? = some r → bk.es[j]? = some e → Calls Try.prog 33 #[.pointer (some ⟨s.p, 0, none⟩), .pointer (some ⟨r.p, 0, none⟩)] u.w fun e w' => e = .returned (.bool (aheadB bk.es k j)) ∧ ∃ u' : Ext w.heap.size w, w' = u'.w) := Lib.hid (fun u j r e hr he => ext_call u (Nat.le_refl _) (ahead_any u.w B P bk tag _ rs k j s r t e (h.below u.below) hs hr ht he htm.1 (hsm.2 e (List.mem_of_getElem? he)).2))
  have HIN : Hid (inB bk.es k = sideIn bk.es k bk.es.length ∧ outB bk.es k = sideOut bk.es k bk.es.length) := Lib.hid ⟨rfl, rfl⟩
  have HLN := Lib.hid h.len
  have hn := hsm.1
  obtain ⟨n, hl⟩ : ∃ n, bk.es.length = n := ⟨_, rfl⟩
  rw [hl] at c0 HIN HLN hn
  have HL := Lib.hid hl
  rw [HIN.out.1, HIN.out.2]
  obtain ⟨u0, hu0⟩ := Ext.start w.heap.size w
  have HU := Lib.hid hu0
  have HSN := Lib.hid (fun j => sideIn_succ bk.es k j)
  have HSO := Lib.hid (fun j => sideOut_succ bk.es k j)
  generalize s.p = sp at *
  obtain ⟨FI, hFI⟩ : ∃ F, sideIn bk.es k = F := ⟨_, rfl⟩
  obtain ⟨FO, hFO⟩ : ∃ F, sideOut bk.es k = F := ⟨_, rfl⟩
  have HF0 : Hid (FI 0 = false ∧ FO 0 = false) := Lib.hid ⟨by rw [← hFI]; rfl, by rw [← hFO]; rfl⟩
  rw [hFI] at HSN ⊢
  rw [hFO] at HSO ⊢
  clear h hs hsm ht htm hl hu0 hPlt hFI hFO HIN
  go_enter Try.func31, Try.ntmps31
  rw [HU.out]
  go_wp2_with fail
  go_loopw [4, 5, 13] (fun iv ov jv wr => ∃ (j : Nat) (u : Ext w.heap.size w), jv = .int .i64 j ∧ iv = .bool (FI j) ∧ ov = .bool (FO j) ∧ j ≤ n ∧ wr = u.w) (fun _ _ jv _ => n - (intOf jv).toNat)
  case atStart => exact ⟨0, u0, rfl, by rw [HF0.out.1], by rw [HF0.out.2], Nat.zero_le _, rfl⟩
  case round =>
    obtain ⟨j, u, rfl, rfl, rfl, hj, rfl⟩ := hrel
    by_cases hlt : j < n
    · have hlt' : (j : Int) < n := by omega
      have hj0 : (0 : Int) ≤ (j : Int) := by omega
      obtain ⟨r, hr⟩ : ∃ r, rs[j]? = some r := get_some (by have := HLN.out; omega)
      obtain ⟨e, he⟩ : ∃ e, bk.es[j]? = some e := get_some (by have := HL.out; omega)
      obtain ⟨lb, rfl, hlb⟩ := HPT.out j r hr
      have CB := Lib.hid (fun u => HBE.out u j r e hr he)
      have CA := Lib.hid (fun u => HAH.out u j r e hr he)
      have CK := Lib.hid (fun u => HAK.out u j r e hr he)
      have hsn := HSN.out j
      have hso := HSO.out j
      generalize besideB bk.es j k = bb at *
      generalize aheadB bk.es j k = aa at *
      generalize aheadB bk.es k j = kk at *
      generalize r.p = rp at *
      clear hr he
      obtain ⟨fi, hfi⟩ : ∃ b, FI j = b := ⟨_, rfl⟩
      obtain ⟨fo, hfo⟩ : ∃ b, FO j = b := ⟨_, rfl⟩
      rw [hfi] at hsn
      rw [hfo] at hso
      rw [hfi, hfo]
      have HSNJ := Lib.hid hsn
      have HSOJ := Lib.hid hso
      clear hsn hso hfi hfo
      cases bb with
      | false =>
        go_wp2_with fail
        refine (CB.out u).mono ?_
        rintro e' w' ⟨rfl, u1, rfl⟩
        go_wp2_with fail
        go_roundw
        case rel => exact ⟨j + 1, u1, by go_num, by rw [HSNJ.out]; simp, by rw [HSOJ.out]; simp, by omega, rfl⟩
        case measure => simp [intOf]; omega
      | true =>
        cases fi <;> cases fo
        · go_wp2_with fail
          refine (CB.out u).mono ?_
          rintro e' w' ⟨rfl, u1, rfl⟩
          go_wp2_with fail
          refine (CA.out u1).mono ?_
          rintro e' w' ⟨rfl, u2, rfl⟩
          go_wp2_with fail
          refine (CK.out u2).mono ?_
          rintro e' w' ⟨rfl, u3, rfl⟩
          go_wp2_with fail
          go_roundw
          case rel => exact ⟨j + 1, u3, by go_num, by rw [HSNJ.out]; simp, by rw [HSOJ.out]; simp, by omega, rfl⟩
          case measure => simp [intOf]; omega
        · go_wp2_with fail
          refine (CB.out u).mono ?_
          rintro e' w' ⟨rfl, u1, rfl⟩
          go_wp2_with fail
          refine (CA.out u1).mono ?_
          rintro e' w' ⟨rfl, u2, rfl⟩
          go_wp2_with fail
          go_roundw
          case rel => exact ⟨j + 1, u2, by go_num, by rw [HSNJ.out]; simp, by rw [HSOJ.out]; simp, by omega, rfl⟩
          case measure => simp [intOf]; omega
        · go_wp2_with fail
          refine (CB.out u).mono ?_
          rintro e' w' ⟨rfl, u1, rfl⟩
          go_wp2_with fail
          refine (CK.out u1).mono ?_
          rintro e' w' ⟨rfl, u2, rfl⟩
          go_wp2_with fail
          go_roundw
          case rel => exact ⟨j + 1, u2, by go_num, by rw [HSNJ.out]; simp, by rw [HSOJ.out]; simp, by omega, rfl⟩
          case measure => simp [intOf]; omega
        · go_wp2_with fail
          refine (CB.out u).mono ?_
          rintro e' w' ⟨rfl, u1, rfl⟩
          go_wp2_with fail
          go_roundw
          case rel => exact ⟨j + 1, u1, by go_num, by rw [HSNJ.out]; simp, by rw [HSOJ.out]; simp, by omega, rfl⟩
          case measure => simp [intOf]; omega
    · have hlt' : ¬ (j : Int) < n := by omega
      have hjn : j = n := by omega
      subst hjn
      go_wp2_with fail
      go_ret2
      exact ⟨by rfl, by rw [← HU.out]; exact u.below⟩
end Go.Proofs.Ytaonfacbmolklaa
