/- The reference's book: Read and Touch. Conditions: the rows are sorted, sizes are small. -/
import Derived.Test.YtaonfacbmolklaaRf4
namespace Go.Proofs.Ytaonfacbmolklaa
open Go.RowKit
set_option linter.unusedSimpArgs false
set_option linter.unusedVariables false

theorem flat_set {α : Type} {f : α → List Value} {size : Nat} {z' : α} {q : Nat} {v : Value} : ∀ (zs : List α) (k : Nat) (z : α), (∀ o ∈ zs, (f o).length = size) → zs[k]? = some z → q < size → f z' = (f z).set q v → (zs.flatMap f).set (k * size + q) v = (zs.set k z').flatMap f
  | [], k, z, _, hk, _, _ => by simp at hk
  | o :: zs, 0, z, hf, hk, hq, hz => by
    obtain rfl : o = z := by simpa using hk
    have hl := hf o (by simp)
    rw [List.flatMap_cons, List.set_cons_zero, List.flatMap_cons, hz, Nat.zero_mul, Nat.zero_add, List.set_append, if_pos (by omega)]
  | o :: zs, k + 1, z, hf, hk, hq, hz => by
    have hl := hf o (by simp)
    have ih := flat_set zs k z (fun o ho => hf o (by simp [ho])) (by simpa using hk) hq hz
    rw [List.flatMap_cons, List.set_cons_succ, List.flatMap_cons, List.set_append, if_neg (by rw [Nat.succ_mul]; omega), hl, show (k + 1) * size + q - size = k * size + q from by rw [Nat.succ_mul]; omega, ih]
theorem map_set {zs : List Z} {k : Nat} {z z' : Z} {f : E → E} (hz : zs[k]? = some z) (hf : z'.1 = f z.1) : (zs.set k z').map (fun z => z.1) = (zs.map fun z => z.1).modify k f := by
  apply List.ext_getElem?
  intro i
  have hkl := (List.getElem?_eq_some_iff.1 hz).1
  rw [List.getElem?_map, List.getElem?_set, List.getElem?_modify, List.getElem?_map]
  by_cases hik : k = i
  · subst hik
    have hzz : zs[k] = z := (List.getElem?_eq_some_iff.1 hz).2
    simp [hf, hkl, hzz]
  · simp [hik]
theorem mem_set {α : Type} {l : List α} {k : Nat} {x y : α} (h : y ∈ l.set k x) : y ∈ l ∨ y = x := List.mem_or_eq_of_mem_set h
/-- A cell of one of the row is stored. -/
theorem IsRef.put {w w1 : World} {B P g n c k q : Nat} {last : Int} {S S' : Nat → Prop} {zs : List Z} {z z' : Z} {v : Value} (h : IsRef w B P last S (.slice (some ⟨g, 0, none⟩) n c) zs) (hz : zs[k]? = some z) (hb : Below w.heap.size w w1) (hS : ∀ k, S k → S' k) (hB : ∀ k, S' k → B ≤ k)
    (hq : q < 6) (hc : cellsZ z' = (cellsZ z).set q v)
    (hr : RowIn w1 (NotRow P (.slice (some ⟨g, 0, none⟩) n c)) S' z'.2.1 z'.1.reads ∧ RowIn w1 (NotRow P (.slice (some ⟨g, 0, none⟩) n c)) S' z'.2.2 z'.1.touches) :
    IsRef (w1.setCell ⟨g, k * 6 + q, none⟩ v) B P last S' (.slice (some ⟨g, 0, none⟩) n c) (zs.set k z') := by
  have hgP : g ≠ P := (h.sl g rfl).2
  have hgl := (h.row.lt g rfl).2
  have h0 := h.row
  have hn : n = zs.length := by
    obtain ⟨a, c', e⟩ := own_form h0
    injection e with _ e2 _
  have hsc : ∀ b, b ≠ g → (w1.setCell ⟨g, k * 6 + q, none⟩ v).heap[b]? = w1.heap[b]? := fun b hb => Below.heap_setCell _ _ _ _ hb
  have hsz : (w1.setCell ⟨g, k * 6 + q, none⟩ v).heap.size = w1.heap.size := by simp [World.setCell]
  have hkeep : ∀ u ks S0, RowIn w1 (NotRow P (.slice (some ⟨g, 0, none⟩) n c)) S0 u ks → RowIn (w1.setCell ⟨g, k * 6 + q, none⟩ v) (NotRow P (.slice (some ⟨g, 0, none⟩) n c)) S0 u ks := fun u ks S0 hh => hh.same fun b h1 h2 h3 => ⟨hsc b (fun e => h2 (.inr (by rw [e]; rfl))), h1, h2⟩
  refine ⟨?_, hB, hS P h.sP, ?_, fun b e => ⟨hS b (h.sl b e).1, (h.sl b e).2⟩, fun y hy => ?_⟩
  · exact (h.blk.of_heap (hb.block P h.blk.lt)).of_heap (hsc P (fun e => hgP e.symm))
  · subst hn
    have h1 : w1.ownsRow B 58 6 (.slice (some ⟨g, 0, none⟩) zs.length c) zs.length (zs.flatMap cellsZ) := own_of_heap h0 fun b e => hb.block b (h0.lt b e).2
    rw [List.length_set, ← flat_set (f := cellsZ) zs k z (fun z _ => cellsZ_len z) hz hq hc]
    exact (h1.stored _ v).1
  · rcases mem_set hy with hy | rfl
    · have hS2 : ∀ b, S b → ¬ NotRow P (.slice (some ⟨g, 0, none⟩) n c) b → b < w.heap.size → w1.heap[b]? = w.heap[b]? ∧ S' b ∧ ¬ NotRow P (.slice (some ⟨g, 0, none⟩) n c) b := fun b h1 h2 h3 => ⟨hb.block b h3, hS b h1, h2⟩
      exact ⟨hkeep _ _ _ ((h.rows y hy).1.same hS2), hkeep _ _ _ ((h.rows y hy).2.same hS2)⟩
    · exact ⟨hkeep _ _ _ hr.1, hkeep _ _ _ hr.2⟩
/-- The row that with makes is one of the book's. -/
theorem with_row {w u w' : World} {B P : Nat} {last : Int} {S : Nat → Prop} {lv : Value} {zs : List Z} {z : Z} {la a : Option Addr} {l r : List ByteArray} {lc c : Nat} (h : IsRef w B P last S lv zs) (hl : RowIn w (NotRow P lv) S (.slice la l.length lc) l) (hu : Below w.heap.size w u) (hu2 : Below w.heap.size w w')
    (hr : StrRow w'.heap.size w' a r) (ha : (a = la ∧ r = l) ∨ ∃ b, a = some ⟨b, 0, none⟩ ∧ u.heap.size ≤ b) : RowIn w' (NotRow P lv) (grow S w w') (.slice a r.length c) r := by
  rcases ha with ⟨rfl, rfl⟩ | ⟨b, rfl, hb⟩
  · obtain ⟨a2, c2, e, h2⟩ := hl.same (u' := w') (N' := NotRow P lv) (S' := grow S w w') fun k h1 h2 h3 => ⟨hu2.block k h3, .inl h1, h2⟩
    injection e with e1 _ _
    subst e1
    exact ⟨a, c, rfl, h2⟩
  · refine ⟨_, c, rfl, ?_⟩
    rcases hr with hr | ⟨b2, off, e, h2, h3⟩
    · exact .inl (List.map_eq_nil_iff.1 hr)
    · injection e with e
      injection e with e1 e2
      subst e1 e2
      have hw := hu.size
      refine .inr ⟨b, 0, rfl, .inr ⟨by omega, h2⟩, ?_, h2, fun i x hx => h3 i _ (by rw [List.getElem?_map, hx]; rfl)⟩
      rintro (h4 | h4)
      · have := h.blk.lt; omega
      · have := (h.row.lt b h4).2; omega
/-- What stands behind a region that calls and stores. -/
def MidG {α β : Type} (A : α → β → Act) (F : α → β → World → World) (R : α → β → World → Prop) : Exit → Act → World → Prop
  | .normal, a, w => ∃ x y w1, R x y w1 ∧ a = A x y ∧ w = F x y w1
  | _, _, _ => False
theorem wp_midG {α β : Type} {P : Program} {c : Code} {Q : Exit → Act → World → Prop} {a : Act} {w : World} (A : α → β → Act) (F : α → β → World → World) (R : α → β → World → Prop)
    (h : c.wp P (MidG A F R) a w) (k : ∀ x y w1, R x y w1 → Q .normal (A x y) (F x y w1)) : c.wp P Q a w := by
  refine Code.wp_mono ?_ h
  intro e a w h
  cases e with
  | normal =>
    obtain ⟨x, y, w1, hr, rfl, rfl⟩ := h
    exact k x y w1 hr
  | _ => exact h.elim
theorem findB_some {es : List E} {who : Int} {k : Nat} (h : findB es who = some k) : ∃ e, es[k]? = some e ∧ e.who = who ∧ e.end_ = 0 := by
  unfold findB at h
  rw [List.findIdx?_eq_some_iff_getElem] at h
  obtain ⟨h1, h2, _⟩ := h
  exact ⟨es[k], List.getElem?_eq_getElem h1, of_decide_eq_true h2⟩
def RP2_reads (w : World) (B P : Nat) (bk : Bk) (S : Nat → Prop) (who : Int) (l : List ByteArray) (e : Ending) (w' : World) : Prop := e = .returned (.int .i64 (readB bk who l).1) ∧ RActed w B P (readB bk who l).2 S w'
set_option maxRecDepth 100000 in
set_option maxHeartbeats 4000000 in
theorem rread_any (w : World) (B P : Nat) (bk : Bk) (S : Nat → Prop) (who : Int) (l : List ByteArray) (ma : Option Addr) (mc : Nat) (h : RefAt w B P bk S) (hm : ∀ w' : World, KeptS S w w' → StrRow w'.heap.size w' ma l) (hn : bk.es.length ≤ 1000000) (hs : ∀ e ∈ bk.es, SortedS e.reads ∧ e.reads.length + l.length ≤ 1099511627776) :
    Calls Try.prog 11 #[.pointer (some ⟨P, 0, none⟩), .int .i64 who, .slice ma l.length mc] w (RP2_reads w B P bk S who l) := by
  have HRA := Lib.hid h
  obtain ⟨lv, zs, hI, hes⟩ := h
  have HI := Lib.hid hI
  have HES := Lib.hid hes
  have hlen : zs.length = bk.es.length := by rw [← hes, List.length_map]
  have HLN := Lib.hid hlen
  obtain ⟨a, c, rfl⟩ := own_form hI.row
  have HF := Lib.hid (rfind_any w B P bk.last who S _ zs hI (by omega))
  rw [hes] at HF
  have HPL : Hid (readB bk who l = match findB bk.es who with | none => (23, bk) | some k => (0, ⟨bk.es.modify k fun e => { e with reads := addS e.reads l }, bk.last⟩)) := Lib.hid rfl
  have HPB : Hid (placeB bk.es who = match findB bk.es who with | none => -1 | some k => (k : Int)) := Lib.hid rfl
  obtain ⟨Q, hQ⟩ : ∃ Q, RP2_reads w B P bk S who l = Q := ⟨_, rfl⟩
  rw [hQ]
  have HQ := Lib.hid hQ
  cases hfd : findB bk.es who with
  | none =>
    have hp : placeB bk.es who = -1 := by rw [HPB.out, hfd]
    have HR : Hid (readB bk who l = (23, bk)) := Lib.hid (by have h := HPL.out; rw [hfd] at h; exact h)
    rw [hp] at HF
    clear hI hes hlen hm hs hQ hfd hp
    go_enter Try.func11, Try.ntmps11
    go_wp2_with fail
    refine HF.out.mono ?_
    rintro e w1 ⟨rfl, rfl⟩
    go_wp2_with fail
    rw [← HQ.out]
    unfold RP2_reads
    rw [HR.out]
    exact ⟨by rfl, HRA.out.acted (Below.refl _ _)⟩
  | some k =>
    have hp : placeB bk.es who = (k : Int) := by rw [HPB.out, hfd]
    have HR : Hid (readB bk who l = (0, ⟨bk.es.modify k fun e => { e with reads := addS e.reads l }, bk.last⟩)) := Lib.hid (by have h := HPL.out; rw [hfd] at h; exact h)
    rw [hp] at HF
    obtain ⟨e, he, _, _⟩ := findB_some hfd
    have hkn : k < zs.length := by have := (List.getElem?_eq_some_iff.1 he).1; omega
    obtain ⟨z, hz⟩ : ∃ z, zs[k]? = some z := get_some hkn
    have hze : z.1 = e := by rw [← hes, List.getElem?_map, hz] at he; simpa using he
    have hsz := hs e (List.mem_of_getElem? he)
    have hRW := (hI.rows z (List.mem_of_getElem? hz)).1
    have HRW2 := Lib.hid (hI.rows z (List.mem_of_getElem? hz)).2
    obtain ⟨la, lc, hla, _⟩ := hRW.row
    rw [hla] at hRW
    have hRW0 := hRW
    obtain ⟨g, c', hac, hg, hc⟩ := hI.cell hz
    injection hac with e1 e2 e3
    subst e1
    clear e2 e3
    have HW : Hid (∀ u : World, Below w.heap.size w u → Calls Try.prog 30 #[.slice la z.1.reads.length lc, .slice ma l.length mc] u fun e w' => ∃ a1 c1, e = .returned (.slice a1 (addS z.1.reads l).length c1) ∧ RowIn w' (NotRow P (.slice (some ⟨g, 0, none⟩) zs.length c)) (grow S w w') (.slice a1 (addS z.1.reads l).length c1) (addS z.1.reads l) ∧ Below w.heap.size w w') := Lib.hid (fun u hu => by
      have hu1 : RowIn u (NotRow P (.slice (some ⟨g, 0, none⟩) zs.length c)) S (.slice la z.1.reads.length lc) z.1.reads := hRW0.same fun k h1 h2 h3 => ⟨hu.block k h3, h1, h2⟩
      obtain ⟨la2, lc2, e2, hu2⟩ := hu1.row
      injection e2 with e3 _ _
      subst e3
      refine (with_any u z.1.reads l la ma lc mc hu2 (hm u (KeptS.of_below hu)) (by rw [hze]; exact hsz.1) (by rw [hze]; exact hsz.2)).mono ?_
      rintro e w' ⟨a1, c1, rfl, h1, h2, h3⟩
      have h4 : Below w.heap.size w w' := hu.trans (h3.mono hu.size)
      exact ⟨a1, c1, rfl, with_row (z := z) hI hRW0 hu h4 h1 h2, h4⟩)
    have c0 := hI.blk.cell (i := 0) rfl
    have hPl := hI.blk.lt
    have hBl := hI.size
    have y3 : w.cell? ⟨g, k * 6 + 3, none⟩ = some (.slice la z.1.reads.length lc) := by rw [← hla]; exact hc 3 _ rfl
    have f3 : w.frozen? ⟨g, k * 6 + 3, none⟩ = false := hI.row.frozenAt _
    have HZ := Lib.hid hz
    have HZE := Lib.hid hze
    have HLA := Lib.hid hla
    have hk0 : (0 : Int) ≤ (k : Int) := by omega
    have hn1 : zs.length ≤ 1000000 := by omega
    have hgP : g ≠ P := (hI.sl g rfl).2
    have hgS : S g := (hI.sl g rfl).1
    obtain ⟨n, hzn⟩ : ∃ n, zs.length = n := ⟨_, rfl⟩
    obtain ⟨m1, hm1⟩ : ∃ m, z.1.reads.length = m := ⟨_, rfl⟩
    obtain ⟨m2, hm2⟩ : ∃ m, l.length = m := ⟨_, rfl⟩
    obtain ⟨m3, hm3⟩ : ∃ m, (addS z.1.reads l).length = m := ⟨_, rfl⟩
    have HM3 := Lib.hid hm3
    rw [hzn, hm1, hm2, hm3] at HW
    rw [hzn] at c0 hn1 hkn HI
    rw [hm1] at y3
    rw [hm2]
    clear hI hes hlen hm hs hQ hfd hp he hz hze hsz hRW hRW0 hla hc hn hm1 hm2 hm3
    go_enter Try.func11, Try.ntmps11
    go_wp2_with fail
    refine HF.out.mono ?_
    rintro e w1 ⟨rfl, rfl⟩
    go_wp2_with fail
    apply wp_midG (α := Option Addr) (β := Nat) (F := fun x y w3 => w3.setCell ⟨g, k * 6 + 3, none⟩ (.slice x m3 y)) (R := fun x y w3 => RowIn w3 (NotRow P (.slice (some ⟨g, 0, none⟩) n c)) (grow S w w3) (.slice x m3 y) (addS z.1.reads l) ∧ Below w.heap.size w w3)
    case h =>
      go_region_law (first | (go_simp; go_at_call 30; refine (HW.out _ (by first | exact Below.refl _ _ | exact (Below.refl _ _).drew)).mono ?_; rintro e w3 ⟨a1, c1, rfl, hrow1, hbl1⟩; have k0 := (hbl1.cell (p := ⟨P, 0, none⟩) hPl).trans c0; have k3 := (hbl1.cell (p := ⟨g, k * 6 + 3, none⟩) hg).trans y3; have k4 := (hbl1.frozen (p := ⟨g, k * 6 + 3, none⟩) hg).trans f3))
      all_goals exact ⟨a1, c1, w3, ⟨hrow1, hbl1⟩, rfl, rfl⟩
    rintro a1 c1 w3 ⟨hrow1, hbl1⟩
    have HROW := Lib.hid hrow1
    have HBL := Lib.hid hbl1
    clear hrow1 hbl1
    go_wp2_with fail
    rw [← HQ.out]
    unfold RP2_reads
    rw [HR.out]
    have hsz3 : (w3.setCell ⟨g, k * 6 + 3, none⟩ (.slice a1 m3 c1)).heap.size = w3.heap.size := by simp [World.setCell]
    have hGR : ∀ q, grow S w w3 q → grow S w (w3.setCell ⟨g, k * 6 + 3, none⟩ (.slice a1 m3 c1)) q := fun q hq => by unfold grow at *; rw [hsz3]; exact hq
    refine ⟨by rfl, ⟨.slice (some ⟨g, 0, none⟩) n c, zs.set k ({ z.1 with reads := addS z.1.reads l }, .slice a1 m3 c1, z.2.2), ?_, by rw [map_set (f := fun e => { e with reads := addS e.reads l }) HZ.out rfl, HES.out]⟩, ?_⟩
    · refine HI.out.put HZ.out HBL.out (fun q hq => .inl hq) (grow_base HI.out.base HI.out.size) (by omega) (by rfl) ?_
      have hO : RowIn w3 (NotRow P (.slice (some ⟨g, 0, none⟩) n c)) (grow S w (w3.setCell ⟨g, k * 6 + 3, none⟩ (.slice a1 m3 c1))) z.2.2 z.1.touches := by
        have h := HRW2.out
        rw [hzn] at h
        exact h.same fun q h1 h2 h3 => ⟨HBL.out.block q h3, .inl h1, h2⟩
      have hN : RowIn w3 (NotRow P (.slice (some ⟨g, 0, none⟩) n c)) (grow S w (w3.setCell ⟨g, k * 6 + 3, none⟩ (.slice a1 m3 c1))) (.slice a1 m3 c1) (addS z.1.reads l) := HROW.out.same fun q h1 h2 h3 => ⟨rfl, hGR q h1, h2⟩
      exact ⟨hN, hO⟩
    · exact (KeptS.of_below HBL.out).setCell (.inl hgS) _
def RP2_touches (w : World) (B P : Nat) (bk : Bk) (S : Nat → Prop) (who : Int) (l : List ByteArray) (e : Ending) (w' : World) : Prop := e = .returned (.int .i64 (touchB bk who l).1) ∧ RActed w B P (touchB bk who l).2 S w'
set_option maxRecDepth 100000 in
set_option maxHeartbeats 4000000 in
theorem rtouch_any (w : World) (B P : Nat) (bk : Bk) (S : Nat → Prop) (who : Int) (l : List ByteArray) (ma : Option Addr) (mc : Nat) (h : RefAt w B P bk S) (hm : ∀ w' : World, KeptS S w w' → StrRow w'.heap.size w' ma l) (hn : bk.es.length ≤ 1000000) (hs : ∀ e ∈ bk.es, SortedS e.touches ∧ e.touches.length + l.length ≤ 1099511627776) :
    Calls Try.prog 13 #[.pointer (some ⟨P, 0, none⟩), .int .i64 who, .slice ma l.length mc] w (RP2_touches w B P bk S who l) := by
  have HRA := Lib.hid h
  obtain ⟨lv, zs, hI, hes⟩ := h
  have HI := Lib.hid hI
  have HES := Lib.hid hes
  have hlen : zs.length = bk.es.length := by rw [← hes, List.length_map]
  have HLN := Lib.hid hlen
  obtain ⟨a, c, rfl⟩ := own_form hI.row
  have HF := Lib.hid (rfind_any w B P bk.last who S _ zs hI (by omega))
  rw [hes] at HF
  have HPL : Hid (touchB bk who l = match findB bk.es who with | none => (23, bk) | some k => (0, ⟨bk.es.modify k fun e => { e with touches := addS e.touches l }, bk.last⟩)) := Lib.hid rfl
  have HPB : Hid (placeB bk.es who = match findB bk.es who with | none => -1 | some k => (k : Int)) := Lib.hid rfl
  obtain ⟨Q, hQ⟩ : ∃ Q, RP2_touches w B P bk S who l = Q := ⟨_, rfl⟩
  rw [hQ]
  have HQ := Lib.hid hQ
  cases hfd : findB bk.es who with
  | none =>
    have hp : placeB bk.es who = -1 := by rw [HPB.out, hfd]
    have HR : Hid (touchB bk who l = (23, bk)) := Lib.hid (by have h := HPL.out; rw [hfd] at h; exact h)
    rw [hp] at HF
    clear hI hes hlen hm hs hQ hfd hp
    go_enter Try.func13, Try.ntmps13
    go_wp2_with fail
    refine HF.out.mono ?_
    rintro e w1 ⟨rfl, rfl⟩
    go_wp2_with fail
    rw [← HQ.out]
    unfold RP2_touches
    rw [HR.out]
    exact ⟨by rfl, HRA.out.acted (Below.refl _ _)⟩
  | some k =>
    have hp : placeB bk.es who = (k : Int) := by rw [HPB.out, hfd]
    have HR : Hid (touchB bk who l = (0, ⟨bk.es.modify k fun e => { e with touches := addS e.touches l }, bk.last⟩)) := Lib.hid (by have h := HPL.out; rw [hfd] at h; exact h)
    rw [hp] at HF
    obtain ⟨e, he, _, _⟩ := findB_some hfd
    have hkn : k < zs.length := by have := (List.getElem?_eq_some_iff.1 he).1; omega
    obtain ⟨z, hz⟩ : ∃ z, zs[k]? = some z := get_some hkn
    have hze : z.1 = e := by rw [← hes, List.getElem?_map, hz] at he; simpa using he
    have hsz := hs e (List.mem_of_getElem? he)
    have hRW := (hI.rows z (List.mem_of_getElem? hz)).2
    have HRW2 := Lib.hid (hI.rows z (List.mem_of_getElem? hz)).1
    obtain ⟨la, lc, hla, _⟩ := hRW.row
    rw [hla] at hRW
    have hRW0 := hRW
    obtain ⟨g, c', hac, hg, hc⟩ := hI.cell hz
    injection hac with e1 e2 e3
    subst e1
    clear e2 e3
    have HW : Hid (∀ u : World, Below w.heap.size w u → Calls Try.prog 30 #[.slice la z.1.touches.length lc, .slice ma l.length mc] u fun e w' => ∃ a1 c1, e = .returned (.slice a1 (addS z.1.touches l).length c1) ∧ RowIn w' (NotRow P (.slice (some ⟨g, 0, none⟩) zs.length c)) (grow S w w') (.slice a1 (addS z.1.touches l).length c1) (addS z.1.touches l) ∧ Below w.heap.size w w') := Lib.hid (fun u hu => by
      have hu1 : RowIn u (NotRow P (.slice (some ⟨g, 0, none⟩) zs.length c)) S (.slice la z.1.touches.length lc) z.1.touches := hRW0.same fun k h1 h2 h3 => ⟨hu.block k h3, h1, h2⟩
      obtain ⟨la2, lc2, e2, hu2⟩ := hu1.row
      injection e2 with e3 _ _
      subst e3
      refine (with_any u z.1.touches l la ma lc mc hu2 (hm u (KeptS.of_below hu)) (by rw [hze]; exact hsz.1) (by rw [hze]; exact hsz.2)).mono ?_
      rintro e w' ⟨a1, c1, rfl, h1, h2, h3⟩
      have h4 : Below w.heap.size w w' := hu.trans (h3.mono hu.size)
      exact ⟨a1, c1, rfl, with_row (z := z) hI hRW0 hu h4 h1 h2, h4⟩)
    have c0 := hI.blk.cell (i := 0) rfl
    have hPl := hI.blk.lt
    have hBl := hI.size
    have y3 : w.cell? ⟨g, k * 6 + 4, none⟩ = some (.slice la z.1.touches.length lc) := by rw [← hla]; exact hc 4 _ rfl
    have f3 : w.frozen? ⟨g, k * 6 + 4, none⟩ = false := hI.row.frozenAt _
    have HZ := Lib.hid hz
    have HZE := Lib.hid hze
    have HLA := Lib.hid hla
    have hk0 : (0 : Int) ≤ (k : Int) := by omega
    have hn1 : zs.length ≤ 1000000 := by omega
    have hgP : g ≠ P := (hI.sl g rfl).2
    have hgS : S g := (hI.sl g rfl).1
    obtain ⟨n, hzn⟩ : ∃ n, zs.length = n := ⟨_, rfl⟩
    obtain ⟨m1, hm1⟩ : ∃ m, z.1.touches.length = m := ⟨_, rfl⟩
    obtain ⟨m2, hm2⟩ : ∃ m, l.length = m := ⟨_, rfl⟩
    obtain ⟨m3, hm3⟩ : ∃ m, (addS z.1.touches l).length = m := ⟨_, rfl⟩
    have HM3 := Lib.hid hm3
    rw [hzn, hm1, hm2, hm3] at HW
    rw [hzn] at c0 hn1 hkn HI
    rw [hm1] at y3
    rw [hm2]
    clear hI hes hlen hm hs hQ hfd hp he hz hze hsz hRW hRW0 hla hc hn hm1 hm2 hm3
    go_enter Try.func13, Try.ntmps13
    go_wp2_with fail
    refine HF.out.mono ?_
    rintro e w1 ⟨rfl, rfl⟩
    go_wp2_with fail
    apply wp_midG (α := Option Addr) (β := Nat) (F := fun x y w3 => w3.setCell ⟨g, k * 6 + 4, none⟩ (.slice x m3 y)) (R := fun x y w3 => RowIn w3 (NotRow P (.slice (some ⟨g, 0, none⟩) n c)) (grow S w w3) (.slice x m3 y) (addS z.1.touches l) ∧ Below w.heap.size w w3)
    case h =>
      go_region_law (first | (go_simp; go_at_call 30; refine (HW.out _ (by first | exact Below.refl _ _ | exact (Below.refl _ _).drew)).mono ?_; rintro e w3 ⟨a1, c1, rfl, hrow1, hbl1⟩; have k0 := (hbl1.cell (p := ⟨P, 0, none⟩) hPl).trans c0; have k3 := (hbl1.cell (p := ⟨g, k * 6 + 4, none⟩) hg).trans y3; have k4 := (hbl1.frozen (p := ⟨g, k * 6 + 4, none⟩) hg).trans f3))
      all_goals exact ⟨a1, c1, w3, ⟨hrow1, hbl1⟩, rfl, rfl⟩
    rintro a1 c1 w3 ⟨hrow1, hbl1⟩
    have HROW := Lib.hid hrow1
    have HBL := Lib.hid hbl1
    clear hrow1 hbl1
    go_wp2_with fail
    rw [← HQ.out]
    unfold RP2_touches
    rw [HR.out]
    have hsz3 : (w3.setCell ⟨g, k * 6 + 4, none⟩ (.slice a1 m3 c1)).heap.size = w3.heap.size := by simp [World.setCell]
    have hGR : ∀ q, grow S w w3 q → grow S w (w3.setCell ⟨g, k * 6 + 4, none⟩ (.slice a1 m3 c1)) q := fun q hq => by unfold grow at *; rw [hsz3]; exact hq
    refine ⟨by rfl, ⟨.slice (some ⟨g, 0, none⟩) n c, zs.set k ({ z.1 with touches := addS z.1.touches l }, z.2.1, .slice a1 m3 c1), ?_, by rw [map_set (f := fun e => { e with touches := addS e.touches l }) HZ.out rfl, HES.out]⟩, ?_⟩
    · refine HI.out.put HZ.out HBL.out (fun q hq => .inl hq) (grow_base HI.out.base HI.out.size) (by omega) (by rfl) ?_
      have hO : RowIn w3 (NotRow P (.slice (some ⟨g, 0, none⟩) n c)) (grow S w (w3.setCell ⟨g, k * 6 + 4, none⟩ (.slice a1 m3 c1))) z.2.1 z.1.reads := by
        have h := HRW2.out
        rw [hzn] at h
        exact h.same fun q h1 h2 h3 => ⟨HBL.out.block q h3, .inl h1, h2⟩
      have hN : RowIn w3 (NotRow P (.slice (some ⟨g, 0, none⟩) n c)) (grow S w (w3.setCell ⟨g, k * 6 + 4, none⟩ (.slice a1 m3 c1))) (.slice a1 m3 c1) (addS z.1.touches l) := HROW.out.same fun q h1 h2 h3 => ⟨rfl, hGR q h1, h2⟩
      exact ⟨hO, hN⟩
    · exact (KeptS.of_below HBL.out).setCell (.inl hgS) _
end Go.Proofs.Ytaonfacbmolklaa
