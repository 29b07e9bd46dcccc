/- The program's book: Flags, Size, Last, New, Open. Conditions: sizes are small. -/
import Derived.Test.YtaonfacbmolklaaFind
import Derived.Deep.RegionLaw
import Derived.Deep.AppendLies
namespace Go.Proofs.Ytaonfacbmolklaa
open Go.RowKit
set_option linter.unusedSimpArgs false
set_option linter.unusedVariables false

theorem size_any (w : World) (B P : Nat) (bk : Bk) (tag : Nat → Nat × Nat) (lv : Value) (rs : List R) (h : IsBook w B P bk tag lv rs) :
    Calls Try.prog 20 #[.pointer (some ⟨P, 0, none⟩)] w fun e w' => e = .returned (.int .i64 bk.es.length) ∧ w = w' := by
  obtain ⟨a, c, rfl⟩ := h.form
  have c0 := h.blk.cell (i := 0) rfl
  generalize bk.es.length = n at *
  clear h
  go_enter Try.func20, Try.ntmps20
  go_wp2_with fail
  go_ret
  exact ⟨by rfl, rfl⟩
theorem last_any (w : World) (B P : Nat) (bk : Bk) (tag : Nat → Nat × Nat) (lv : Value) (rs : List R) (h : IsBook w B P bk tag lv rs) :
    Calls Try.prog 21 #[.pointer (some ⟨P, 0, none⟩)] w fun e w' => e = .returned (.int .i64 bk.last) ∧ w = w' := by
  have c1 := h.blk.cell (i := 1) rfl
  generalize bk.last = n at *
  clear h
  go_enter Try.func21, Try.ntmps21
  go_wp2_with fail
  go_ret
  exact ⟨by rfl, rfl⟩
theorem new_any (w : World) (B : Nat) (hB : B ≤ w.heap.size) :
    Calls Try.prog 7 #[] w fun e w' => e = .returned (.pointer (some ⟨w.heap.size, 0, none⟩)) ∧ Below w.heap.size w w' ∧ w'.heap.size = w.heap.size + 1 ∧ BookAt w' B w.heap.size ⟨[], 0⟩ (fun k => k = w.heap.size) := by
  go_enter Try.func7, Try.ntmps7
  go_wp2_with fail
  go_ret
  refine ⟨by rfl, (Below.refl _ _).alloc (Nat.le_refl _) _, by simp, fun k => (k, 0), .slice none 0 0, [], ?_, ?_⟩
  · exact ⟨Block.new w [.slice none 0 0, .int .i64 0] _, hB, rfl, World.ownsRow_nil _ _ _ _, (fun g e => by cases e), rfl, (fun i r e h => by simp at h), List.nodup_nil, by simp⟩
  · rintro k (h | h | ⟨r, hr, _⟩)
    · exact h
    · cases h
    · simp at hr
theorem flags_any (w : World) (B P : Nat) (bk : Bk) (tag : Nat → Nat × Nat) (lv : Value) (rs : List R) (who : Int) (h : IsBook w B P bk tag lv rs) (hsm : SmallB bk) :
    Calls Try.prog 18 #[.pointer (some ⟨P, 0, none⟩), .int .i64 who] w fun e w' => e = .returned (.tuple #[.bool (flagsB bk.es who).1, .bool (flagsB bk.es who).2]) ∧ Below w.heap.size w w' := by
  have HF := Lib.hid (find_any w B P bk tag lv rs who h hsm.1)
  have HFL : Hid (flagsB bk.es who = match findB bk.es who with | none => (false, false) | some k => (inB bk.es k, outB bk.es k)) := Lib.hid rfl
  have HS := Lib.hid (fun k s hs => sides_any w B P bk tag lv rs k s h hs hsm)
  obtain ⟨F, hFF⟩ : ∃ F, flagsB bk.es who = F := ⟨_, rfl⟩
  rw [hFF] at HFL ⊢
  clear h hsm hFF
  go_enter Try.func18, Try.ntmps18
  go_wp2_with fail
  refine HF.out.mono ?_
  rintro e w1 ⟨rfl, ⟨h1, rfl⟩ | ⟨k, r, h1, h2, rfl⟩⟩
  · have HR : Hid (F = (false, false)) := Lib.hid (by have h := HFL.out; rw [h1] at h; exact h)
    clear h1
    go_wp2_with fail
    go_ret2
    exact ⟨by rw [HR.out]; rfl, Below.refl _ _⟩
  · have HR : Hid (F = (inB bk.es k, outB bk.es k)) := Lib.hid (by have h := HFL.out; rw [h1] at h; exact h)
    have HC := Lib.hid (HS.out k r h2)
    clear h1 h2
    generalize inB bk.es k = i1 at *
    generalize outB bk.es k = o1 at *
    go_wp2_with fail
    refine HC.out.mono ?_
    rintro e w1 ⟨rfl, hb⟩
    have HB := Lib.hid hb
    clear hb
    go_wp2_with fail
    go_ret2
    exact ⟨by rw [HR.out]; rfl, HB.out⟩
theorem open1_any (w : World) (B P : Nat) (bk : Bk) (tag : Nat → Nat × Nat) (lv : Value) (rs : List R) (i bx : Nat) (r : R) (e : E) (who : Int) (h : IsBook w B P bk tag lv rs) (hr : rs[i]? = some r) (he : bk.es[i]? = some e) (hbx : w.cell? ⟨bx, 0, none⟩ = some (.int .i64 who)) :
    Calls Try.prog 26 #[.pointer (some ⟨r.p, 0, none⟩), .pointer (some ⟨bx, 0, none⟩)] w fun e' w' => e' = .returned (.bool (decide (e.who = who))) ∧ Below w.heap.size w w' := by
  have hrE := h.ent i r e hr he
  have x0 := hrE.blk.cell (i := 0) rfl
  clear h hr he hrE
  generalize e.who = ew at *
  generalize r.p = rp at *
  have HD : Hid ((ew == who) = decide (ew = who)) := Lib.hid (by rw [Bool.eq_iff_iff]; simp)
  go_enter Try.func26, Try.ntmps26
  go_wp2_with fail
  go_quiet (fail)
  go_wp2_with fail
  go_ret
  exact ⟨by show Ending.returned (.bool (ew == who)) = _; rw [HD.out], below_drewN (Below.refl _ _) _⟩
theorem Try.infoPtr : (Try.prog.info? 53).map (fun i => (i.zero, i.size, i.bytes)) = some (some (.pointer none), 1, 8) := by kernel_rfl
/-- The book with an entry more. -/
theorem IsBook.more {wr w1 : World} {B P gg cap : Nat} {bk : Bk} {tag : Nat → Nat × Nat} {lv : Value} {rs : List R} {who at_ : Int} {Y : Obj} (h : IsBook wr B P bk tag lv rs)
    (hown : w1.ownsRow B 53 1 (.slice (some ⟨gg, 0, none⟩) (rs.length + 1) cap) (rs.length + 1) (rs.map R.ptr ++ [.pointer (some ⟨wr.heap.size, 0, none⟩)]))
    (hg : (((wr.alloc (.cells (cellsE ⟨who, at_, 0, [], [], false⟩ (.slice none 0 0) (.slice none 0 0)).toArray 55)).alloc Y).drew).grownBy w1 lv.ownBlock) (hat : lv.ownBlock = some gg ∨ gg = wr.heap.size + 2) :
    ∃ tag', IsBook (w1.setCell ⟨P, 0, none⟩ (.slice (some ⟨gg, 0, none⟩) (rs.length + 1) cap)) B P ⟨bk.es ++ [⟨who, at_, 0, [], [], false⟩], bk.last⟩ tag' (.slice (some ⟨gg, 0, none⟩) (rs.length + 1) cap) (rs ++ [⟨wr.heap.size, .slice none 0 0, .slice none 0 0⟩]) := by
  have hP := (h.ownlt (.inl rfl)).2
  have hBs : B ≤ wr.heap.size := Nat.le_trans h.base (Nat.le_of_lt hP)
  have hL : ∀ g, lv.ownBlock = some g → B ≤ g ∧ g < wr.heap.size := h.row.lt
  have hLP : ∀ g, lv.ownBlock = some g → g ≠ P := fun g e hp => by have := h.tl g e; rw [hp, h.tP] at this; injection this with _ h2; cases h2
  have hgP : gg ≠ P := by
    rcases hat with e | e
    · exact hLP gg e
    · omega
  have hk : ∀ b, b < wr.heap.size → lv.ownBlock ≠ some b → w1.heap[b]? = wr.heap[b]? := fun b hb hn => by
    rw [hg.block b (by show b < ((wr.alloc _).alloc Y).heap.size; simp; omega) (fun e => hn e.symm)]
    show ((wr.alloc _).alloc Y).heap[b]? = _
    rw [Below.heap_alloc _ _ _ (by simp; omega), Below.heap_alloc _ _ _ hb]
  have hnew : Block w1 wr.heap.size (cellsE ⟨who, at_, 0, [], [], false⟩ (.slice none 0 0) (.slice none 0 0)) 55 := by
    have h0 := (Block.new wr (cellsE ⟨who, at_, 0, [], [], false⟩ (.slice none 0 0) (.slice none 0 0)) 55).alloc Y
    exact (Block.drew h0).of_heap (hg.block _ (by show wr.heap.size < ((wr.alloc _).alloc Y).heap.size; simp; omega) (fun e => by have := (hL _ e.symm).2; omega))
  have hsc : ∀ b, b ≠ P → (w1.setCell ⟨P, 0, none⟩ (.slice (some ⟨gg, 0, none⟩) (rs.length + 1) cap)).heap[b]? = w1.heap[b]? := fun b hb => Below.heap_setCell _ _ _ _ hb
  have hnp : wr.heap.size ≠ P := by omega
  -- blocks of old entries
  have hold : ∀ (i : Nat) r e, rs[i]? = some r → bk.es[i]? = some e → ∀ k, (k = r.p ∨ r.v1.ownBlock = some k ∨ r.v2.ownBlock = some k) → (tag k).1 = r.p ∧ k < wr.heap.size ∧ k ≠ P ∧ lv.ownBlock ≠ some k := fun i r e hr he k hk => by
    have hE := h.ent i r e hr he
    have h1 : (tag k).1 = r.p := by
      rcases hk with rfl | hk | hk
      · rw [hE.tp]
      · rw [hE.t1 k hk]
      · rw [hE.t2 k hk]
    have hrP : r.p ≠ P := fun e => h.np (by rw [← e]; exact List.mem_map_of_mem (List.mem_of_getElem? hr))
    refine ⟨h1, (h.ownlt (.inr (.inr ⟨r, List.mem_of_getElem? hr, hk⟩))).2, fun e => ?_, fun e => ?_⟩
    · rw [e, h.tP] at h1; exact hrP h1.symm
    · rw [h.tl k e] at h1; exact hrP h1.symm
  refine ⟨fun k => if k = wr.heap.size then (k, 0) else if k = gg then (P, 1) else tag k, ?_⟩
  have htag : ∀ k, k < wr.heap.size → lv.ownBlock ≠ some k → (if k = wr.heap.size then (k, 0) else if k = gg then (P, 1) else tag k) = tag k := fun k hk hn => by
    rw [if_neg (by omega), if_neg (fun e => ?_)]
    rcases hat with e2 | e2
    · exact hn (by rw [e]; exact e2)
    · omega
  refine ⟨?_, h.base, ?_, ?_, ?_, by simp [h.len], ?_, ?_, ?_⟩
  · exact (h.blk.of_heap (hk P hP (fun e => hLP P e rfl))).set 0 _
  · rw [htag P hP (fun e => hLP P e rfl)]; exact h.tP
  · rw [List.length_append, List.map_append]
    exact own_setCell hown (fun e => hgP (by injection e)) _
  · intro g e
    obtain rfl : gg = g := by injection e
    by_cases hgw : gg = wr.heap.size
    · rcases hat with e2 | e2
      · have := (hL _ e2).2; omega
      · omega
    · show (if gg = wr.heap.size then _ else _) = _
      rw [if_neg hgw, if_pos rfl]
  · intro i r e hr he
    by_cases hi : i < rs.length
    · rw [List.getElem?_append_left hi] at hr
      rw [List.getElem?_append_left (by rw [← h.len]; exact hi)] at he
      have hE := h.ent i r e hr he
      have ho := hold i r e hr he
      have hE2 : IsE (w1.setCell ⟨P, 0, none⟩ (.slice (some ⟨gg, 0, none⟩) (rs.length + 1) cap)) B tag r e := hE.same fun k hk' => by
        obtain ⟨_, h2, h3, h4⟩ := ho k hk'
        rw [hsc k h3, hk k h2 h4]
      refine ⟨hE2.blk, hE2.base, ?_, hE2.o1, fun g e => ?_, hE2.o2, fun g e => ?_⟩
      · obtain ⟨_, h2, _, h4⟩ := ho r.p (.inl rfl)
        rw [htag _ h2 h4]; exact hE.tp
      · obtain ⟨_, h2, _, h4⟩ := ho g (.inr (.inl e))
        rw [htag _ h2 h4]; exact hE.t1 g e
      · obtain ⟨_, h2, _, h4⟩ := ho g (.inr (.inr e))
        rw [htag _ h2 h4]; exact hE.t2 g e
    · have hi2 : i = rs.length := by
        have := (List.getElem?_eq_some_iff.1 hr).1
        simp at this
        omega
      subst hi2
      rw [List.getElem?_append_right (Nat.le_refl _), Nat.sub_self] at hr
      rw [List.getElem?_append_right (by rw [h.len]; exact Nat.le_refl _), h.len, Nat.sub_self] at he
      cases hr
      cases he
      refine ⟨hnew.of_heap (hsc _ hnp), hBs, ?_, World.ownsRow_nil _ _ _ _, (fun g e => by cases e), World.ownsRow_nil _ _ _ _, (fun g e => by cases e)⟩
      show (if wr.heap.size = wr.heap.size then _ else _) = _
      rw [if_pos rfl]
  · rw [List.map_append]
    refine List.nodup_append.2 ⟨h.nd, by simp, fun x hx y hy => ?_⟩
    obtain ⟨r, hr, rfl⟩ := List.mem_map.1 hx
    obtain rfl : y = wr.heap.size := by simpa using hy
    have := (h.ownlt (.inr (.inr ⟨r, hr, .inl rfl⟩))).2
    omega
  · rw [List.map_append]
    intro hm
    rcases List.mem_append.1 hm with hm | hm
    · exact h.np hm
    · obtain rfl : P = wr.heap.size := by simpa using hm
      omega

theorem two_new (w : World) (X Y : Obj) : ((w.alloc X).alloc Y).drew.heap[w.heap.size + 1]? = some Y := by
  show ((w.heap.push X).push Y)[w.heap.size + 1]? = _
  rw [Array.getElem?_push, if_pos (by simp)]
def noE : E := ⟨0, 0, 0, [], [], false⟩
def OpenP (w : World) (B P : Nat) (bk : Bk) (S : Nat → Prop) (who at_ : Int) (e : Ending) (w' : World) : Prop := e = .returned (.int .i64 (openB bk who at_).1) ∧ Acted w B P (openB bk who at_).2 S w'
set_option maxRecDepth 100000 in
set_option maxHeartbeats 4000000 in
theorem open_any (w : World) (B P : Nat) (bk : Bk) (S : Nat → Prop) (who at_ : Int) (h : BookAt w B P bk S) (hn : bk.es.length ≤ 1000000) :
    Calls Try.prog 8 #[.pointer (some ⟨P, 0, none⟩), .int .i64 who, .int .i64 at_] w (OpenP w B P bk S who at_) := by
  obtain ⟨tag, lv, rs, hI, hS⟩ := h
  have HBA := Lib.hid (show BookAt w B P bk S from ⟨tag, lv, rs, hI, hS⟩)
  obtain ⟨W0, hW0⟩ : ∃ W0, w.alloc (.cells #[.int .i64 who] 2) = W0 := ⟨_, rfl⟩
  have hbx : Block W0 w.heap.size [.int .i64 who] 2 := by rw [← hW0]; exact Block.new _ _ _
  have hb0 : Below w.heap.size w W0 := by rw [← hW0]; exact (Below.refl _ _).alloc (Nat.le_refl _) _
  have hz0 : W0.heap.size = w.heap.size + 1 := by rw [← hW0]; simp
  have hI0 := hI.below hb0
  obtain ⟨a, c, rfl⟩ := own_form hI.row
  have c0 := hI0.blk.cell (i := 0) rfl
  have c1 := hI0.blk.cell (i := 1) rfl
  have cb := hbx.cell (i := 0) rfl
  have hrow : Cells W0.heap.size W0 a (rs.map R.ptr) := own_cells_of hI0.row
  have hlen := hI.len
  have hct := cont_open (rs.map R.ptr) (fun j => decide ((bk.es.getD j noE).who = who)) a c w.heap.size W0.heap.size W0 hrow (Nat.le_refl _) (by rw [List.length_map, hlen]; omega) (fun w' j v hb hv => by
    rw [List.getElem?_map] at hv
    cases hr : rs[j]? with
    | none => rw [hr] at hv; cases hv
    | some r =>
      rw [hr] at hv
      cases hv
      obtain ⟨e, he⟩ : ∃ e, bk.es[j]? = some e := get_some (by have := (List.getElem?_eq_some_iff.1 hr).1; omega)
      rw [show (bk.es.getD j noE) = e from by rw [List.getD_eq_getElem?_getD, he]; rfl]
      exact open1_any w' B P bk tag _ rs j w.heap.size r e who (hI0.below hb) hr he ((hbx.below hb hbx.lt).cell rfl))
  rw [List.length_map] at hct
  have hany : (List.range rs.length).any (fun j => decide ((bk.es.getD j noE).who = who)) = bk.es.any (fun e => decide (e.who = who)) := by
    rw [hlen]; exact any_range (fun e : E => decide (e.who = who)) noE bk.es
  rw [hany] at hct
  have hOP : openB bk who at_ = if who < 1 ∨ at_ < 0 ∨ bk.last < at_ then (20, bk) else if bk.es.any (fun e => decide (e.who = who)) = true then (25, bk) else (0, ⟨bk.es ++ [⟨who, at_, 0, [], [], false⟩], bk.last⟩) := rfl
  obtain ⟨Q, hQ⟩ : ∃ Q, OpenP w B P bk S who at_ = Q := ⟨_, rfl⟩
  rw [hQ]
  have HQ := Lib.hid hQ
  have HOP := Lib.hid hOP
  have HCT := Lib.hid hct
  have HI0 := Lib.hid hI0
  have HBX := Lib.hid hbx
  have HB0 := Lib.hid hb0
  have HZ0 := Lib.hid hz0
  have HW0 := Lib.hid hW0
  have HSS := Lib.hid hS
  have HLN := Lib.hid hlen
  rw [← hW0] at c0 c1 cb
  obtain ⟨any, hany2⟩ : ∃ b, bk.es.any (fun e => decide (e.who = who)) = b := ⟨_, rfl⟩
  rw [hany2] at HCT HOP
  have hXP : w.heap.size ≠ P := by have := (hI.ownlt (.inl rfl)).2; omega
  clear hQ hOP hct hI0 hbx hb0 hz0 hW0 hrow hlen hany hany2 hI hS
  by_cases g1 : who < 1
  · have HR : Hid (openB bk who at_ = (20, bk)) := Lib.hid (by rw [HOP.out, if_pos (.inl g1)])
    clear HOP
    go_enter Try.func8, Try.ntmps8
    go_wp2_with fail
    rw [HW0.out]
    rw [← HQ.out]
    unfold OpenP
    rw [HR.out]
    exact ⟨by rfl, HBA.out.acted HB0.out⟩
  by_cases g2 : at_ < 0
  · have HR : Hid (openB bk who at_ = (20, bk)) := Lib.hid (by rw [HOP.out, if_pos (.inr (.inl g2))])
    clear HOP
    go_enter Try.func8, Try.ntmps8
    go_wp2_with fail
    rw [HW0.out]
    rw [← HQ.out]
    unfold OpenP
    rw [HR.out]
    exact ⟨by rfl, HBA.out.acted HB0.out⟩
  by_cases g3 : bk.last < at_
  · have HR : Hid (openB bk who at_ = (20, bk)) := Lib.hid (by rw [HOP.out, if_pos (.inr (.inr g3))])
    clear HOP
    go_enter Try.func8, Try.ntmps8
    go_wp2_with fail
    rw [HW0.out]
    rw [← HQ.out]
    unfold OpenP
    rw [HR.out]
    exact ⟨by rfl, HBA.out.acted HB0.out⟩
  have HOP2 : Hid (openB bk who at_ = if any = true then (25, bk) else (0, ⟨bk.es ++ [⟨who, at_, 0, [], [], false⟩], bk.last⟩)) := Lib.hid (by rw [HOP.out, if_neg (by omega)])
  clear HOP
  cases any with
  | true =>
    have HR : Hid (openB bk who at_ = (25, bk)) := Lib.hid (by rw [HOP2.out, if_pos rfl])
    clear HOP2
    go_enter Try.func8, Try.ntmps8
    go_wp2_with fail
    rw [HW0.out]
    refine HCT.out.mono ?_
    rintro e w1 ⟨rfl, hb1⟩
    have HB1 := Lib.hid (below_step HB0.out rfl hb1)
    clear hb1
    go_wp2_with fail
    rw [← HQ.out]
    unfold OpenP
    rw [HR.out]
    exact ⟨by rfl, HBA.out.acted HB1.out⟩
  | false =>
    have HR : Hid (openB bk who at_ = (0, ⟨bk.es ++ [⟨who, at_, 0, [], [], false⟩], bk.last⟩)) := Lib.hid (by rw [HOP2.out, if_neg (by decide)])
    clear HOP2
    obtain ⟨iP, siP, szP, s1P, s2P⟩ := info_parts Try.infoPtr
    go_enter Try.func8, Try.ntmps8
    go_wp2_with fail
    rw [HW0.out]
    refine HCT.out.mono ?_
    rintro e w1 ⟨rfl, hb1⟩
    have HB1 := Lib.hid (below_step HB0.out rfl hb1)
    have hI1 := HI0.out.below hb1
    have HI1 := Lib.hid hI1
    have d0 := hI1.blk.cell (i := 0) rfl
    have f0 := hI1.blk.free 0
    have db := (HBX.out.below hb1 HBX.out.lt).cell (i := 0) rfl
    have hPl := hI1.blk.lt
    have hXl : w.heap.size < w1.heap.size := by have := hb1.size; have := HZ0.out; omega
    have hBl : B ≤ w1.heap.size := Nat.le_trans hI1.base (Nat.le_of_lt hPl)
    have hLP : (Value.slice a rs.length c).ownBlock ≠ some P := fun e => by have := hI1.tl P e; rw [hI1.tP] at this; injection this with _ h2; cases h2
    have hrl : rs.length ≤ 1000000 := by have := HLN.out; omega
    clear hb1 hI1 c0 c1 cb
    go_wp2_with fail
    apply wp_mid (F := fun gg cap2 w3 => w3.setCell ⟨P, 0, none⟩ (.slice (some ⟨gg, 0, none⟩) (rs.length + 1) cap2)) (R := fun gg cap2 w3 => w3.ownsRow B 53 1 (.slice (some ⟨gg, 0, none⟩) (rs.length + 1) cap2) (rs.length + 1) (rs.map R.ptr ++ [.pointer (some ⟨w1.heap.size, 0, none⟩)]) ∧ (((w1.alloc (.cells (cellsE ⟨who, at_, 0, [], [], false⟩ (.slice none 0 0) (.slice none 0 0)).toArray 55)).alloc (.cells #[.pointer (some ⟨w1.heap.size, 0, none⟩)] 53)).drew).grownBy w3 (Value.slice a rs.length c).ownBlock ∧ ((Value.slice a rs.length c).ownBlock = some gg ∨ gg = w1.heap.size + 2))
    case h =>
      go_region_law (first | (refine step_append_lies _ (by rfl) _ _ _ (by rfl) B 53 iP _ 1 8 Try.underlying49 siP szP s1P s2P rfl (by omega) (.slice a rs.length c) rs.length (rs.map R.ptr) (by rfl) (((HI1.out.row.alloc _).alloc _).drew) ⟨w1.heap.size + 1, 0, none⟩ 1 1 [.pointer (some ⟨w1.heap.size, 0, none⟩)] (by rfl) (by rfl) (World.news_of_block (cs := #[.pointer (some ⟨w1.heap.size, 0, none⟩)]) (t := 53) (fr := (0, 0)) (two_new w1 _ _)) (by simp [Value.oneCell']) (by omega) (by unfold maxLen; omega) (by omega) (by simp; omega) (w1.heap.size + 2) (by simp) ?_; intro gg cap2 w3 hown1 hgrow hat hlt1; have hb3 := (HI1.out.blk.of_heap (w' := ((w1.alloc _).alloc _).drew) ((Below.heap_alloc _ _ _ (by simp; omega)).trans (Below.heap_alloc _ _ _ hPl))).of_heap (hgrow.block P (by show P < ((w1.alloc _).alloc _).heap.size; simp; omega) hLP.symm); have k0 := hb3.cell (i := 0) rfl; have g0 := hb3.free 0; clear hb3))
      all_goals exact ⟨gg, cap2, w3, ⟨hown1, hgrow, hat⟩, rfl, rfl⟩
    intro gg cap2 w3 hR
    obtain ⟨tag', hM⟩ := IsBook.more HI1.out hR.1 hR.2.1 hR.2.2
    have HM := Lib.hid hM
    have HRR := Lib.hid hR
    clear hM hR
    go_wp2_with fail
    rw [← HQ.out]
    unfold OpenP
    rw [HR.out]
    refine ⟨by rfl, ?_⟩
    have hz1 := HB1.out.size
    have hz3 : w1.heap.size + 2 ≤ w3.heap.size := by have := HRR.out.2.1.size; simpa using this
    have hlt3 : gg < w3.heap.size := (HRR.out.1.lt gg rfl).2
    refine ⟨⟨tag', _, _, HM.out, fun k hk => ?_⟩, ?_⟩
    · have hsz : (w3.setCell ⟨P, 0, none⟩ (.slice (some ⟨gg, 0, none⟩) (rs.length + 1) cap2)).heap.size = w3.heap.size := by simp [World.setCell]
      rcases hk with rfl | hk | ⟨r, hr, hk⟩
      · exact .inl (HSS.out _ (.inl rfl))
      · obtain rfl : gg = k := by injection hk
        rcases HRR.out.2.2 with e | e
        · exact .inl (HSS.out _ (.inr (.inl e)))
        · exact .inr ⟨by omega, by rw [hsz]; exact hlt3⟩
      · rcases List.mem_append.1 hr with hr | hr
        · exact .inl (HSS.out _ (.inr (.inr ⟨r, hr, hk⟩)))
        · obtain rfl : r = ⟨w1.heap.size, .slice none 0 0, .slice none 0 0⟩ := by simpa using hr
          rcases hk with rfl | hk | hk
          · exact .inr ⟨by omega, by rw [hsz]; show w1.heap.size < _; omega⟩
          · cases hk
          · cases hk
    · have h1 : KeptS S w w3 := (KeptS.of_below (S := S) ((((HB1.out.alloc hz1 _).alloc (by simp; omega) _)).drew)).grown HRR.out.2.1 (fun k e => .inl (HSS.out _ (.inr (.inl e))))
      exact h1.setCell (.inl (HSS.out _ (.inl rfl))) _
end Go.Proofs.Ytaonfacbmolklaa
