/- The program's book: forget. Conditions: sizes are small. -/
import Derived.Test.YtaonfacbmolklaaRt
namespace Go.Proofs.Ytaonfacbmolklaa
open Go.RowKit
set_option linter.unusedSimpArgs false
set_option linter.unusedVariables false

theorem forget1_any (w : World) (B P : Nat) (bk : Bk) (tag : Nat → Nat × Nat) (lv : Value) (rs : List R) (i k bx : Nat) (r s : R) (e t : E) (h : IsBook w B P bk tag lv rs) (hr : rs[i]? = some r) (he : bk.es[i]? = some e) (hs : rs[k]? = some s) (ht : bk.es[k]? = some t) (hbx : w.cell? ⟨bx, 0, none⟩ = some (.pointer (some ⟨s.p, 0, none⟩))) :
    Calls Try.prog 46 #[.pointer (some ⟨r.p, 0, none⟩), .pointer (some ⟨bx, 0, none⟩)] w fun e' w' => e' = .returned (.bool (decide (e.end_ = 0 ∧ e.at_ < t.end_))) ∧ Below w.heap.size w w' := by
  have hrE := h.ent i r e hr he
  have hsE := h.ent k s t hs ht
  have x2 := hrE.blk.cell (i := 2) rfl
  have x1 := hrE.blk.cell (i := 1) rfl
  have y2 := hsE.blk.cell (i := 2) rfl
  clear h hr he hs ht hrE hsE
  generalize e.end_ = ee at *
  generalize e.at_ = ea at *
  generalize t.end_ = te at *
  generalize r.p = rp at *
  generalize s.p = sp at *
  by_cases h0 : ee = 0
  · subst h0
    have HD : Hid (decide (ea < te) = decide ((0 : Int) = 0 ∧ ea < te)) := Lib.hid (by rw [Bool.eq_iff_iff]; simp)
    go_enter Try.func46, Try.ntmps46
    go_wp2_with fail
    go_quiet (fail)
    go_wp2_with fail
    go_ret
    exact ⟨by show Ending.returned (.bool (decide (ea < te))) = _; rw [HD.out], below_drewN (Below.refl _ _) _⟩
  · rw [decide_eq_false (fun h => h0 h.1)]
    have h0' : (ee == 0) = false := by simpa using h0
    clear h0
    go_enter Try.func46, Try.ntmps46
    go_wp2_with fail
    go_quiet (fail)
    go_wp2_with fail
    go_ret
    exact ⟨by rfl, below_drewN (Below.refl _ _) _⟩
/-- What is kept, with where it lies. -/
def keptZ (es : List E) (zs : List (R × E)) : List (R × E) := zs.filter fun z => keepB es z.2
theorem keptZ_snd (rs : List R) (es : List E) (h : rs.length = es.length) : (keptZ es (rs.zip es)).map Prod.snd = forgetB es := by
  unfold keptZ forgetB
  have h1 : ∀ (p : E → Bool) (zs : List (R × E)), (zs.filter fun z => p z.2).map Prod.snd = (zs.map Prod.snd).filter p := by
    intro p zs
    induction zs with
    | nil => rfl
    | cons z zs ih =>
      rw [List.filter_cons, List.map_cons, List.filter_cons]
      split <;> simp [ih]
  rw [h1, List.map_snd_zip (by omega)]
theorem zip_get {rs : List R} {es : List E} {j : Nat} {r : R} {e : E} (hr : rs[j]? = some r) (he : es[j]? = some e) : (rs.zip es)[j]? = some (r, e) := by
  rw [List.getElem?_zip_eq_some]
  exact ⟨hr, he⟩
theorem keptZ_mem {es : List E} {zs : List (R × E)} {z : R × E} (h : z ∈ keptZ es zs) : z ∈ zs := (List.mem_filter.1 h).1
theorem keptZ_take {es : List E} {zs : List (R × E)} {j : Nat} {z : R × E} (h : zs[j]? = some z) : keptZ es (zs.take (j + 1)) = if keepB es z.2 then keptZ es (zs.take j) ++ [z] else keptZ es (zs.take j) := by
  unfold keptZ
  rw [take_succ_some h, List.filter_append, List.filter_cons]
  split <;> simp
/-- The book whose list is a new row with some of its entries. -/
theorem IsBook.less {w w1 : World} {B P n c : Nat} {bk : Bk} {tag : Nat → Nat × Nat} {lv : Value} {rs : List R} {a : Option Addr} {zs : List (R × E)} (h : IsBook w B P bk tag lv rs) (hb : Below w.heap.size w w1) (hz : zs.Sublist (rs.zip bk.es)) (hn : zs.length = n)
    (hown : w1.ownsRow w.heap.size 53 1 (.slice a n c) n (zs.map fun z => z.1.ptr)) :
    ∃ tag', IsBook (w1.setCell ⟨P, 0, none⟩ (.slice a n c)) B P ⟨zs.map Prod.snd, bk.last⟩ tag' (.slice a n c) (zs.map Prod.fst) := by
  have hI := h.below hb
  have hBw : B ≤ w.heap.size := Nat.le_trans h.base (Nat.le_of_lt h.blk.lt)
  have hP := (h.ownlt (.inl rfl)).2
  have hnew : ∀ g, (Value.slice a n c).ownBlock = some g → w.heap.size ≤ g := fun g e => (hown.lt g e).1
  have hsc : ∀ q, q ≠ P → (w1.setCell ⟨P, 0, none⟩ (.slice a n c)).heap[q]? = w1.heap[q]? := fun q hq => Below.heap_setCell _ _ _ _ hq
  have hmem : ∀ z ∈ zs, ∃ i : Nat, rs[i]? = some z.1 ∧ bk.es[i]? = some z.2 := fun z hm => by
    obtain ⟨i, hi⟩ := List.mem_iff_getElem?.1 (hz.subset hm)
    rw [List.getElem?_zip_eq_some] at hi
    exact ⟨i, hi.1, hi.2⟩
  refine ⟨fun q => if (Value.slice a n c).ownBlock = some q then (P, 1) else tag q, ?_⟩
  have htag : ∀ q, q < w.heap.size → (if (Value.slice a n c).ownBlock = some q then (P, 1) else tag q) = tag q := fun q hq => if_neg (fun e => by have := hnew q e; omega)
  refine ⟨hI.blk.set 0 _, h.base, (htag P hP).trans h.tP, ?_, fun g e => if_pos e, by simp, ?_, ?_, ?_⟩
  · rw [List.length_map, hn, List.map_map]
    exact own_setCell (own_mono hown hBw) (fun e => by have := hnew P e; omega) _
  · intro i r e hr he
    rw [List.getElem?_map] at hr he
    cases hzi : zs[i]? with
    | none => rw [hzi] at hr; cases hr
    | some z =>
      rw [hzi] at hr he
      cases hr
      cases he
      obtain ⟨i0, h1, h2⟩ := hmem z (List.mem_of_getElem? hzi)
      have hE := hI.ent i0 z.1 z.2 h1 h2
      have hlt : ∀ q, (q = z.1.p ∨ z.1.v1.ownBlock = some q ∨ z.1.v2.ownBlock = some q) → q < w.heap.size ∧ q ≠ P := fun q hq => by
        have hE0 := h.ent i0 z.1 z.2 h1 h2
        refine ⟨(h.ownlt (.inr (.inr ⟨z.1, List.mem_of_getElem? h1, hq⟩))).2, fun e => ?_⟩
        have ht : (tag q).1 = z.1.p := by
          rcases hq with rfl | hq | hq
          · rw [hE0.tp]
          · rw [hE0.t1 q hq]
          · rw [hE0.t2 q hq]
        rw [e, h.tP] at ht
        exact h.np (by rw [show P = z.1.p from ht]; exact List.mem_map_of_mem (List.mem_of_getElem? h1))
      have hE2 : IsE (w1.setCell ⟨P, 0, none⟩ (.slice a n c)) B tag z.1 z.2 := hE.same fun q hq => hsc q (hlt q hq).2
      refine ⟨hE2.blk, hE2.base, (htag _ (hlt _ (.inl rfl)).1).trans hE2.tp, hE2.o1, fun g e => (htag g (hlt g (.inr (.inl e))).1).trans (hE2.t1 g e), hE2.o2, fun g e => (htag g (hlt g (.inr (.inr e))).1).trans (hE2.t2 g e)⟩
  · have h1 : (zs.map Prod.fst).Sublist rs := by
      have := hz.map Prod.fst
      rwa [List.map_fst_zip (by have := h.len; omega)] at this
    exact (h1.map R.p).nodup h.nd
  · intro hm
    have h1 : (zs.map Prod.fst).Sublist rs := by
      have := hz.map Prod.fst
      rwa [List.map_fst_zip (by have := h.len; omega)] at this
    exact h.np ((h1.map R.p).subset hm)
theorem new_drew (w : World) (X : Obj) : (w.alloc X).drew.heap[w.heap.size]? = some X := by
  show (w.heap.push X)[w.heap.size]? = _
  simp
theorem kept_more {w W2 w3 : World} {t size n : Nat} {v : Value} {xs : List Value} (h : Below w.heap.size w W2) (ho : W2.ownsRow w.heap.size t size v n xs) (hg : W2.grownBy w3 v.ownBlock) : Below w.heap.size w w3 :=
  ⟨hg.os.trans h.os, hg.tape.trans h.tape, hg.output.trans h.output, Nat.le_trans h.size hg.size, fun k hk => by
    rw [hg.block k (Nat.lt_of_lt_of_le hk h.size) (fun e => by have := (ho.lt k e.symm).1; omega), h.block k hk]⟩
theorem forget_done {w w3 : World} {B P n cap : Nat} {a2 : Option Addr} {bk : Bk} {S : Nat → Prop} {tag : Nat → Nat × Nat} {lv : Value} {rs : List R} (h : IsBook w B P bk tag lv rs) (hS : ∀ k, OwnB P lv rs k → S k) (hb : Below w.heap.size w w3) (zs : List (R × E)) (hzs : rs.zip bk.es = zs)
    (hown : w3.ownsRow w.heap.size 53 1 (.slice a2 n cap) n ((keptZ bk.es zs).map fun z => z.1.ptr)) (hn : (keptZ bk.es zs).length = n) :
    Acted w B P ⟨forgetB bk.es, bk.last⟩ S (w3.setCell ⟨P, 0, none⟩ (.slice a2 n cap)) := by
  obtain ⟨tag', h1⟩ := h.less (zs := keptZ bk.es zs) hb (by rw [hzs]; exact List.filter_sublist) hn hown
  have h2 : (keptZ bk.es zs).map Prod.snd = forgetB bk.es := by rw [← hzs]; exact keptZ_snd rs bk.es h.len
  rw [h2] at h1
  have hsz : (w3.setCell ⟨P, 0, none⟩ (.slice a2 n cap)).heap.size = w3.heap.size := by simp [World.setCell]
  refine ⟨⟨tag', _, _, h1, fun k hk => ?_⟩, (KeptS.of_below hb).setCell (.inl (hS _ (.inl rfl))) _⟩
  rcases hk with rfl | hk | ⟨r, hr, hk⟩
  · exact .inl (hS _ (.inl rfl))
  · have := hown.lt k hk
    exact .inr ⟨this.1, by rw [hsz]; exact this.2⟩
  · obtain ⟨z, hz, rfl⟩ := List.mem_map.1 hr
    have hz2 := keptZ_mem hz
    rw [← hzs] at hz2
    exact .inl (hS _ (.inr (.inr ⟨z.1, (List.of_mem_zip hz2).1, hk⟩)))
set_option maxRecDepth 100000 in
set_option maxHeartbeats 4000000 in
theorem forget_any (w : World) (B P : Nat) (bk : Bk) (S : Nat → Prop) (h : BookAt w B P bk S) (hn : bk.es.length ≤ 1000000) :
    Calls Try.prog 34 #[.pointer (some ⟨P, 0, none⟩)] w fun e w' => e = .returned (.tuple #[]) ∧ Acted w B P ⟨forgetB bk.es, bk.last⟩ S w' := by
  obtain ⟨tag, lv, rs, hI, hS⟩ := h
  obtain ⟨a, c, rfl⟩ := own_form hI.row
  obtain ⟨iP, siP, szP, s1P, s2P⟩ := info_parts Try.infoPtr
  have hPlt := hI.blk.lt
  have HI := Lib.hid hI
  have HS := Lib.hid hS
  have c0 : ∀ u : Ext w.heap.size w, u.w.cell? ⟨P, 0, none⟩ = some (.slice a rs.length c) := fun u => u.cell hPlt (hI.blk.cell rfl)
  have HPT : Hid (∀ (j : Nat) (r : R), rs[j]? = some r → ∃ lb, a = some ⟨lb, 0, none⟩ ∧ ∀ u : Ext w.heap.size w, u.w.cell? ⟨lb, j, none⟩ = some (.pointer (some ⟨r.p, 0, none⟩))) := Lib.hid (fun j r hr => by
    obtain ⟨b, c', h1, h2⟩ := hI.ptr hr
    injection h1 with h1
    have hrl : b < w.heap.size := (hI.row.lt b (by rw [h1]; rfl)).2
    exact ⟨b, h1, fun u => u.cell hrl h2⟩)
  have HCT : Hid (∀ (u : World), Below w.heap.size w u → ∀ (j : Nat) (s : R) (t : E) (bx : Nat), w.heap.size ≤ bx → bx < u.heap.size → rs[j]? = some s → bk.es[j]? = some t → Block u bx [.pointer (some ⟨s.p, 0, none⟩)] 53 →
      Calls Try.prog 25 #[.slice a rs.length c, .func (.func 46) #[] #[.pointer (some ⟨bx, 0, none⟩)]] u fun e w' => e = .returned (.bool (bk.es.any fun v => decide (v.end_ = 0 ∧ v.at_ < t.end_))) ∧ Below u.heap.size u w') := Lib.hid (fun u hb j s t bx hbx1 hbx2 hs ht hblk => by
    have hrow : Cells w.heap.size u a (rs.map R.ptr) := (own_cells_of hI.row).below hb (Nat.le_refl _)
    have h1 := cont_forget (rs.map R.ptr) (fun i => decide ((bk.es.getD i noE).end_ = 0 ∧ (bk.es.getD i noE).at_ < t.end_)) a c bx w.heap.size u hrow hb.size (by rw [List.length_map, hI.len]; omega) (fun w' i v hb' hv => by
      rw [List.getElem?_map] at hv
      cases hr : rs[i]? with
      | none => rw [hr] at hv; cases hv
      | some r =>
        rw [hr] at hv
        cases hv
        obtain ⟨e, he⟩ : ∃ e, bk.es[i]? = some e := get_some (by have := (List.getElem?_eq_some_iff.1 hr).1; have := hI.len; omega)
        rw [show (bk.es.getD i noE) = e from by rw [List.getD_eq_getElem?_getD, he]; rfl]
        exact forget1_any w' B P bk tag _ rs i j bx r s e t (hI.below (hb.trans (hb'.mono hb.size))) hr he hs ht ((hblk.below hb' hbx2).cell rfl))
    rw [List.length_map] at h1
    have hany : (List.range rs.length).any (fun i => decide ((bk.es.getD i noE).end_ = 0 ∧ (bk.es.getD i noE).at_ < t.end_)) = bk.es.any (fun v => decide (v.end_ = 0 ∧ v.at_ < t.end_)) := by
      rw [hI.len]; exact any_range (fun v : E => decide (v.end_ = 0 ∧ v.at_ < t.end_)) noE bk.es
    rwa [hany] at h1)
  obtain ⟨n, hl⟩ : ∃ n, rs.length = n := ⟨_, rfl⟩
  have hen : bk.es.length = n := by rw [← hI.len, hl]
  rw [hl] at c0 HCT
  have hn' : n ≤ 1000000 := by omega
  have HL := Lib.hid hl
  have HEN := Lib.hid hen
  obtain ⟨zs, hzs⟩ : ∃ zs, rs.zip bk.es = zs := ⟨_, rfl⟩
  have HZS := Lib.hid hzs
  obtain ⟨u0, hu0⟩ := Ext.start w.heap.size w
  have HU := Lib.hid hu0
  clear hI hS hPlt hl hen hn hu0 hzs
  go_enter Try.func34, Try.ntmps34
  rw [HU.out]
  go_wp2_with fail
  go_loopw [2, 10] (fun kv jv wr => ∃ (j n2 : Nat) (a2 : Option Addr) (c2 : Nat) (u : Ext w.heap.size w), jv = .int .i64 j ∧ kv = .slice a2 n2 c2 ∧ j ≤ n ∧ wr = u.w ∧ n2 ≤ j ∧ Hid (u.w.ownsRow w.heap.size 53 1 (.slice a2 n2 c2) n2 ((keptZ bk.es (zs.take j)).map fun z => z.1.ptr) ∧ (keptZ bk.es (zs.take j)).length = n2)) (fun _ jv _ => n - (intOf jv).toNat)
  case atStart => exact ⟨0, 0, none, 0, u0, rfl, rfl, Nat.zero_le _, rfl, Nat.le_refl _, Lib.hid ⟨World.ownsRow_nil _ _ _ _, rfl⟩⟩
  case round =>
    obtain ⟨j, n2, a2, c2, u, rfl, rfl, hj, rfl, hn2, HO⟩ := hrel
    by_cases hlt : j < n
    · have hlt' : (j : Int) < n := by omega
      have hj0 : (0 : Int) ≤ (j : Int) := by omega
      obtain ⟨r, hr⟩ : ∃ r, rs[j]? = some r := get_some (by have := HL.out; omega)
      obtain ⟨e, he⟩ : ∃ e, bk.es[j]? = some e := get_some (by have := HEN.out; omega)
      obtain ⟨lb, rfl, hlb⟩ := HPT.out j r hr
      have hub := u.below
      have hE := (HI.out.below hub).ent j r e hr he
      have hkt := keptZ_take (es := bk.es) (zs := zs) (by rw [← HZS.out]; exact zip_get hr he)
      obtain ⟨W1, hW1⟩ : ∃ W1, u.w.alloc (.cells #[.pointer (some ⟨r.p, 0, none⟩)] 53) = W1 := ⟨_, rfl⟩
      have hb1 : Below u.w.heap.size u.w W1 := by rw [← hW1]; exact (Below.refl _ _).alloc (Nat.le_refl _) _
      have hX1 : Block W1 u.w.heap.size [.pointer (some ⟨r.p, 0, none⟩)] 53 := by rw [← hW1]; exact Block.new _ _ _
      have hbw1 : Below w.heap.size w W1 := hub.trans (hb1.mono hub.size)
      have x2 := (hE.blk.below hb1 hE.blk.lt).cell (i := 2) rfl
      have xb := hX1.cell (i := 0) rfl
      have d0 := c0 ⟨W1, hbw1⟩
      change W1.cell? _ = _ at d0
      have hCT := HCT.out W1 hbw1 j r e u.w.heap.size hub.size hX1.lt hr he hX1
      have hkeep : keepB bk.es e = (decide (e.end_ = 0) || bk.es.any fun v => decide (v.end_ = 0 ∧ v.at_ < e.end_)) := rfl
      simp only [hkeep] at hkt
      generalize (bk.es.any fun v => decide (v.end_ = 0 ∧ v.at_ < e.end_)) = X at *
      generalize e.end_ = ee at *
      have HC := Lib.hid hCT
      have HKT := Lib.hid hkt
      have HB1 := Lib.hid hb1
      have HBW1 := Lib.hid hbw1
      have HX1 := Lib.hid hX1
      have HW1 := Lib.hid hW1
      have HUS := Lib.hid hub.size
      have HO1 : Hid (W1.ownsRow w.heap.size 53 1 (.slice a2 n2 c2) n2 ((keptZ bk.es (zs.take j)).map fun z => z.1.ptr)) := Lib.hid (own_of_heap HO.out.1 fun k e => hb1.block k (HO.out.1.lt k e).2)
      rw [← hW1] at x2 xb d0
      clear hr he hub hE hkt hb1 hX1 hbw1 hW1 hCT hkeep
      -- what is done where the entry is kept, and where it is not
      by_cases h0 : ee = 0
      · have HKT2 : Hid (keptZ bk.es (zs.take (j + 1)) = keptZ bk.es (zs.take j) ++ [(r, e)]) := Lib.hid (by rw [HKT.out, if_pos (by rw [decide_eq_true h0]; rfl)])
        subst h0
        have HZ1 := HUS
        go_wp2_with (at_builtin; refine wpList_append_lies _ rfl _ _ 49 rfl w.heap.size 53 iP _ 1 8 Try.underlying49 siP szP s1P s2P rfl (by omega) (.slice a2 n2 c2) n2 ((keptZ bk.es (zs.take j)).map fun z => z.1.ptr) rfl ((show (u.w.alloc (.cells #[.pointer (some ⟨r.p, 0, none⟩)] 53)).ownsRow w.heap.size 53 1 (.slice a2 n2 c2) n2 ((keptZ bk.es (zs.take j)).map fun z => z.1.ptr) from by rw [HW1.out]; exact HO1.out).alloc _) ⟨u.w.heap.size + 1, 0, none⟩ 1 1 [.pointer (some ⟨r.p, 0, none⟩)] rfl rfl (World.news_of_block (cs := #[.pointer (some ⟨r.p, 0, none⟩)]) (t := 53) (fr := (0, 0)) (two_new u.w _ _)) (by simp [Value.oneCell']) (by omega) (by unfold maxLen; omega) (by omega) (by have := HUS.out; have := HZ1.out; simp; omega) (u.w.heap.size + 2) (by simp) ?_)
        intro g cap w3 hown hg hat hlt3
        have hBE : Below w.heap.size w w3 := kept_more (((show Below w.heap.size w (u.w.alloc (.cells #[.pointer (some ⟨r.p, 0, none⟩)] 53)) from by rw [HW1.out]; exact HBW1.out).alloc (by have := HUS.out; simp; omega) _)) ((show (u.w.alloc (.cells #[.pointer (some ⟨r.p, 0, none⟩)] 53)).ownsRow w.heap.size 53 1 (.slice a2 n2 c2) n2 ((keptZ bk.es (zs.take j)).map fun z => z.1.ptr) from by rw [HW1.out]; exact HO1.out).alloc _) hg
        have HO3 : Hid (w3.ownsRow w.heap.size 53 1 (.slice (some ⟨g, 0, none⟩) (n2 + 1) cap) (n2 + 1) ((keptZ bk.es (zs.take (j + 1))).map fun z => z.1.ptr) ∧ (keptZ bk.es (zs.take (j + 1))).length = n2 + 1) := Lib.hid (by rw [HKT2.out, List.map_append, List.length_append]; exact ⟨hown, by have := HO.out.2; simp; omega⟩)
        have HBE := Lib.hid hBE
        clear hown hg hat hlt3 hBE
        go_wp2_with fail
        go_roundw
        case rel => exact ⟨j + 1, n2 + 1, some ⟨g, 0, none⟩, cap, ⟨w3, HBE.out⟩, by go_num, rfl, by omega, rfl, by omega, HO3⟩
        case measure => simp [intOf]; omega
      · have HKT2 : Hid (keptZ bk.es (zs.take (j + 1)) = if X then keptZ bk.es (zs.take j) ++ [(r, e)] else keptZ bk.es (zs.take j)) := Lib.hid (by have h := HKT.out; rwa [decide_eq_false h0, Bool.false_or] at h)
        clear HKT
        have h0' : (ee == 0) = false := by simpa using h0
        clear h0
        go_wp2_with fail
        rw [HW1.out]
        refine HC.out.mono ?_
        rintro e' w1 ⟨rfl, hb2⟩
        have hBW2 : Below w.heap.size w w1 := HBW1.out.trans (hb2.mono (by have := HB1.out.size; have := HUS.out; omega))
        have HO2 : Hid (w1.ownsRow w.heap.size 53 1 (.slice a2 n2 c2) n2 ((keptZ bk.es (zs.take j)).map fun z => z.1.ptr)) := Lib.hid (own_of_heap HO1.out fun k e => hb2.block k (HO1.out.lt k e).2)
        have xb2 := (HX1.out.below hb2 HX1.out.lt).cell (i := 0) rfl
        have HBW2 := Lib.hid hBW2
        have HZ1 : Hid (w.heap.size ≤ w1.heap.size) := Lib.hid hBW2.size
        clear hBW2 hb2 xb x2 d0
        cases X with
        | true =>
          have HKT3 : Hid (keptZ bk.es (zs.take (j + 1)) = keptZ bk.es (zs.take j) ++ [(r, e)]) := Lib.hid (by rw [HKT2.out, if_pos rfl])
          go_wp2_with (at_builtin; refine wpList_append_lies _ rfl _ _ 49 rfl w.heap.size 53 iP _ 1 8 Try.underlying49 siP szP s1P s2P rfl (by omega) (.slice a2 n2 c2) n2 ((keptZ bk.es (zs.take j)).map fun z => z.1.ptr) rfl (HO2.out.alloc _) ⟨w1.heap.size, 0, none⟩ 1 1 [.pointer (some ⟨r.p, 0, none⟩)] rfl rfl (World.news_of_block (cs := #[.pointer (some ⟨r.p, 0, none⟩)]) (t := 53) (fr := (0, 0)) (new_drew w1 _)) (by simp [Value.oneCell']) (by omega) (by unfold maxLen; omega) (by omega) (by have := HUS.out; have := HZ1.out; simp; omega) (w1.heap.size + 1) (by simp) ?_)
          intro g cap w3 hown hg hat hlt3
          have hBE : Below w.heap.size w w3 := kept_more ((HBW2.out.alloc HZ1.out _)) (HO2.out.alloc _) hg
          have HO3 : Hid (w3.ownsRow w.heap.size 53 1 (.slice (some ⟨g, 0, none⟩) (n2 + 1) cap) (n2 + 1) ((keptZ bk.es (zs.take (j + 1))).map fun z => z.1.ptr) ∧ (keptZ bk.es (zs.take (j + 1))).length = n2 + 1) := Lib.hid (by rw [HKT3.out, List.map_append, List.length_append]; exact ⟨hown, by have := HO.out.2; simp; omega⟩)
          have HBE := Lib.hid hBE
          clear hown hg hat hlt3 hBE
          go_wp2_with fail
          go_roundw
          case rel => exact ⟨j + 1, n2 + 1, some ⟨g, 0, none⟩, cap, ⟨w3, HBE.out⟩, by go_num, rfl, by omega, rfl, by omega, HO3⟩
          case measure => simp [intOf]; omega
        | false =>
          have HO3 : Hid (w1.ownsRow w.heap.size 53 1 (.slice a2 n2 c2) n2 ((keptZ bk.es (zs.take (j + 1))).map fun z => z.1.ptr) ∧ (keptZ bk.es (zs.take (j + 1))).length = n2) := Lib.hid (by rw [HKT2.out, if_neg (by decide)]; exact ⟨HO2.out, HO.out.2⟩)
          go_wp2_with fail
          go_roundw
          case rel => exact ⟨j + 1, n2, a2, c2, ⟨w1, HBW2.out⟩, by go_num, rfl, by omega, rfl, by omega, HO3⟩
          case measure => simp [intOf]; omega
    · have hlt' : ¬ (j : Int) < n := by omega
      have hjn : j = n := by omega
      subst hjn
      have hzl : zs.length = j := by rw [← HZS.out, List.length_zip, HL.out, HEN.out]; omega
      have HOF : Hid (u.w.ownsRow w.heap.size 53 1 (.slice a2 n2 c2) n2 ((keptZ bk.es zs).map fun z => z.1.ptr) ∧ (keptZ bk.es zs).length = n2) := Lib.hid (by have h := HO.out; rwa [List.take_of_length_le (by omega)] at h)
      have d0 := c0 u
      have f0 := (HI.out.below u.below).blk.free 0
      clear hzl c0
      go_wp2_with fail
      go_end0
      rw [← HU.out]
      exact ⟨by rfl, forget_done HI.out HS.out u.below zs HZS.out HOF.out.1 HOF.out.2⟩
end Go.Proofs.Ytaonfacbmolklaa
