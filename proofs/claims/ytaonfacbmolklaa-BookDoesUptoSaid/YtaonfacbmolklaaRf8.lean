/- The reference's book: Close. Conditions: sizes are small; no end is negative. -/
import Derived.Test.YtaonfacbmolklaaRf7
namespace Go.Proofs.Ytaonfacbmolklaa
open Go.RowKit
set_option linter.unusedSimpArgs false
set_option linter.unusedVariables false

theorem IsRef.set_last {w : World} {B P : Nat} {last x : Int} {S : Nat → Prop} {lv : Value} {zs : List Z} (h : IsRef w B P last S lv zs) : IsRef (w.setCell ⟨P, 1, none⟩ (.int .i64 x)) B P x S lv zs := by
  have hsc : ∀ b, b ≠ P → (w.setCell ⟨P, 1, none⟩ (.int .i64 x)).heap[b]? = w.heap[b]? := fun b hb => Below.heap_setCell _ _ _ _ hb
  refine ⟨h.blk.set 1 _, h.base, h.sP, own_setCell h.row (fun e => (h.sl P e).2 rfl) _, h.sl, fun z hz => ?_⟩
  have hs : ∀ k, S k → ¬ NotRow P lv k → k < w.heap.size → (w.setCell ⟨P, 1, none⟩ (.int .i64 x)).heap[k]? = w.heap[k]? ∧ S k ∧ ¬ NotRow P lv k := fun k h1 h2 h3 => ⟨hsc k (fun e => h2 (.inl e)), h1, h2⟩
  exact ⟨(h.rows z hz).1.same hs, (h.rows z hz).2.same hs⟩
/-- The three cells that Close stores. -/
theorem IsRef.close {w u : World} {B P g n c k : Nat} {last end_ : Int} {out : Bool} {S : Nat → Prop} {zs : List Z} {z : Z} (h : IsRef w B P last S (.slice (some ⟨g, 0, none⟩) n c) zs) (hz : zs[k]? = some z) (hb : Below w.heap.size w u) :
    RActed w B P ⟨(zs.map fun z => z.1).modify k fun e => { e with end_ := end_, out := out }, end_⟩ S (((u.setCell ⟨g, k * 6 + 2, none⟩ (.int .i64 end_)).setCell ⟨g, k * 6 + 5, none⟩ (.bool out)).setCell ⟨P, 1, none⟩ (.int .i64 end_)) := by
  have hkl := (List.getElem?_eq_some_iff.1 hz).1
  have h0 := h.below hb
  have h1 := h0.put (q := 2) (v := .int .i64 end_) (z' := ({ z.1 with end_ := end_ }, z.2)) hz (Below.refl _ _) (fun _ h => h) h.base (by omega) (by rfl) (h0.rows z (List.mem_of_getElem? hz))
  have hz1 : (zs.set k ({ z.1 with end_ := end_ }, z.2))[k]? = some ({ z.1 with end_ := end_ }, z.2) := by rw [List.getElem?_set]; simp [hkl]
  have h2 := h1.put (q := 5) (v := .bool out) (z' := ({ z.1 with end_ := end_, out := out }, z.2)) hz1 (Below.refl _ _) (fun _ h => h) h.base (by omega) (by rfl) (h1.rows ({ z.1 with end_ := end_ }, z.2) (List.mem_of_getElem? hz1))
  have h3 := h2.set_last (x := end_)
  have hS : S g := (h.sl g rfl).1
  refine ⟨⟨_, _, h3.same (fun _ _ _ => rfl) (fun k h => .inl h) (grow_base h.base h.size), ?_⟩, (((KeptS.of_below hb).setCell (.inl hS) _).setCell (.inl hS) _).setCell (.inl h.sP) _⟩
  rw [List.set_set]
  exact map_set (f := fun e => { e with end_ := end_, out := out }) hz rfl
theorem RActed.shift {w u w' : World} {B P : Nat} {bk : Bk} {S : Nat → Prop} (h : RActed u B P bk S w') (hb : Below w.heap.size w u) (hB : B ≤ w.heap.size) : RActed w B P bk S w' := by
  obtain ⟨h1, h2⟩ := h
  have hz := hb.size
  obtain ⟨lv, zs, hI, hes⟩ := h1
  refine ⟨⟨lv, zs, hI.same (fun _ _ _ => rfl) (fun x hx => ?_) (fun x hx => ?_), hes⟩, (KeptS.of_below (S := S) hb).trans h2 fun x hx => .inl hx⟩
  · rcases hx with hx | hx
    · exact .inl hx
    · exact .inr ⟨by omega, hx.2⟩
  · rcases hx with hx | hx
    · exact hI.base x (.inl hx)
    · omega
def outN (es : List E) (k j : Nat) : Bool := (List.range j).any (conB es k)
def badN (es : List E) (k j : Nat) : Bool := (List.range j).any fun i => conB es k i && (inB es k || (match es[i]? with | some e => e.out | none => false))
theorem outN_succ (es : List E) (k j : Nat) : outN es k (j + 1) = (outN es k j || conB es k j) := by unfold outN; rw [List.range_succ, List.any_append]; simp
theorem badN_succ {es : List E} (k : Nat) {j : Nat} {e : E} (he : es[j]? = some e) : badN es k (j + 1) = (badN es k j || (conB es k j && (inB es k || e.out))) := by unfold badN; rw [List.range_succ, List.any_append]; simp [he]
theorem conB_at {es : List E} {k j : Nat} {e : E} (he : es[j]? = some e) (hp : 0 ≤ e.end_) : conB es k j = (decide (0 < e.end_) && besideB es j k && aheadB es k j) := by
  unfold conB
  rw [he]
  have : decide (¬ e.end_ = 0) = decide (0 < e.end_) := by rw [Bool.eq_iff_iff]; simp; omega
  simp only [this]
def RCloseP (w : World) (B P : Nat) (bk : Bk) (S : Nat → Prop) (who end_ : Int) (e : Ending) (w' : World) : Prop := e = .returned (.int .i64 (closeB bk who end_).1) ∧ RActed w B P (closeB bk who end_).2 S w'
set_option maxRecDepth 100000 in
set_option maxHeartbeats 8000000 in
theorem rclose_any (w : World) (B P : Nat) (bk : Bk) (S : Nat → Prop) (who end_ : Int) (h : RefAt w B P bk S) (hn : bk.es.length ≤ 1000000) (hsm : SmallB bk) (hpos : ∀ e ∈ bk.es, 0 ≤ e.end_) :
    Calls Try.prog 15 #[.pointer (some ⟨P, 0, none⟩), .int .i64 who, .int .i64 end_] w (RCloseP w B P bk S who end_) := by
  have HRA := Lib.hid h
  obtain ⟨lv, zs, hI, hes⟩ := h
  have HI := Lib.hid hI
  have HES := Lib.hid hes
  have hlen : zs.length = bk.es.length := by rw [← hes, List.length_map]
  have hsz : SmallZ zs := ⟨by omega, fun z hz => by
    have h := hsm.2 z.1 (by rw [← hes]; exact List.mem_map_of_mem hz)
    omega⟩
  have HN := Lib.hid hn
  obtain ⟨a, c, rfl⟩ := own_form hI.row
  have HF := Lib.hid (rfind_any w B P bk.last who S _ zs hI hsz.1)
  have HFL := Lib.hid (rflags_any w B P bk.last who S _ zs hI hsz)
  rw [hes] at HF HFL
  have HPL : Hid (closeB bk who end_ = match findB bk.es who with
    | none => (23, bk)
    | some k => if end_ ≤ bk.last then (21, bk)
      else if badB bk.es k then (7, (dropB bk who).2)
      else (0, ⟨forgetB (bk.es.modify k fun e => { e with end_ := end_, out := (List.range bk.es.length).any (conB bk.es k) }), end_⟩)) := Lib.hid rfl
  have HPB : Hid (placeB bk.es who = match findB bk.es who with | none => -1 | some k => (k : Int)) := Lib.hid rfl
  obtain ⟨Q, hQ⟩ : ∃ Q, RCloseP w B P bk S who end_ = Q := ⟨_, rfl⟩
  rw [hQ]
  have HQ := Lib.hid hQ
  cases hfd : findB bk.es who with
  | none =>
    have hp : placeB bk.es who = -1 := by rw [HPB.out, hfd]
    have HR : Hid (closeB bk who end_ = (23, bk)) := Lib.hid (by have h := HPL.out; rw [hfd] at h; exact h)
    rw [hp] at HF
    clear hI hes hlen hQ hfd hp hn hsz hsm hpos HFL
    go_enter Try.func15, Try.ntmps15
    go_wp2_with fail
    refine HF.out.mono ?_
    rintro e w1 ⟨rfl, rfl⟩
    go_wp2_with fail
    rw [← HQ.out]
    unfold RCloseP
    rw [HR.out]
    exact ⟨by rfl, HRA.out.acted (Below.refl _ _)⟩
  | some k =>
    have hp : placeB bk.es who = (k : Int) := by rw [HPB.out, hfd]
    have HR : Hid (closeB bk who end_ = if end_ ≤ bk.last then (21, bk)
      else if badB bk.es k then (7, (dropB bk who).2)
      else (0, ⟨forgetB (bk.es.modify k fun e => { e with end_ := end_, out := (List.range bk.es.length).any (conB bk.es k) }), end_⟩)) := Lib.hid (by have h := HPL.out; rw [hfd] at h; exact h)
    rw [hp] at HF
    obtain ⟨e, he, _, _⟩ := findB_some hfd
    have hkn : k < zs.length := by have := (List.getElem?_eq_some_iff.1 he).1; omega
    obtain ⟨z, hz⟩ : ∃ z, zs[k]? = some z := get_some hkn
    obtain ⟨g, c', hac, hg, hc⟩ := hI.cell hz
    injection hac with e1 e2 e3
    subst e1
    clear e2 e3
    have hPl := hI.blk.lt
    have hBl := hI.size
    have hk0 : (0 : Int) ≤ (k : Int) := by omega
    have hn1 : zs.length ≤ 1000000 := hsz.1
    have HZ := Lib.hid hz
    have c1 := hI.blk.cell (i := 1) rfl
    by_cases hel : end_ ≤ bk.last
    · have HR2 : Hid (closeB bk who end_ = (21, bk)) := Lib.hid (by rw [HR.out, if_pos hel])
      have hel' : decide (end_ ≤ bk.last) = true := decide_eq_true hel
      clear hI hes hlen hQ hfd hp hn hsz hsm hpos HFL hc hel
      go_enter Try.func15, Try.ntmps15
      go_wp2_with fail
      refine HF.out.mono ?_
      rintro e w1 ⟨rfl, rfl⟩
      go_wp2_with fail
      rw [← HQ.out]
      unfold RCloseP
      rw [HR2.out]
      exact ⟨by rfl, HRA.out.acted (Below.refl _ _)⟩
    have hel' : decide (end_ ≤ bk.last) = false := decide_eq_false hel
    have HR2 : Hid (closeB bk who end_ = if badB bk.es k then (7, (dropB bk who).2)
      else (0, ⟨forgetB (bk.es.modify k fun e => { e with end_ := end_, out := (List.range bk.es.length).any (conB bk.es k) }), end_⟩)) := Lib.hid (by rw [HR.out, if_neg hel])
    have HBE : Hid (∀ (u : Ext w.heap.size w) (j : Nat) (x : Z), zs[j]? = some x → Calls Try.prog 35 #[.pointer (some ⟨P, 0, none⟩), .int .i64 j, .int .i64 k] u.w fun e w' => e = .returned (.bool (besideB bk.es j k)) ∧ ∃ u' : Ext w.heap.size w, w' = u'.w) := Lib.hid (fun u j x hx => by rw [← hes]; exact ext_call u (Nat.le_refl _) (rbeside_any u.w B P bk.last S _ zs j k x z (hI.below u.below) hx hz hsz.1))
    have HAH : Hid (∀ (u : Ext w.heap.size w) (j : Nat) (x : Z), zs[j]? = some x → Calls Try.prog 36 #[.pointer (some ⟨P, 0, none⟩), .int .i64 k, .int .i64 j] u.w fun e w' => e = .returned (.bool (aheadB bk.es k j)) ∧ ∃ u' : Ext w.heap.size w, w' = u'.w) := Lib.hid (fun u j x hx => by rw [← hes]; exact ext_call u (Nat.le_refl _) (rahead_any u.w B P bk.last S _ zs k j z x (hI.below u.below) hz hx hsz.1 (hsz.2 z (List.mem_of_getElem? hz)).1 (hsz.2 x (List.mem_of_getElem? hx)).2))
    have c0 : ∀ u : Ext w.heap.size w, u.w.cell? ⟨P, 0, none⟩ = some (.slice (some ⟨g, 0, none⟩) zs.length c) := fun u => u.cell hPl (hI.blk.cell rfl)
    have HCK : Hid (∀ (j : Nat), j < zs.length → ∃ (x : Z), zs[j]? = some x ∧ (∀ u : Ext w.heap.size w, u.w.cell? ⟨g, j * 6 + 2, none⟩ = some (.int .i64 x.1.end_) ∧ u.w.cell? ⟨g, j * 6 + 5, none⟩ = some (.bool x.1.out)) ∧ bk.es[j]? = some x.1 ∧ 0 ≤ x.1.end_) := Lib.hid (fun j hj => by
      obtain ⟨x, hx⟩ : ∃ x, zs[j]? = some x := get_some hj
      obtain ⟨g2, c2', hac2, hg2, hc2⟩ := hI.cell hx
      injection hac2 with e1 _ _
      injection e1 with e1
      injection e1 with e1
      subst e1
      have hxe : bk.es[j]? = some x.1 := by rw [← hes, List.getElem?_map, hx]; rfl
      exact ⟨x, hx, fun u => ⟨u.cell hg2 (hc2 2 _ rfl), u.cell hg2 (hc2 5 _ rfl)⟩, hxe, hpos _ (List.mem_of_getElem? hxe)⟩)
    have HFK : Hid ((flagsB bk.es who).1 = inB bk.es k) := Lib.hid (by unfold flagsB; rw [hfd])
    have HDR := Lib.hid (fun u : Ext w.heap.size w => rdrop_any u.w B P bk S who (HRA.out.below u.below) HN.out)
    rw [HFK.out] at HFL
    obtain ⟨fo, hfo⟩ : ∃ b, (flagsB bk.es who).2 = b := ⟨_, rfl⟩
    rw [hfo] at HFL
    obtain ⟨iv, hiv⟩ : ∃ b, inB bk.es k = b := ⟨_, rfl⟩
    have HON := Lib.hid (outN_succ bk.es k)
    have HBN : Hid (∀ (j : Nat) e, bk.es[j]? = some e → badN bk.es k (j + 1) = (badN bk.es k j || (conB bk.es k j && (iv || e.out)))) := Lib.hid (fun j e he => by rw [badN_succ k he, hiv])
    rw [hiv] at HFL
    have HO0 : Hid (outN bk.es k 0 = false ∧ badN bk.es k 0 = false) := Lib.hid ⟨rfl, rfl⟩
    have HCN : Hid (∀ (j : Nat) e, bk.es[j]? = some e → 0 ≤ e.end_ → conB bk.es k j = (decide (0 < e.end_) && besideB bk.es j k && aheadB bk.es k j)) := Lib.hid (fun j e he hp => conB_at he hp)
    obtain ⟨n, hzn⟩ : ∃ n, zs.length = n := ⟨_, rfl⟩
    have HZN := Lib.hid hzn
    have HBA : Hid (badB bk.es k = badN bk.es k n) := Lib.hid (by rw [← hzn, hlen]; rfl)
    have HOA : Hid ((List.range bk.es.length).any (conB bk.es k) = outN bk.es k n) := Lib.hid (by rw [← hzn, hlen]; rfl)
    have HI2 := HI
    rw [hzn] at c0 hn1 hkn HI HCK
    obtain ⟨ON, hON⟩ : ∃ F, outN bk.es k = F := ⟨_, rfl⟩
    obtain ⟨BN, hBN⟩ : ∃ F, badN bk.es k = F := ⟨_, rfl⟩
    rw [hON] at HON HO0 HOA
    rw [hBN] at HBN HO0 HBA
    have cf : ∀ u : Ext w.heap.size w, ∀ q, u.w.frozen? ⟨P, q, none⟩ = false := fun u q => (u.below.frozen (p := ⟨P, q, none⟩) hPl).trans (hI.blk.free q)
    have gf : ∀ u : Ext w.heap.size w, ∀ q, u.w.frozen? ⟨g, q, none⟩ = false := fun u q => (u.below.frozen (p := ⟨g, q, none⟩) hg).trans (hI.row.frozenAt _)
    have gP : g ≠ P := (hI.sl g rfl).2
    have ck : ∀ u : Ext w.heap.size w, u.w.cell? ⟨g, k * 6 + 2, none⟩ = some (.int .i64 z.1.end_) ∧ u.w.cell? ⟨g, k * 6 + 5, none⟩ = some (.bool z.1.out) ∧ u.w.cell? ⟨P, 1, none⟩ = some (.int .i64 bk.last) := fun u => ⟨u.cell hg (hc 2 _ rfl), u.cell hg (hc 5 _ rfl), u.cell hPl c1⟩
    clear hI hes hlen hQ hfd hp hn hsz hsm hpos he hz hc hel hfo hiv hzn hON hBN HR HPL HPB HFK
    go_enter Try.func15, Try.ntmps15
    go_wp2_with fail
    refine HF.out.mono ?_
    rintro e w1 ⟨rfl, rfl⟩
    go_wp2_with fail
    refine HFL.out.mono ?_
    rintro e w1 ⟨rfl, hb1⟩
    obtain ⟨u1, hu1⟩ : ∃ u : Ext w.heap.size w, w1 = u.w := ⟨⟨w1, hb1⟩, rfl⟩
    rw [hu1]
    clear hb1 hu1
    go_wp2_with fail
    go_loopw [10, 11, 12] (fun ov bv jv wr => ∃ (j : Nat) (u : Ext w.heap.size w), jv = .int .i64 j ∧ ov = .bool (ON j) ∧ bv = .bool (BN j) ∧ j ≤ n ∧ wr = u.w) (fun _ _ jv _ => n - (intOf jv).toNat)
    case atStart => exact ⟨0, u1, rfl, by rw [HO0.out.1], by rw [HO0.out.2], Nat.zero_le _, rfl⟩
    case round =>
      obtain ⟨j, u, rfl, rfl, rfl, hj, rfl⟩ := hrel
      have d0 := c0 u
      by_cases hlt : j < n
      · have hlt' : (j : Int) < n := by omega
        have hj0 : (0 : Int) ≤ (j : Int) := by omega
        obtain ⟨x, hx, hxc, hxe, hxp⟩ := HCK.out j hlt
        have CB := Lib.hid (fun u => HBE.out u j x hx)
        have CK := Lib.hid (fun u => HAH.out u j x hx)
        have hcn := HCN.out j _ hxe hxp
        have hon := HON.out j
        have hbn := HBN.out j _ hxe
        generalize besideB bk.es j k = bb at *
        generalize aheadB bk.es k j = kk at *
        generalize conB bk.es k j = cc at *
        have HXC := Lib.hid hxc
        generalize x.1.end_ = xe at *
        generalize x.1.out = xo at *
        have x2 := (hxc u).1
        obtain ⟨bj, hbj⟩ : ∃ b, BN j = b := ⟨_, rfl⟩
        obtain ⟨oj, hoj⟩ : ∃ b, ON j = b := ⟨_, rfl⟩
        rw [hoj] at hon ⊢
        rw [hbj] at hbn ⊢
        clear hx hxc hxe hbj hoj
        by_cases h0 : 0 < xe
        · have h0' : decide (0 < xe) = true := decide_eq_true h0
          rw [h0'] at hcn
          cases bb with
          | false =>
            have HNO : Hid (ON (j + 1) = oj) := Lib.hid (by rw [hon, hcn]; simp)
            have HNB : Hid (BN (j + 1) = bj) := Lib.hid (by rw [hbn, hcn]; simp)
            clear hon hbn hcn h0
            go_wp2_with fail
            refine (CB.out u).mono ?_
            rintro e' w' ⟨rfl, u2, rfl⟩
            go_wp2_with fail
            go_roundw
            case rel => exact ⟨j + 1, u2, by go_num, by rw [HNO.out], by rw [HNB.out], by omega, rfl⟩
            case measure => simp [intOf]; omega
          | true =>
            cases kk with
            | false =>
              have HNO : Hid (ON (j + 1) = oj) := Lib.hid (by rw [hon, hcn]; simp)
              have HNB : Hid (BN (j + 1) = bj) := Lib.hid (by rw [hbn, hcn]; simp)
              clear hon hbn hcn h0
              go_wp2_with fail
              refine (CB.out u).mono ?_
              rintro e' w' ⟨rfl, u2, rfl⟩
              go_wp2_with fail
              refine (CK.out u2).mono ?_
              rintro e' w' ⟨rfl, u3, rfl⟩
              go_wp2_with fail
              go_roundw
              case rel => exact ⟨j + 1, u3, by go_num, by rw [HNO.out], by rw [HNB.out], by omega, rfl⟩
              case measure => simp [intOf]; omega
            | true =>
              have HNO : Hid (ON (j + 1) = true) := Lib.hid (by rw [hon, hcn]; simp)
              have HNB : Hid (BN (j + 1) = (bj || (iv || xo))) := Lib.hid (by rw [hbn, hcn]; simp)
              clear hon hbn hcn h0
              cases bj with
              | true =>
                go_wp2_with fail
                refine (CB.out u).mono ?_
                rintro e' w' ⟨rfl, u2, rfl⟩
                go_wp2_with fail
                refine (CK.out u2).mono ?_
                rintro e' w' ⟨rfl, u3, rfl⟩
                have x5 := (HXC.out u3).2
                have d3 := c0 u3
                go_wp2_with fail
                go_roundw
                case rel => exact ⟨j + 1, u3, by go_num, by rw [HNO.out], by rw [HNB.out]; rfl, by omega, rfl⟩
                case measure => simp [intOf]; omega
              | false =>
                cases iv with
                | true =>
                  go_wp2_with fail
                  refine (CB.out u).mono ?_
                  rintro e' w' ⟨rfl, u2, rfl⟩
                  go_wp2_with fail
                  refine (CK.out u2).mono ?_
                  rintro e' w' ⟨rfl, u3, rfl⟩
                  have x5 := (HXC.out u3).2
                  have d3 := c0 u3
                  go_wp2_with fail
                  go_roundw
                  case rel => exact ⟨j + 1, u3, by go_num, by rw [HNO.out], by rw [HNB.out]; rfl, by omega, rfl⟩
                  case measure => simp [intOf]; omega
                | false =>
                  go_wp2_with fail
                  refine (CB.out u).mono ?_
                  rintro e' w' ⟨rfl, u2, rfl⟩
                  go_wp2_with fail
                  refine (CK.out u2).mono ?_
                  rintro e' w' ⟨rfl, u3, rfl⟩
                  have x5 := (HXC.out u3).2
                  have d3 := c0 u3
                  go_wp2_with fail
                  go_roundw
                  case rel => exact ⟨j + 1, u3, by go_num, by rw [HNO.out], by rw [HNB.out]; rfl, by omega, rfl⟩
                  case measure => simp [intOf]; omega
        · have h0' : decide (0 < xe) = false := decide_eq_false h0
          rw [h0'] at hcn
          have HNO : Hid (ON (j + 1) = oj) := Lib.hid (by rw [hon, hcn]; simp)
          have HNB : Hid (BN (j + 1) = bj) := Lib.hid (by rw [hbn, hcn]; simp)
          clear hon hbn hcn h0
          go_wp2_with fail
          go_roundw
          case rel => exact ⟨j + 1, u, by go_num, by rw [HNO.out], by rw [HNB.out], by omega, rfl⟩
          case measure => simp [intOf]; omega
      · have hlt' : ¬ (j : Int) < n := by omega
        have hjn : j = n := by omega
        subst hjn
        obtain ⟨bj, hbj⟩ : ∃ b, BN j = b := ⟨_, rfl⟩
        obtain ⟨oj, hoj⟩ : ∃ b, ON j = b := ⟨_, rfl⟩
        rw [hbj] at HBA ⊢
        rw [hoj] at HOA ⊢
        clear hbj hoj
        cases bj with
        | true =>
          have HR3 : Hid (closeB bk who end_ = (7, (dropB bk who).2)) := Lib.hid (by rw [HR2.out, HBA.out, if_pos rfl])
          go_wp2_with fail
          refine (HDR.out u).mono ?_
          rintro e' w' ⟨rfl, hr⟩
          have HRD := Lib.hid hr
          clear hr
          go_wp2_with fail
          rw [← HQ.out]
          unfold RCloseP
          rw [HR3.out]
          exact ⟨by rfl, HRD.out.shift u.below hBl⟩
        | false =>
          have HR3 : Hid (closeB bk who end_ = (0, ⟨forgetB (bk.es.modify k fun e => { e with end_ := end_, out := oj }), end_⟩)) := Lib.hid (by rw [HR2.out, HBA.out, if_neg (by decide), HOA.out])
          have HCL := Lib.hid (HI.out.close (end_ := end_) (out := oj) HZ.out u.below)
          rw [HES.out] at HCL
          obtain ⟨k2, k5, k1⟩ := ck u
          have f2 := gf u (k * 6 + 2)
          have f5 := gf u (k * 6 + 5)
          have f1 := cf u 1
          go_wp2_with fail
          obtain ⟨w3, hw3⟩ : ∃ w3, ((u.w.setCell ⟨g, k * 6 + 2, none⟩ (.int .i64 end_)).setCell ⟨g, k * 6 + 5, none⟩ (.bool oj)).setCell ⟨P, 1, none⟩ (.int .i64 end_) = w3 := ⟨_, rfl⟩
          rw [hw3] at HCL ⊢
          clear hw3
          have HFG := Lib.hid (rforget_any w3 B P ⟨bk.es.modify k fun e => { e with end_ := end_, out := oj }, end_⟩ _ HCL.out.1 (by have := HN.out; show (bk.es.modify _ _).length ≤ _; rw [List.length_modify]; omega))
          refine HFG.out.mono ?_
          rintro e' w4 ⟨rfl, hr4⟩
          have HR4 := Lib.hid hr4
          clear hr4
          go_wp2_with fail
          rw [← HQ.out]
          unfold RCloseP
          rw [HR3.out]
          exact ⟨by rfl, HCL.out.trans HR4.out⟩
end Go.Proofs.Ytaonfacbmolklaa
