/- Layer 9: the reference's Cut, Drop, Open. Conditions: the network is there. -/
import Derived.Test.YteopfknoemifgaaQ3
namespace Go.Proofs.Yteopfknoemifgaa
open Go.RowKit
set_option linter.unusedSimpArgs false
set_option linter.unusedVariables false

/-- A cell of one line is stored, nothing is made. -/
theorem RefX.put0 {w : World} {B P g n c i q : Nat} {S : Nat → Prop} {T : Nat → Nat} {zs : List Zn} {z z' : Zn} {v : Value} (h : RefX w B P S T (.slice (some ⟨g, 0, none⟩) n c) zs) (hz : zs[i]? = some z)
    (hq : q < 4) (hc : cellsN z' = (cellsN z).set q v)
    (h1 : Win w (fun k => S k ∧ T k = 2 * i + 2) z'.v1 z'.x.way) (h2 : Win w (fun k => S k ∧ T k = 2 * i + 3) z'.v2 z'.x.back) :
    RefX (w.setCell ⟨g, i * 4 + q, none⟩ v) B P S T (.slice (some ⟨g, 0, none⟩) n c) (zs.set i z') := by
  have hB : B ≤ w.heap.size := by have := h.bd P h.sP; omega
  have := h.put (t0 := 2 * i + 2) hz (KeptP.refl _ w) (.inl rfl) hq hc hB (h1.same fun k hk hlt => ⟨rfl, .inl hk.1, by rw [if_pos hlt]; exact hk.2⟩) (h2.same fun k hk hlt => ⟨rfl, .inl hk.1, by rw [if_pos hlt]; exact hk.2⟩)
  have hS : ∀ k, (S k ∨ w.heap.size ≤ k ∧ k < w.heap.size) ↔ S k := fun k => ⟨fun hk => hk.elim id (fun h => by omega), .inl⟩
  have hsz : (w.setCell ⟨g, i * 4 + q, none⟩ v).heap.size = w.heap.size := by simp [World.setCell]
  have hTk : ∀ k, (S k ∨ w.heap.size ≤ k ∧ k < w.heap.size) → (if k < w.heap.size then T k else 2 * i + 2) = T k := fun k hk => by rw [if_pos (h.bd k ((hS k).1 hk)).2]
  exact ⟨fun k hk => this.bd k (.inl hk), h.sP, h.tP, this.blk, this.row, fun g e => ⟨((hS _).1 (this.sl g e).1), (h.sl g e).2⟩, fun j y hy => ⟨(this.win j y hy).1.same fun k hk _ => ⟨rfl, (hS k).1 hk.1, by rw [← hTk k hk.1]; exact hk.2⟩, (this.win j y hy).2.same fun k hk _ => ⟨rfl, (hS k).1 hk.1, by rw [← hTk k hk.1]; exact hk.2⟩⟩⟩
theorem KeptP.todrew {w w' : World} {S : Nat → Prop} (h : KeptP S w w') : KeptP S w w'.drew := ⟨h.os, h.tape, h.output, h.size, h.block⟩
theorem RefX.drew {w : World} {B P : Nat} {S : Nat → Prop} {T : Nat → Nat} {lv : Value} {zs : List Zn} (h : RefX w B P S T lv zs) : RefX w.drew B P S T lv zs := h.of_heap (Nat.le_refl _) fun _ _ => rfl

set_option maxRecDepth 100000 in
set_option maxHeartbeats 4000000 in
theorem rcut_any {w : World} {B P : Nat} {S : Nat → Prop} {N : List (Option Line)} (h : RefRep w B P S N) (hn : N.length ≤ 140737488351232) (c k : Int) (hk : k ≤ 9223372036854775807)
    (hz : ∀ (i : Nat) (x : Line), N[i]? = some (some x) → x.way.length ≤ 140737488351232) :
    Calls Try.prog 30 #[.pointer (some ⟨P, 0, none⟩), .int .i64 c, .int .i64 k] w fun e w' => e = .returned (.int .i64 (cutE N c k)) ∧ RMoved B P S (cutN N c k) w w' := by
  have HS := Lib.hid (RMoved.same h (Below.refl _ w))
  have HL := Lib.hid (rlive_any h hn c)
  obtain ⟨T, lv, zs, h, hN⟩ := h
  by_cases hlv0 : liveE N c = 0
  · by_cases hk0 : k < 0
    · have HE : cutE N c k = 21 ∧ cutN N c k = N := by
        have : cutE N c k = 21 := by unfold cutE; rw [if_pos hlv0, if_pos hk0]
        exact ⟨this, if_neg (by rw [this]; omega)⟩
      rw [HE.1, HE.2]
      rw [hlv0] at HL
      clear h hz HE hlv0 hN
      go_enter Try.func30, Try.ntmps30
      go_wp2_with fail
      refine HL.out.mono ?_; rintro e w' ⟨rfl, rfl⟩
      go_wp2_with fail
      go_ret
      exact ⟨rfl, HS.out⟩
    · obtain ⟨kk, rfl⟩ : ∃ n : Nat, k = n := ⟨k.toNat, by omega⟩
      cases hl : lineAt N c with
      | none => unfold liveE at hlv0; rw [hl] at hlv0; simp at hlv0
      | some p =>
        obtain ⟨i, x⟩ := p
        have hi := (lineAt_some hl).1
        have hx : x.cut = false := by
          unfold liveE at hlv0; rw [hl] at hlv0
          cases hc : x.cut with
          | false => rfl
          | true => simp [hc] at hlv0
        have HE : cutE N c kk = 0 ∧ cutN N c kk = N.set i (some { x with way := x.way.take kk, cut := true }) := by
          have : cutE N c kk = 0 := by unfold cutE; rw [if_pos hlv0, if_neg hk0]
          refine ⟨this, ?_⟩
          unfold cutN setLine; rw [if_pos this, hl]; simp
        rw [HE.1, HE.2]
        rw [hlv0] at HL
        obtain ⟨z, g, cp, a1, a2, c1, c2, hz2, his, hzx, rfl, hlv, e1, e2, ⟨d0, y0, y1, y2, y3, hlt, hle, hf, hne⟩⟩ := h.at hN hn hl
        subst hlv
        have hzz := hz i x hi
        obtain ⟨hgS, hgT⟩ := h.sl g rfl
        have hW1 := (h.win i z hz2).1
        have hW2 := (h.win i z hz2).2
        rw [hzx] at hW1 hW2
        rw [e1] at hW1
        obtain ⟨_, hlc, hcm, hca, hcl⟩ := hW1.cells
        have hzil := (List.getElem?_eq_some_iff.1 hz2).1
        have h1 := h.put0 (z' := { z with x := { x with cut := true } }) (q := 3) (v := .bool true) hz2 (by omega) (by obtain ⟨zi, zx, zv1, zv2⟩ := z; simp only at hzx; subst hzx; rfl) (by rw [e1]; exact hW1) hW2
        have hsame : ∀ k, T k = 2 * i + 2 ∨ T k = 2 * i + 3 → (w.setCell ⟨g, i * 4 + 3, none⟩ (.bool true)).heap[k]? = w.heap[k]? := fun k hk => Below.heap_setCell _ _ _ _ (fun e => by have e2 : k = g := e; subst e2; omega)
        have HA : Hid (x.way.length ≤ kk → RMoved B P S (N.set i (some { x with way := x.way.take kk, cut := true })) w (w.setCell ⟨g, i * 4 + 3, none⟩ (.bool true))) := Lib.hid (fun hle2 => by
          refine ⟨S, ⟨T, _, _, h1, ?_⟩, fun k hk => .inl hk, (KeptP.refl _ w).setCell (.inl hgS) _⟩
          rw [List.map_set, hN, List.take_of_length_le hle2]
          unfold absN; rw [if_pos his])
        have HB2 : Hid (kk ≤ x.way.length → RMoved B P S (N.set i (some { x with way := x.way.take kk, cut := true })) w ((w.setCell ⟨g, i * 4 + 3, none⟩ (.bool true)).drew.setCell ⟨g, i * 4 + 1, none⟩ (.slice a1 kk c1))) := Lib.hid (fun hle2 => by
          have h2 := h1.drew.put0 (i := i) (z' := { z with x := { x with way := x.way.take kk, cut := true }, v1 := .slice a1 kk c1 }) (q := 1) (v := .slice a1 kk c1) (List.getElem?_set_self hzil) (by omega) rfl
            ((hW1.take hle2).same fun k hk _ => ⟨hsame k (.inl hk.2), hk⟩) (hW2.same fun k hk _ => ⟨hsame k (.inr hk.2), hk⟩)
          refine ⟨S, ⟨T, _, _, h2, ?_⟩, fun k hk => .inl hk, ?_⟩
          · rw [List.map_set, List.map_set, hN, List.set_set]
            unfold absN; rw [if_pos his]
          · exact ((KeptP.refl S w).setCell (p := ⟨g, i * 4 + 3, none⟩) (.inl hgS) (.bool true)).todrew.setCell (.inl hgS) _)
        have f1 := hf (i * 4 + 1)
        have f3 := hf (i * 4 + 3)
        obtain ⟨n, hzn⟩ : ∃ n, zs.length = n := ⟨_, rfl⟩
        obtain ⟨wl, hwl⟩ : ∃ k, x.way.length = k := ⟨_, rfl⟩
        rw [hzn] at d0 hlt hle
        rw [hwl] at y1 hzz hlc HA HB2
        have q4 : (i : Int) < n := by omega
        have q5 : ¬ (i : Int) < 0 := by omega
        have q6 : (0 : Int) ≤ i := by omega
        have q7 : (i : Int) + 1 - 1 = i := by omega
        have q8 : IntKind.i64.wrap (i : Int) = i := IntWalk.i64_in _ (by omega)
        have q9 : (0 : Int) ≤ kk := by omega
        have q10 : (c1 : Int) ≤ 9223372036854775807 := by unfold maxLen at hcm; omega
        have hneP : P ≠ g := fun e => hne e.symm
        clear h hN hl hi hz hW1 hW2 hz2 his hzx e1 e2 hzn hwl hcl HE hn hf y0 y2 hk0 HS hlv0 h1 hsame hzil
        rcases Nat.lt_or_ge kk wl with hkw | hkw
        · have hkc : kk ≤ c1 := by omega
          cases a1 with
          | none => exact absurd (hca rfl) (by omega)
          | some y =>
            clear hca
            go_enter Try.func30, Try.ntmps30
            go_wp2_with fail
            refine HL.out.mono ?_; rintro e w' ⟨rfl, rfl⟩
            go_wp2_with fail
            apply wp_mid0 (R := fun u => u = ((w.setCell ⟨g, i * 4 + 3, none⟩ (.bool true)).setCell ⟨g, i * 4 + 1, none⟩ (.slice (some y) kk c1)).drew)
            case h =>
              go_region_law (fail)
              all_goals exact ⟨rfl, rfl⟩
            rintro _ rfl
            go_wp2_with fail
            go_ret
            exact ⟨rfl, HB2.out (Nat.le_of_lt hkw)⟩
        · clear hca
          go_enter Try.func30, Try.ntmps30
          go_wp2_with fail
          refine HL.out.mono ?_; rintro e w' ⟨rfl, rfl⟩
          go_wp2_with fail
          go_ret
          exact ⟨rfl, HA.out hkw⟩
  · have HE : cutE N c k = liveE N c ∧ cutN N c k = N := by
      have : cutE N c k = liveE N c := by unfold cutE; rw [if_neg hlv0]
      exact ⟨this, if_neg (by rw [this]; exact hlv0)⟩
    rw [HE.1, HE.2]
    obtain ⟨e0, he0⟩ : ∃ e, liveE N c = e := ⟨_, rfl⟩
    rw [he0] at HL hlv0 ⊢
    have hne : (e0 == 0) = false := by simpa using hlv0
    clear h hz HE hN he0
    go_enter Try.func30, Try.ntmps30
    go_wp2_with fail
    refine HL.out.mono ?_; rintro e w' ⟨rfl, rfl⟩
    go_wp2_with fail
    go_ret
    exact ⟨rfl, HS.out⟩

set_option maxRecDepth 100000 in
set_option maxHeartbeats 4000000 in
theorem rdrop_any {w : World} {B P : Nat} {S : Nat → Prop} {N : List (Option Line)} (h : RefRep w B P S N) (hn : N.length ≤ 140737488351232) (c : Int) :
    Calls Try.prog 31 #[.pointer (some ⟨P, 0, none⟩), .int .i64 c] w fun e w' => e = .returned (.int .i64 (dropE N c)) ∧ RMoved B P S (dropN N c) w w' := by
  have HS := Lib.hid (RMoved.same h (Below.refl _ w))
  have HA := Lib.hid (at_any h hn c)
  have HO := Lib.hid (rover_any h hn c)
  obtain ⟨T, lv, zs, h, hN⟩ := h
  cases hl : lineAt N c with
  | none =>
    have HE : dropE N c = 23 ∧ dropN N c = N := by
      have : dropE N c = 23 := by unfold dropE; rw [hl]; rfl
      exact ⟨this, if_neg (by rw [this]; omega)⟩
    rw [HE.1, HE.2]
    rw [show atN N c = -1 from by unfold atN; rw [hl]] at HA
    clear hl h HE hN
    go_enter Try.func31, Try.ntmps31
    go_wp2_with fail
    refine HA.out.mono ?_; rintro e w' ⟨rfl, rfl⟩
    go_wp2_with fail
    go_ret
    exact ⟨rfl, HS.out⟩
  | some p =>
    obtain ⟨i, x⟩ := p
    have hi := (lineAt_some hl).1
    rw [show atN N c = (i : Int) from by unfold atN; rw [hl]] at HA
    cases hov : overN N c with
    | false =>
      have HE : dropE N c = 25 ∧ dropN N c = N := by
        have : dropE N c = 25 := by unfold dropE; rw [hl, hov]; rfl
        exact ⟨this, if_neg (by rw [this]; omega)⟩
      rw [HE.1, HE.2]
      rw [hov] at HO
      have q5 : ¬ (i : Int) < 0 := by omega
      clear hl h HE hN hi
      go_enter Try.func31, Try.ntmps31
      go_wp2_with fail
      refine HA.out.mono ?_; rintro e w' ⟨rfl, rfl⟩
      go_wp2_with fail
      refine HO.out.mono ?_; rintro e w' ⟨rfl, rfl⟩
      go_wp2_with fail
      go_ret
      exact ⟨rfl, HS.out⟩
    | true =>
      have HE : dropE N c = 0 ∧ dropN N c = N.set i none := by
        have : dropE N c = 0 := by unfold dropE; rw [hl, hov]; rfl
        exact ⟨this, by unfold dropN setLine; rw [if_pos this, hl]⟩
      rw [HE.1, HE.2]
      rw [hov] at HO
      obtain ⟨z, g, cp, a1, a2, c1, c2, hz2, his, hzx, rfl, hlv, e1, e2, ⟨d0, y0, y1, y2, y3, hlt, hle, hf, hne⟩⟩ := h.at hN hn hl
      subst hlv
      obtain ⟨hgS, hgT⟩ := h.sl g rfl
      have hzil := (List.getElem?_eq_some_iff.1 hz2).1
      have HB2 : Hid (RMoved B P S (N.set i none) w ((((w.setCell ⟨g, i * 4, none⟩ (.bool false)).setCell ⟨g, i * 4 + 1, none⟩ (.slice none 0 0)).setCell ⟨g, i * 4 + 2, none⟩ (.slice none 0 0)).setCell ⟨g, i * 4 + 3, none⟩ (.bool false))) := Lib.hid (by
        have h0 := h.put0 (z' := { z with is := false }) (q := 0) (v := .bool false) hz2 (by omega) rfl (h.win i z hz2).1 (h.win i z hz2).2
        have h1 := h0.put0 (i := i) (z' := { z with is := false, x := { z.x with way := [] }, v1 := .slice none 0 0 }) (q := 1) (v := .slice none 0 0) (List.getElem?_set_self hzil) (by omega) rfl Win.nil (h0.win i _ (List.getElem?_set_self hzil)).2
        rw [List.set_set] at h1
        have h2 := h1.put0 (i := i) (z' := { z with is := false, x := { z.x with way := [], back := [] }, v1 := .slice none 0 0, v2 := .slice none 0 0 }) (q := 2) (v := .slice none 0 0) (List.getElem?_set_self hzil) (by omega) rfl Win.nil Win.nil
        rw [List.set_set] at h2
        have h3 := h2.put0 (i := i) (z' := { z with is := false, x := { way := [], back := [], cut := false }, v1 := .slice none 0 0, v2 := .slice none 0 0 }) (q := 3) (v := .bool false) (List.getElem?_set_self hzil) (by omega) rfl Win.nil Win.nil
        rw [List.set_set, Nat.add_zero] at h3
        refine ⟨S, ⟨T, _, _, h3, ?_⟩, fun k hk => .inl hk, ((((KeptP.refl _ w).setCell (.inl hgS) _).setCell (.inl hgS) _).setCell (.inl hgS) _).setCell (.inl hgS) _⟩
        rw [List.map_set, hN]
        rfl)
      have f0 := hf (i * 4)
      have f1 := hf (i * 4 + 1)
      have f2 := hf (i * 4 + 2)
      have f3 := hf (i * 4 + 3)
      obtain ⟨n, hzn⟩ : ∃ n, zs.length = n := ⟨_, rfl⟩
      rw [hzn] at d0 hlt hle
      have q4 : (i : Int) < n := by omega
      have q5 : ¬ (i : Int) < 0 := by omega
      have q6 : (0 : Int) ≤ i := by omega
      have q8 : IntKind.i64.wrap (i : Int) = i := IntWalk.i64_in _ (by omega)
      clear h hN hl hi hz2 his hzx e1 e2 hzn HE hn hf HS hzil hov
      go_enter Try.func31, Try.ntmps31
      go_wp2_with fail
      refine HA.out.mono ?_; rintro e w' ⟨rfl, rfl⟩
      go_wp2_with fail
      refine HO.out.mono ?_; rintro e w' ⟨rfl, rfl⟩
      go_wp2_with fail
      go_ret
      exact ⟨rfl, HB2.out⟩
end Go.Proofs.Yteopfknoemifgaa
