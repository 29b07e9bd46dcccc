/- Layer 9: the reference's Take. Conditions: the network is there. -/
import Derived.Test.YteopfknoemifgaaQ2
namespace Go.Proofs.Yteopfknoemifgaa
open Go.RowKit
set_option linter.unusedSimpArgs false
set_option linter.unusedVariables false

def Mid0 (A : Go.Act) (R : World → Prop) : Exit → Go.Act → World → Prop
  | .normal, a, w => R w ∧ a = A
  | _, _, _ => False
theorem wp_mid0 {P : Program} {c : Code} {Q : Exit → Go.Act → World → Prop} {a : Go.Act} {w : World} (A : Go.Act) (R : World → Prop) (h : c.wp P (Mid0 A R) a w) (k : ∀ w1, R w1 → Q .normal A w1) : c.wp P Q a w := by
  refine Code.wp_mono ?_ h
  intro e a w h
  cases e with
  | normal =>
    obtain ⟨hr, rfl⟩ := h
    exact k w hr
  | _ => exact h.elim
def RTook (B P : Nat) (S : Nat → Prop) (N' : List (Option Line)) (l : List UInt8) (er : Int) (w : World) (e : Ending) (w' : World) : Prop :=
  ∃ a c, e = .returned (.tuple #[.slice a l.length c, .int .i64 er]) ∧ Cells w'.heap.size w' a (bys l) ∧ RMoved B P S N' w w'
/-- What stands behind Take's store. -/
theorem RTook.mk {w w1 : World} {B P g n cp i q c1 c3 : Nat} {S : Nat → Prop} {T : Nat → Nat} {zs : List Zn} {z : Zn} {x : Line} {a1' a3 : Option Addr} {N : List (Option Line)} {k : Nat}
    (HH : RefX w B P S T (.slice (some ⟨g, 0, none⟩) n cp) zs) (hz : zs[i]? = some z) (his : z.is = true) (hx : z.x = x) (hN : zs.map absN = N) (hB : B ≤ w.heap.size)
    (hq : x.way.take k = x.way.take q ∧ x.way.drop k = x.way.drop q ∧ q ≤ x.way.length)
    (hb : Below w.heap.size w w1) (hw : Win w1 (fun k => S k ∧ T k = 2 * i + 2) (.slice a1' (x.way.length - q) c1) (x.way.drop q)) (ho : IsBytes w1 w.heap.size a3 c3 (x.way.take q)) :
    RTook B P S (N.set i (some { x with way := x.way.drop k })) (x.way.take k) 0 w (.returned (.tuple #[.slice a3 q c3, .int .i64 0])) (w1.setCell ⟨g, i * 4 + 1, none⟩ (.slice a1' (x.way.length - q) c1)) := by
  obtain ⟨hgS, hgT⟩ := HH.sl g rfl
  have hgl := (HH.row.lt g rfl).2
  have hql : (x.way.take q).length = q := by rw [List.length_take]; omega
  rw [hq.1, hq.2.1]
  have ho' : IsBytes (w1.setCell ⟨g, i * 4 + 1, none⟩ (.slice a1' (x.way.length - q) c1)) w.heap.size a3 c3 (x.way.take q) := ho.of_heap fun y hy => Below.heap_setCell _ _ _ _ (fun e => by have := (ho.lt y hy).1; simp only at e; omega)
  refine ⟨a3, c3, by rw [hql], ho'.cells, ?_⟩
  have hkp : KeptP (fun k => S k ∧ T k = 2 * i + 2) w w1 := KeptP.of_below hb
  have hW2 := (HH.win i z hz).2
  rw [hx] at hW2
  have hR := HH.put (z' := { z with x := { x with way := x.way.drop q }, v1 := .slice a1' (x.way.length - q) c1 }) (q := 1) (v := .slice a1' (x.way.length - q) c1) hz hkp (by omega) (by omega) (by obtain ⟨zi, zx, zv1, zv2⟩ := z; simp only at hx; subst hx; rfl) hB
    (hw.same fun k hk hlt => ⟨rfl, .inl hk.1, by rw [if_pos (HH.bd k hk.1).2]; exact hk.2⟩)
    (hW2.same fun k hk hlt => ⟨hkp.block k hlt (fun e => by have h1 := hk.2; have h2 := e.2; omega), .inl hk.1, by rw [if_pos hlt]; exact hk.2⟩)
  exact hR.rmoved hgS hkp hN (by unfold absN; rw [if_pos his])
theorem RTook.none {w : World} {B P : Nat} {S : Nat → Prop} {N : List (Option Line)} (h : RefRep w B P S N) (er : Int) : RTook B P S N [] er w (.returned (.tuple #[.slice .none 0 0, .int .i64 er])) w :=
  ⟨.none, 0, rfl, .inl rfl, RMoved.same h (Below.refl _ _)⟩

set_option maxRecDepth 100000 in
set_option maxHeartbeats 8000000 in
theorem rtake_any {w : World} {B P : Nat} {S : Nat → Prop} {N : List (Option Line)} (h : RefRep w B P S N) (hn : N.length ≤ 140737488351232) (c k : Int) (hk : k ≤ 9223372036854775807)
    (hz : ∀ (i : Nat) (x : Line), N[i]? = some (some x) → x.way.length ≤ 140737488351232) :
    Calls Try.prog 28 #[.pointer (some ⟨P, 0, none⟩), .int .i64 c, .int .i64 k] w (RTook B P S (takeN N c k) (takenN N c k) (takeE N c k) w) := by
  have HS := Lib.hid (fun er => RTook.none h er)
  have HA := Lib.hid (at_any h hn c)
  obtain ⟨T, lv, zs, h, hN⟩ := h
  cases hl : lineAt N c with
  | none =>
    have HE : takeE N c k = 23 ∧ takeN N c k = N ∧ takenN N c k = [] := by
      have : takeE N c k = 23 := by unfold takeE; rw [hl]; rfl
      exact ⟨this, if_neg (by rw [this]; omega), if_neg (by rw [this]; omega)⟩
    rw [HE.1, HE.2.1, HE.2.2]
    rw [show atN N c = -1 from by unfold atN; rw [hl]] at HA
    clear hl h HE hz hN
    go_enter Try.func28, Try.ntmps28
    go_wp2_with fail
    refine HA.out.mono ?_; rintro e w' ⟨rfl, rfl⟩
    go_wp2_with fail
    go_ret2
    exact HS.out 23
  | some p =>
    obtain ⟨i, x⟩ := p
    have hi := (lineAt_some hl).1
    rw [show atN N c = (i : Int) from by unfold atN; rw [hl]] at HA
    by_cases hk0 : k < 0
    · have HE : takeE N c k = 21 ∧ takeN N c k = N ∧ takenN N c k = [] := by
        have : takeE N c k = 21 := by unfold takeE; rw [hl, if_neg (by simp), if_pos hk0]
        exact ⟨this, if_neg (by rw [this]; omega), if_neg (by rw [this]; omega)⟩
      rw [HE.1, HE.2.1, HE.2.2]
      have q5 : ¬ (i : Int) < 0 := by omega
      clear hl h HE hz hi hN
      go_enter Try.func28, Try.ntmps28
      go_wp2_with fail
      refine HA.out.mono ?_; rintro e w' ⟨rfl, rfl⟩
      go_wp2_with fail
      go_ret2
      exact HS.out 21
    · obtain ⟨kk, rfl⟩ : ∃ n : Nat, k = n := ⟨k.toNat, by omega⟩
      have HE : takeE N c kk = 0 ∧ takeN N c kk = N.set i (some { x with way := x.way.drop kk }) ∧ takenN N c kk = x.way.take kk := by
        have : takeE N c kk = 0 := by unfold takeE; rw [hl, if_neg (by simp), if_neg hk0]
        refine ⟨this, ?_, ?_⟩
        · unfold takeN setLine; rw [if_pos this, hl]; simp
        · unfold takenN; rw [if_pos this, hl]; simp
      rw [HE.1, HE.2.1, HE.2.2]
      obtain ⟨z, g, cp, a1, a2, c1, c2, hz2, his, hzx, rfl, hlv, e1, e2, ⟨d0, y0, y1, y2, y3, hlt, hle, hf, hne⟩⟩ := h.at hN hn hl
      subst hlv
      obtain ⟨q, hq⟩ : ∃ q, kk ≤ x.way.length ∧ q = kk ∨ x.way.length < kk ∧ q = x.way.length := by
        by_cases h : kk ≤ x.way.length
        · exact ⟨kk, .inl ⟨h, rfl⟩⟩
        · exact ⟨_, .inr ⟨by omega, rfl⟩⟩
      have hQ : x.way.take kk = x.way.take q ∧ x.way.drop kk = x.way.drop q ∧ q ≤ x.way.length := by
        rcases hq with ⟨h, rfl⟩ | ⟨h, rfl⟩
        · exact ⟨rfl, rfl, h⟩
        · exact ⟨by rw [List.take_of_length_le (by omega), List.take_of_length_le (by omega)], by rw [List.drop_of_length_le (by omega), List.drop_of_length_le (by omega)], Nat.le_refl _⟩
      have hW := (h.win i z hz2).1
      rw [e1, hzx] at hW
      have hzz := hz i x hi
      obtain ⟨_, hlc, hcm, hca, hcl⟩ := hW.cells
      have hB : B ≤ w.heap.size := by have := h.bd P h.sP; omega
      have HK := Lib.hid (fun (w1 : World) (a1' a3 : Option Addr) (c1 c3 : Nat) => RTook.mk (w := w) (w1 := w1) (k := kk) (a1' := a1') (a3 := a3) (c1 := c1) (c3 := c3) h hz2 his hzx hN hB hQ)
      have HW := Lib.hid hW
      have HC : Hid (Cells w.heap.size w a1 (bys (x.way.take q))) := Lib.hid (by have := hcl.take q; rwa [bys_take] at this)
      have HTL : Hid ((x.way.take q).length = q) := Lib.hid (by rw [List.length_take]; have := hQ.2.2; omega)
      have hgl := (h.row.lt g rfl).2
      have hPl := h.blk.lt
      have f1 := hf (i * 4 + 1)
      obtain ⟨n, hzn⟩ : ∃ n, zs.length = n := ⟨_, rfl⟩
      obtain ⟨wl, hwl⟩ : ∃ k, x.way.length = k := ⟨_, rfl⟩
      have HWL := Lib.hid hwl
      rw [hzn] at d0 hlt hle
      rw [hwl] at y1 hq hzz hlc
      have hql : q ≤ wl := by rw [← hwl]; exact hQ.2.2
      have q4 : (i : Int) < n := by omega
      have q5 : ¬ (i : Int) < 0 := by omega
      have q6 : (0 : Int) ≤ i := by omega
      have q8 : IntKind.i64.wrap (i : Int) = i := IntWalk.i64_in _ (by omega)
      have q9 : (0 : Int) ≤ kk := by omega
      have q10 : (c1 : Int) ≤ 9223372036854775807 := by unfold maxLen at hcm; omega
      obtain ⟨i0, hi0, hz0, hz1, hz22⟩ := info_parts Try.infoB
      have HNO := Lib.hid hca
      have hsel : (∃ a1' c1', (∀ w1, Below w.heap.size w w1 → Win w1 (fun k => S k ∧ T k = 2 * i + 2) (.slice a1' (wl - q) c1') (x.way.drop q)) ∧ ((a1 = none ∧ a1' = none ∧ c1 = 0 ∧ c1' = 0) ∨ (∃ y, a1 = some y ∧ a1' = some y ∧ q = c1 ∧ c1' = 0) ∨ ∃ gw ow, a1 = some ⟨gw, ow, none⟩ ∧ a1' = some ⟨gw, ow + q, none⟩ ∧ q < c1 ∧ c1' = c1 - q)) := by
        have hkeep : ∀ w1, Below w.heap.size w w1 → Win w1 (fun k => S k ∧ T k = 2 * i + 2) (.slice a1 x.way.length c1) x.way := fun w1 hb => hW.same fun k hk hlt => ⟨hb.block k (h.bd k hk.1).2, hk⟩
        rcases Nat.lt_or_ge q c1 with hqc | hqc
        · cases a1 with
          | none => exact absurd (hca rfl) (by omega)
          | some y =>
            obtain ⟨a', c', ee, hd⟩ := hW
            injection ee with ee1 ee2 ee3
            subst ee3
            rcases hd with ⟨_, h0⟩ | ⟨gw, ow, cur, h1, _⟩
            · omega
            · rw [← ee1] at h1
              injection h1 with h1
              subst h1
              refine ⟨some ⟨gw, ow + q, none⟩, c1 - q, fun w1 hb => ?_, .inr (.inr ⟨gw, ow, rfl, rfl, hqc, rfl⟩)⟩
              have := (hkeep w1 hb).drop (k := q) hQ.2.2 (by omega)
              rw [hwl] at this
              exact this
        · have hqw : q = wl := by omega
          refine ⟨a1, 0, fun w1 hb => ?_, ?_⟩
          · rw [show wl - q = 0 from by omega]
            exact Win.drop_all (by omega)
          · cases a1 with
            | none => exact .inl ⟨rfl, rfl, hca rfl, rfl⟩
            | some y => exact .inr (.inl ⟨y, rfl, rfl, by omega, rfl⟩)
      obtain ⟨a1', c1', hwin', hsel⟩ := hsel
      have HWIN := Lib.hid hwin'
      rw [hwl] at HK
      clear h hN hl hi hz hW hz2 his hzx e1 e2 hzn hwl hca hcl HE hn hQ hwin' hf y0 y2 y3 hk0 HW HS
      have hkq : (kk ≤ wl ∧ q = kk) ∨ (wl < kk ∧ q = wl) := hq
      clear hq
      rcases hkq with ⟨hkw, rfl⟩ | ⟨hkw, rfl⟩
      all_goals rcases hsel with ⟨rfl, rfl, rfl, rfl⟩ | ⟨y, rfl, rfl, rfl, rfl⟩ | ⟨gw, ow, rfl, rfl, hqc, rfl⟩
      · skip
        go_enter Try.func28, Try.ntmps28
        go_wp2_with fail
        refine HA.out.mono ?_; rintro e w' ⟨rfl, rfl⟩
        go_wp2_with fail
        apply wp_mid0 (R := fun u => u = (w.setCell ⟨g, i * 4 + 1, none⟩ (.slice none (wl - q) (0))).drew)
        case h =>
          go_region_law (fail)
          all_goals exact ⟨rfl, rfl⟩
        rintro _ rfl
        go_wp2_with fail
        go_ret2
        have := HK.out w.drew none none (0) 0 (Below.refl _ _).drew (HWIN.out _ (Below.refl _ _).drew) (by unfold IsBytes; have h0 : x.way.take q = [] := (by apply List.eq_nil_of_length_eq_zero; have := HTL.out; omega); rw [h0]; exact World.ownsRow_nil _ _ _ _)
        exact this
      · skip
        go_enter Try.func28, Try.ntmps28
        go_wp2_with fail
        refine HA.out.mono ?_; rintro e w' ⟨rfl, rfl⟩
        go_wp2_with (at_builtin; refine wpList_append_rows rfl _ _ 30 rfl w.heap.size 5 i0 _ 1 1 Try.underlying30 hi0 hz0 hz1 hz22 rfl (by decide) (.slice none 0 0) 0 [] rfl (World.ownsRow_nil _ _ _ _) _ _ _ w.heap.size (bys (x.way.take _)) rfl HNO.out (by rw [bys_length, Nat.mul_one]; exact HTL.out) HC.out (bys_one _) (by unfold maxLen; omega) (by omega) (Nat.le_refl _) ?_)
        intro a3 c3 w3 g1 g2 g3
        have hbl : Below w.heap.size w w3 := (Below.refl _ _).grown g2 (Nat.le_refl _) (fun k hk => by cases hk)
        have k0 := (hbl.cell (p := ⟨P, 0, none⟩) hPl).trans d0
        have k1 := (hbl.cell (p := ⟨g, i * 4 + 1, none⟩) hgl).trans y1
        have k2 := (hbl.frozen (p := ⟨g, i * 4 + 1, none⟩) hgl).trans f1
        have G1 := Lib.hid g1
        have HBL := Lib.hid hbl
        clear g1 g2 g3 hbl
        go_wp2_with fail
        apply wp_mid0 (R := fun u => u = (w3.setCell ⟨g, i * 4 + 1, none⟩ (.slice (some y) (0) (0))).drew)
        case h =>
          go_region_law (fail)
          all_goals exact ⟨rfl, rfl⟩
        rintro _ rfl
        go_wp2_with fail
        go_ret2
        have := HK.out w3.drew (some y) a3 (0) c3 HBL.out.drew (HWIN.out _ HBL.out.drew) (by have h := G1.out; unfold IsBytes; rw [HTL.out]; exact h)
        rw [show wl - q = 0 from by omega] at this
        exact this
      · have hcq : ¬ c1 = q := by omega
        go_enter Try.func28, Try.ntmps28
        go_wp2_with fail
        refine HA.out.mono ?_; rintro e w' ⟨rfl, rfl⟩
        go_wp2_with (at_builtin; refine wpList_append_rows rfl _ _ 30 rfl w.heap.size 5 i0 _ 1 1 Try.underlying30 hi0 hz0 hz1 hz22 rfl (by decide) (.slice none 0 0) 0 [] rfl (World.ownsRow_nil _ _ _ _) _ _ _ w.heap.size (bys (x.way.take _)) rfl HNO.out (by rw [bys_length, Nat.mul_one]; exact HTL.out) HC.out (bys_one _) (by unfold maxLen; omega) (by omega) (Nat.le_refl _) ?_)
        intro a3 c3 w3 g1 g2 g3
        have hbl : Below w.heap.size w w3 := (Below.refl _ _).grown g2 (Nat.le_refl _) (fun k hk => by cases hk)
        have k0 := (hbl.cell (p := ⟨P, 0, none⟩) hPl).trans d0
        have k1 := (hbl.cell (p := ⟨g, i * 4 + 1, none⟩) hgl).trans y1
        have k2 := (hbl.frozen (p := ⟨g, i * 4 + 1, none⟩) hgl).trans f1
        have G1 := Lib.hid g1
        have HBL := Lib.hid hbl
        clear g1 g2 g3 hbl
        go_wp2_with fail
        apply wp_mid0 (R := fun u => u = (w3.setCell ⟨g, i * 4 + 1, none⟩ (.slice (some ⟨gw, ow + q, none⟩) (wl - q) (c1 - q))).drew)
        case h =>
          go_region_law (fail)
          all_goals exact ⟨rfl, rfl⟩
        rintro _ rfl
        go_wp2_with fail
        go_ret2
        have := HK.out w3.drew (some ⟨gw, ow + q, none⟩) a3 (c1 - q) c3 HBL.out.drew (HWIN.out _ HBL.out.drew) (by have h := G1.out; unfold IsBytes; rw [HTL.out]; exact h)
        exact this
      · obtain rfl : q = 0 := by omega
        go_enter Try.func28, Try.ntmps28
        go_wp2_with fail
        refine HA.out.mono ?_; rintro e w' ⟨rfl, rfl⟩
        go_wp2_with fail
        apply wp_mid0 (R := fun u => u = (w.setCell ⟨g, i * 4 + 1, none⟩ (.slice none (0) (0))).drew)
        case h =>
          go_region_law (fail)
          all_goals exact ⟨rfl, rfl⟩
        rintro _ rfl
        go_wp2_with fail
        go_ret2
        have := HK.out w.drew none none (0) 0 (Below.refl _ _).drew (HWIN.out _ (Below.refl _ _).drew) (by unfold IsBytes; have h0 : x.way.take 0 = [] := (by apply List.eq_nil_of_length_eq_zero; have := HTL.out; omega); rw [h0]; exact World.ownsRow_nil _ _ _ _)
        rw [show 0 - 0 = 0 from by omega] at this
        exact this
      · skip
        go_enter Try.func28, Try.ntmps28
        go_wp2_with fail
        refine HA.out.mono ?_; rintro e w' ⟨rfl, rfl⟩
        go_wp2_with (at_builtin; refine wpList_append_rows rfl _ _ 30 rfl w.heap.size 5 i0 _ 1 1 Try.underlying30 hi0 hz0 hz1 hz22 rfl (by decide) (.slice none 0 0) 0 [] rfl (World.ownsRow_nil _ _ _ _) _ _ _ w.heap.size (bys (x.way.take _)) rfl HNO.out (by rw [bys_length, Nat.mul_one]; exact HTL.out) HC.out (bys_one _) (by unfold maxLen; omega) (by omega) (Nat.le_refl _) ?_)
        intro a3 c3 w3 g1 g2 g3
        have hbl : Below w.heap.size w w3 := (Below.refl _ _).grown g2 (Nat.le_refl _) (fun k hk => by cases hk)
        have k0 := (hbl.cell (p := ⟨P, 0, none⟩) hPl).trans d0
        have k1 := (hbl.cell (p := ⟨g, i * 4 + 1, none⟩) hgl).trans y1
        have k2 := (hbl.frozen (p := ⟨g, i * 4 + 1, none⟩) hgl).trans f1
        have G1 := Lib.hid g1
        have HBL := Lib.hid hbl
        clear g1 g2 g3 hbl
        go_wp2_with fail
        apply wp_mid0 (R := fun u => u = (w3.setCell ⟨g, i * 4 + 1, none⟩ (.slice (some y) (0) (0))).drew)
        case h =>
          go_region_law (fail)
          all_goals exact ⟨rfl, rfl⟩
        rintro _ rfl
        go_wp2_with fail
        go_ret2
        have := HK.out w3.drew (some y) a3 (0) c3 HBL.out.drew (HWIN.out _ HBL.out.drew) (by have h := G1.out; unfold IsBytes; rw [HTL.out]; exact h)
        rw [show q - q = 0 from by omega] at this
        exact this
      · have hcq : ¬ c1 = q := by omega
        go_enter Try.func28, Try.ntmps28
        go_wp2_with fail
        refine HA.out.mono ?_; rintro e w' ⟨rfl, rfl⟩
        go_wp2_with (at_builtin; refine wpList_append_rows rfl _ _ 30 rfl w.heap.size 5 i0 _ 1 1 Try.underlying30 hi0 hz0 hz1 hz22 rfl (by decide) (.slice none 0 0) 0 [] rfl (World.ownsRow_nil _ _ _ _) _ _ _ w.heap.size (bys (x.way.take _)) rfl HNO.out (by rw [bys_length, Nat.mul_one]; exact HTL.out) HC.out (bys_one _) (by unfold maxLen; omega) (by omega) (Nat.le_refl _) ?_)
        intro a3 c3 w3 g1 g2 g3
        have hbl : Below w.heap.size w w3 := (Below.refl _ _).grown g2 (Nat.le_refl _) (fun k hk => by cases hk)
        have k0 := (hbl.cell (p := ⟨P, 0, none⟩) hPl).trans d0
        have k1 := (hbl.cell (p := ⟨g, i * 4 + 1, none⟩) hgl).trans y1
        have k2 := (hbl.frozen (p := ⟨g, i * 4 + 1, none⟩) hgl).trans f1
        have G1 := Lib.hid g1
        have HBL := Lib.hid hbl
        clear g1 g2 g3 hbl
        go_wp2_with fail
        apply wp_mid0 (R := fun u => u = (w3.setCell ⟨g, i * 4 + 1, none⟩ (.slice (some ⟨gw, ow + q, none⟩) (0) (c1 - q))).drew)
        case h =>
          go_region_law (fail)
          all_goals exact ⟨rfl, rfl⟩
        rintro _ rfl
        go_wp2_with fail
        go_ret2
        have := HK.out w3.drew (some ⟨gw, ow + q, none⟩) a3 (c1 - q) c3 HBL.out.drew (HWIN.out _ HBL.out.drew) (by have h := G1.out; unfold IsBytes; rw [HTL.out]; exact h)
        rw [show q - q = 0 from by omega] at this
        exact this
end Go.Proofs.Yteopfknoemifgaa
