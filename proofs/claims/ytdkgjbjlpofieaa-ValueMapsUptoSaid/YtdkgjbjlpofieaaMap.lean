/- Layer 3: the contract of value.Map. Conditions: names and values are small; what sort.SliceStable does at so many places is given. -/
import Derived.Test.YtdkgjbjlpofieaaMapL
import Derived.Deep.RegionLaw
import Derived.Deep.AppendLies
namespace Go.Proofs.Ytdkgjbjlpofieaa
open Go.RowKit
set_option linter.unusedSimpArgs false
set_option linter.unusedVariables false

def zeroC : List Value := [.int .i64 0, .bool false, .int .i64 0, .string ⟨#[]⟩, .slice none 0 0, .slice none 0 0]
/-- An order in which no text is less than one ahead of it. -/
def OrderOf (ks : List ByteArray) (L : List Nat) : Prop := L.Perm (List.range ks.length) ∧ ∀ (i j : Nat), i < j → j < ks.length → ltS (ks.getD (L.getD j 0) ⟨#[]⟩) (ks.getD (L.getD i 0) ⟨#[]⟩) = false
def MapP (ks : List ByteArray) (ts : List Vt) (w : World) (e : Ending) (w' : World) : Prop :=
  Below w.heap.size w w' ∧ ((ks.length ≠ ts.length ∧ e = .returned (.tuple #[.agg zeroC.toArray, .int .i64 20])) ∨
    ks.length = ts.length ∧ ∃ L, OrderOf ks L ∧
      ((mayB (mapT ks ts L) = false ∧ e = .returned (.tuple #[.agg zeroC.toArray, .int .i64 20])) ∨
        mayB (mapT ks ts L) = true ∧ ∃ cs bs, e = .returned (.tuple #[.agg cs.toArray, .int .i64 0]) ∧ IsO w' cs (mapT ks ts L) bs ∧ bs.Nodup ∧ ∀ b ∈ bs, w.heap.size ≤ b ∧ b < w'.heap.size))
theorem Try.infoInt : (Try.prog.info? 3).map (fun i => (i.zero, i.size, i.bytes)) = some (some (.int .i64 0), 1, 8) := by kernel_rfl
set_option maxRecDepth 100000 in
set_option maxHeartbeats 4000000 in
theorem map_any (ks : List ByteArray) (ts : List Vt) (na va : Option Addr) (nc vc B : Nat) (w : World) (hK : StrRow B w na ks) (hL : IsVs B w va 0 ts) (hB : B ≤ w.heap.size) (hnc : ks.length ≤ nc) (hnm : nc ≤ 9223372036854775807) (hvc : ts.length ≤ vc) (hvm : vc ≤ 9223372036854775807)
    (hwt : 1 + (ks.map fun k => k.size + 1).sum + wtVs ts ≤ 1048576) (hS : StableSaid ks.length) :
    Calls Try.prog 11 #[.slice na ks.length nc, .slice va ts.length vc] w (MapP ks ts w) := by
  have hln : ts.length ≤ 1048576 := by have h1 := wtVs_len ts; omega
  have hkn : ks.length ≤ 1048576 := by have h1 := keys_len ks; omega
  obtain ⟨n, hn⟩ : ∃ n, ks.length = n := ⟨_, rfl⟩
  obtain ⟨m, hm⟩ : ∃ m, ts.length = m := ⟨_, rfl⟩
  rw [hn] at hkn hnc hS ⊢
  rw [hm] at hln hvc ⊢
  have HN := Lib.hid hn
  have HM := Lib.hid hm
  have HS := Lib.hid hS
  have HK := Lib.hid hK
  have HL := Lib.hid hL
  clear hn hm hS hK hL
  obtain ⟨i0, hi0, hz0, hz1, hz2⟩ := info_parts Try.infoInt
  obtain ⟨iS, siS, szS, s1S, s2S⟩ := info_parts Try.infoStr
  obtain ⟨iV, siV, szV, s1V, s2V⟩ := info_parts Try.infoVal
  by_cases hnm' : n = m
  · subst hnm'
    obtain ⟨Z, hZ, hmk⟩ : ∃ Z : List Value, Z = List.replicate n (.int .i64 0) ∧ ∀ w : World, (Instr.makeSlice 46 (.int .i64 (n : Int)) (.int .i64 (n : Int))).run Try.prog w = .ok (.slice (some ⟨w.heap.size, 0, none⟩) n n) (w.alloc (.cells Z.toArray 3)) := by
      refine ⟨_, rfl, fun w => ?_⟩
      have hr := run_make (P := Try.prog) w 46 3 i0 _ Try.underlying46 hi0 hz0 .i64 .i64 n n (by omega) (Int.le_refl _) (by rw [hz2]; omega) (by omega)
      rw [hz1] at hr
      have hc : (madeCells (Value.int .i64 0).cells (((n : Nat) : Int).toNat * 1)) = (List.replicate n (Value.int .i64 0)).toArray := by
        apply Array.ext_getElem?
        intro k
        by_cases hk : k < n
        · simp [madeCells, Value.cells, hk, Nat.mod_one]
        · simp [madeCells, Value.cells, hk]
      rw [hc] at hr
      exact hr
    have HZ := Lib.hid hZ
    clear hZ
    go_enter Try.func11, Try.ntmps11
    go_wp2_with fail
    clear hmk
    obtain ⟨G, hG⟩ : ∃ G, w.heap.size + 1 + 1 = G := ⟨_, rfl⟩
    obtain ⟨G3, hG3⟩ : ∃ G3, G + 1 = G3 := ⟨_, rfl⟩
    rw [hG, hG3]
    have HG := Lib.hid hG
    have HG3 := Lib.hid hG3
    clear hG hG3
    obtain ⟨W0, hW0⟩ : ∃ W0, ((((w.alloc (.cells #[.slice na n nc] 22)).alloc (.cells zeroC.toArray 26)).alloc (.cells Z.toArray 3)).alloc (.cells #[.slice (some ⟨G, 0, none⟩) n n] 46)) = W0 := ⟨_, rfl⟩
    have hz : W0.heap.size = G3 + 1 := by rw [← hW0, ← HG3.out, ← HG.out]; simp
    have hX0 : Block W0 w.heap.size [.slice na n nc] 22 := by rw [← hW0]; exact (((Block.new w _ _).alloc _).alloc _).alloc _
    have hX1 : Block W0 (w.heap.size + 1) zeroC 26 := by
      rw [← hW0]
      have := ((Block.new (w.alloc (.cells #[.slice na n nc] 22)) zeroC 26).alloc (.cells Z.toArray 3)).alloc (.cells #[.slice (some ⟨G, 0, none⟩) n n] 46)
      simpa using this
    have hX2 : Block W0 G Z 3 := by
      rw [← hW0]
      have := (Block.new ((w.alloc (.cells #[.slice na n nc] 22)).alloc (.cells zeroC.toArray 26)) Z 3).alloc (.cells #[.slice (some ⟨G, 0, none⟩) n n] 46)
      have h2 := HG.out
      have h3 : w.heap.size + 2 = G := by omega
      have h4 : ((w.alloc (.cells #[.slice na n nc] 22)).alloc (.cells zeroC.toArray 26)).heap.size = G := by rw [← h3]; simp
      rw [h4] at this
      exact this
    have hX3 : Block W0 G3 [.slice (some ⟨G, 0, none⟩) n n] 46 := by
      rw [← hW0, ← HG3.out, ← HG.out]
      have := Block.new (((w.alloc (.cells #[.slice na n nc] 22)).alloc (.cells zeroC.toArray 26)).alloc (.cells Z.toArray 3)) [.slice (some ⟨w.heap.size + 1 + 1, 0, none⟩) n n] 46
      simpa using this
    have hBW : Below w.heap.size w W0 := by
      rw [← hW0]
      exact ((((Below.refl _ _).alloc (Nat.le_refl _) _).alloc (by simp) _).alloc (by simp; omega) _).alloc (by simp; omega) _
    have HX0 := Lib.hid hX0
    have HX1 := Lib.hid hX1
    have HX2 := Lib.hid hX2
    have HX3 := Lib.hid hX3
    have HBW := Lib.hid hBW
    have HZS := Lib.hid hz
    clear hX0 hX1 hX2 hX3 hBW hz
    change Code.wp _ _ _ _ ((((w.alloc (.cells #[.slice na n nc] 22)).alloc (.cells zeroC.toArray 26)).alloc (.cells Z.toArray 3)).alloc (.cells #[.slice (some ⟨G, 0, none⟩) n n] 46))
    rw [hW0]
    clear hW0
    go_loopw [23] (fun iv wr => ∃ j : Nat, iv = .int .i64 j ∧ j ≤ n ∧ Hid (Block wr G ((List.range j).map (fun x : Nat => Value.int .i64 (x : Int)) ++ List.replicate (n - j) (.int .i64 0)) 3) ∧ Hid (Kept [G] W0 wr)) (fun iv _ => n - (intOf iv).toNat)
    case atStart => exact ⟨0, rfl, Nat.zero_le _, Lib.hid (by have := HX2.out; rw [HZ.out] at this; simpa using this), Lib.hid (Kept.refl _ _)⟩
    case round =>
      obtain ⟨j, rfl, hj, HCUR, HKP⟩ := hrel
      have g0 : wr.cell? ⟨G3, 0, none⟩ = _ := (HX3.out.of_heap (HKP.out.block G3 HX3.out.lt (by have := HG3.out; simp; omega))).cell (i := 0) rfl
      have HX3r := Lib.hid (HX3.out.of_heap (HKP.out.block G3 HX3.out.lt (by have := HG3.out; simp; omega)))
      have HX0r := Lib.hid (HX0.out.of_heap (HKP.out.block w.heap.size HX0.out.lt (by have := HG.out; simp; omega)))
      by_cases hlt : j < n
      · have hlt' : (j : Int) < n := by omega
        have hj0 : (0 : Int) ≤ (j : Int) := by omega
        have e0 := HCUR.out.free j
        have c0 : wr.cell? ⟨G, j, none⟩ = some (.int .i64 0) := HCUR.out.cell (by
          rw [List.getElem?_append_right (by simp), List.length_map, List.length_range, Nat.sub_self, List.getElem?_replicate]
          rw [if_pos (by omega)])
        go_wp2_with fail
        go_roundw
        case rel =>
          refine ⟨j + 1, by go_num, by omega, Lib.hid ?_, Lib.hid (HKP.out.setCell (.inl (by simp)) _)⟩
          have h1 := HCUR.out.set j (.int .i64 (j : Int))
          have h2 : (((List.range j).map (fun x : Nat => Value.int .i64 (x : Int)) ++ List.replicate (n - j) (Value.int .i64 0)).set j (.int .i64 (j : Int))) = ((List.range (j + 1)).map (fun x : Nat => Value.int .i64 (x : Int)) ++ List.replicate (n - (j + 1)) (Value.int .i64 0)) := by
            rw [List.set_append_right _ _ (by simp), List.length_map, List.length_range, Nat.sub_self, show n - j = (n - (j + 1)) + 1 from by omega, List.replicate_succ, List.set_cons_zero, List.range_succ]
            simp
          rw [h2] at h1
          exact h1
        case measure => simp [intOf]; omega
      · have hlt' : ¬ (j : Int) < n := by omega
        have hjn : j = n := by omega
        have HC2 : Hid (Block wr G ((List.range n).map (fun x : Nat => Value.int .i64 (x : Int))) 3) := Lib.hid (by have := HCUR.out; rw [hjn] at this; simpa using this)
        have hz1 : W0.heap.size ≤ wr.heap.size := HKP.out.size
        have HBR : Hid (Below w.heap.size w wr) := Lib.hid (HBW.out.trans (HKP.out.below (by have := HG.out; simp; omega) (by have := HX0.out.lt; omega)))
        have HSC := Lib.hid (HS.out ks na nc B w.heap.size G3 G wr HN.out (HK.out.below HBR.out hB) (by have := HG.out; omega) (by have := HX0.out.lt; omega) (by have := HX3.out.lt; omega) (by have := HG.out; omega) (by have := HG3.out; omega) (HX0r.out.cell (i := 0) rfl) (HX3r.out.cell (i := 0) rfl) HC2.out)
        go_wp2_with fail
        refine HSC.out.mono ?_
        rintro e w2 ⟨rfl, L, hLp, hLs, hBL, hKL⟩
        have hz2 : wr.heap.size ≤ w2.heap.size := hKL.size
        have hX0 := HX0r.out.of_heap (hKL.block w.heap.size HX0r.out.lt (by have := HG.out; simp; omega))
        have hX3 := HX3r.out.of_heap (hKL.block G3 HX3r.out.lt (by have := HG3.out; simp; omega))
        have hX1 := (HX1.out.of_heap (HKP.out.block (w.heap.size + 1) HX1.out.lt (by have := HG.out; simp; omega))).of_heap (hKL.block (w.heap.size + 1) (by have := HX1.out.lt; omega) (by have := HG.out; simp; omega))
        have x3 := hX3.cell (i := 0) rfl
        have hB2 : Below w.heap.size w w2 := HBR.out.trans (hKL.below (by have := HG.out; simp; omega) (by have := HX0.out.lt; omega))
        have hLl : L.length = n := by have := hLp.length_eq; simpa using this
        have HX0 := Lib.hid hX0
        have HX1 := Lib.hid hX1
        have HX3 := Lib.hid hX3
        have HBL := Lib.hid hBL
        have HLL := Lib.hid hLl
        have HORD : Hid (OrderOf ks L) := Lib.hid (by unfold OrderOf; rw [HN.out]; exact ⟨hLp, hLs⟩)
        have HB2 := Lib.hid hB2
        have HZ2 : Hid (G3 < w2.heap.size) := Lib.hid hX3.lt
        clear hX0 hX1 hX3 hBL hLl hLp hLs hB2 hKL HSC hz1 hz2 g0 HX3r HX0r HC2 HBR HCUR HKP HBW
        have hz3 := HZ2.out
        go_wp2_with fail
        obtain ⟨X, hX⟩ : ∃ X, w2.heap.size = X := ⟨_, rfl⟩
        obtain ⟨W2, hW2⟩ : ∃ W2, w2.alloc (.cells #[.int .i64 5, .bool false, .int .i64 0, .string ⟨#[]⟩, .slice none 0 0, .slice none 0 0] 26) = W2 := ⟨_, rfl⟩
        rw [hW2]
        rw [hX] at hz3 ⊢
        have hst : St X w2 W2 (.slice none 0 0) (.slice none 0 0) 0 0 [] [] := by
          rw [← hW2, ← hX]
          exact ⟨Block.new w2 _ _, ⟨rfl, .inl ⟨rfl, rfl⟩⟩, ⟨rfl, .inl ⟨rfl, rfl⟩⟩, (fun b e => by cases e), (Below.refl _ _).alloc (Nat.le_refl _) _⟩
        have HST := Lib.hid hst
        have HX := Lib.hid hX
        clear hst hX hW2 HZ2 x3
        go_loopw [38] (fun iv wr => ∃ (k : Nat) (ka la : Option Addr) (kc lc : Nat) (vl : List (List Value)), iv = .int .i64 k ∧ k ≤ n ∧ Hid (St X w2 wr (.slice ka k kc) (.slice la k lc) k k ((L.take k).map fun p => .string (ks.getD p ⟨#[]⟩)) (vl.flatMap fun cs => cs)) ∧ Hid (ValsOf B w ts L vl k)) (fun iv _ => n - (intOf iv).toNat)
        case atStart => exact ⟨0, none, none, 0, 0, [], rfl, Nat.zero_le _, HST, Lib.hid ⟨rfl, fun i cs p t h => by simp at h⟩⟩
        case round =>
          obtain ⟨k, ka, la, kc, lc, vl, rfl, hk, HS2, HVL⟩ := hrel
          have h := HS2.out
          have hBX : Hid (Below w.heap.size w wr) := Lib.hid (HB2.out.trans (h.bel.mono (by have := HX.out; have := HX0.out.lt; omega)))
          have c5 := h.blk.cell (i := 5) rfl
          have c4 := h.blk.cell (i := 4) rfl
          have f5 := h.blk.free 5
          have f4 := h.blk.free 4
          have hXl := h.blk.lt
          have c0 := (HX0.out.below h.bel (by have := HX0.out.lt; have := HX.out; omega)).cell (i := 0) rfl
          clear h
          by_cases hlt : k < n
          · have hlt' : (k : Int) < n := by omega
            obtain ⟨p, hp⟩ : ∃ p, L[k]? = some p := get_some (by have := HLL.out; omega)
            have hpn : p < n := by
              have h1 := HORD.out.1.mem_iff.1 (List.mem_iff_getElem?.2 ⟨k, hp⟩)
              rw [HN.out] at h1
              simpa using h1
            have hpn' : (p : Int) < n := by omega
            obtain ⟨x, hx⟩ : ∃ x, ks[p]? = some x := get_some (by have := HN.out; omega)
            obtain ⟨nb, noff, rfl, hnb, hnc'⟩ := HK.out.get hx
            have cx := (hBX.out.cell (p := ⟨nb, noff + p, none⟩) (by show nb < _; omega)).trans hnc'
            have cp := (HBL.out.below HS2.out.bel (by have := HG3.out; omega)).cell (i := k) (v := .int .i64 (p : Int)) (by rw [List.getElem?_map, hp]; rfl)
            have hnbw : nb < wr.heap.size := by have := hBX.out.size; omega
            have hGw : G < wr.heap.size := by have := HG3.out; omega
            have hszw : w.heap.size < wr.heap.size := by have := hBX.out.size; have := HG.out; have := HG3.out; omega
            have HP := Lib.hid hp
            have HXX := Lib.hid hx
            clear hp hx hnc'
            have hkX : (Value.slice ka k kc).ownBlock ≠ some X := fun e => by have := HS2.out.ko.lt X e; omega
            go_wp2_with fail
            apply wp_mid (F := fun gg cap2 w1 => w1.setCell ⟨X, 5, none⟩ (.slice (some ⟨gg, 0, none⟩) (k + 1) cap2)) (R := fun gg cap2 w1 => w1.ownsRow (X + 1) 9 1 (.slice (some ⟨gg, 0, none⟩) (k + 1) cap2) (k + 1) (((L.take k).map fun p => .string (ks.getD p ⟨#[]⟩)) ++ [.string x]) ∧ ((wr.alloc (.cells #[.string x] 9)).drew).grownBy w1 (Value.slice ka k kc).ownBlock ∧ ((Value.slice ka k kc).ownBlock = some gg ∨ gg = wr.heap.size + 1))
            case h =>
              go_region_law (first | (refine step_append_lies _ (by rfl) _ _ _ (by rfl) (X + 1) 9 iS _ 1 16 Try.underlying22 siS szS s1S s2S rfl (by omega) (.slice ka k kc) k ((L.take k).map fun p => .string (ks.getD p ⟨#[]⟩)) (by rfl) ((HS2.out.ko.alloc _).drew) ⟨wr.heap.size, 0, none⟩ 1 1 [.string x] (by rfl) (by rfl) (World.news_of_block (cs := #[.string x]) (t := 9) (fr := (0, 0))  (Block.new wr [.string x] 9)) (by simp [Value.oneCell']) (by omega) (by unfold maxLen; omega) (by omega) (by simp; omega) (wr.heap.size + 1) (by simp) ?_; intro gg cap2 w1 hown1 hgrow hat hlt1; have hb1 := (HS2.out.blk.of_heap (Below.heap_alloc wr _ _ hXl)).of_heap (hgrow.block X (by show X < (wr.alloc _).heap.size; simp; omega) hkX.symm); have k5 := hb1.cell (i := 5) rfl; have g5 := hb1.free 5; clear hb1))
              all_goals exact ⟨gg, cap2, w1, ⟨hown1, hgrow, hat⟩, rfl, rfl⟩
            intro gg cap2 w1 hR
            have hs3 := HS2.out.keys hR.1 hR.2.1 rfl hR.2.2
            obtain ⟨w4, hw4⟩ : ∃ w4, w1.setCell ⟨X, 5, none⟩ (.slice (some ⟨gg, 0, none⟩) (k + 1) cap2) = w4 := ⟨_, rfl⟩
            rw [hw4] at hs3 ⊢
            have hBX4 : Hid (Below w.heap.size w w4) := Lib.hid (HB2.out.trans (hs3.bel.mono (by have := HX.out; have := HX0.out.lt; omega)))
            have d4 := hs3.blk.cell (i := 4) rfl
            have e4 := hs3.blk.free 4
            have hXl4 := hs3.blk.lt
            obtain ⟨t, ht⟩ : ∃ t, ts[p]? = some t := get_some (by have := HM.out; omega)
            obtain ⟨vb, vo, k2, b2, i2, s2, l2, ks2, la2, lc2, ka2, kc2, rfl, rfl, hvb, ⟨q0, q1, q2, q3, q4, q5⟩, hVt⟩ := HL.out.at ht
            have hvw : vb < w4.heap.size := by have := hBX4.out.size; omega
            have hq : ∀ (o : Nat) v, w.cell? ⟨vb, o, none⟩ = some v → w4.cell? ⟨vb, o, none⟩ = some v := fun o v h => (hBX4.out.cell (p := ⟨vb, o, none⟩) (by show vb < _; omega)).trans h
            have r0 := hq _ _ q0
            have r1 := hq _ _ q1
            have r2 := hq _ _ q2
            have r3 := hq _ _ q3
            have r4 := hq _ _ q4
            have r5 := hq _ _ q5
            have HS3 := Lib.hid hs3
            have HVT := Lib.hid hVt
            have HTP := Lib.hid ht
            have hlX : (Value.slice la k lc).ownBlock ≠ some X := fun e => by have := HS3.out.lo.lt X e; omega
            clear hs3 hR hw4 hq q0 q1 q2 q3 q4 q5 hVt ht c0 c4 c5 cp cx f4 f5 hkX
            go_wp2_with fail
            apply wp_mid (F := fun gg cap2 w1 => w1.setCell ⟨X, 4, none⟩ (.slice (some ⟨gg, 0, none⟩) (k + 1) cap2)) (R := fun gg cap2 w1 => w1.ownsRow (X + 1) 26 6 (.slice (some ⟨gg, 0, none⟩) (k + 1) cap2) (k + 1) ((vl.flatMap fun cs => cs) ++ [.int .i64 k2, .bool b2, .int .i64 i2, .string s2, .slice la2 l2.length lc2, .slice ka2 ks2.length kc2]) ∧ ((w4.alloc (.cells #[.int .i64 k2, .bool b2, .int .i64 i2, .string s2, .slice la2 l2.length lc2, .slice ka2 ks2.length kc2] 26)).drew).grownBy w1 (Value.slice la k lc).ownBlock ∧ ((Value.slice la k lc).ownBlock = some gg ∨ gg = w4.heap.size + 1))
            case h =>
              go_region_law (first | (refine step_append_lies _ (by rfl) _ _ _ (by rfl) (X + 1) 26 iV _ 6 88 Try.underlying23 siV szV s1V s2V rfl (by omega) (.slice la k lc) k (vl.flatMap fun cs => cs) (by rfl) ((HS3.out.lo.alloc _).drew) ⟨w4.heap.size, 0, none⟩ 1 1 [.int .i64 k2, .bool b2, .int .i64 i2, .string s2, .slice la2 l2.length lc2, .slice ka2 ks2.length kc2] (by rfl) (by rfl) (World.news_of_block (cs := #[.int .i64 k2, .bool b2, .int .i64 i2, .string s2, .slice la2 l2.length lc2, .slice ka2 ks2.length kc2]) (t := 26) (fr := (0, 0)) (Block.new w4 [.int .i64 k2, .bool b2, .int .i64 i2, .string s2, .slice la2 l2.length lc2, .slice ka2 ks2.length kc2] 26)) (by simp [Value.oneCell']) (by omega) (by unfold maxLen; omega) (by omega) (by simp; omega) (w4.heap.size + 1) (by simp) ?_; intro gg cap2 w1 hown1 hgrow hat hlt1; have hb1 := (HS3.out.blk.of_heap (Below.heap_alloc w4 _ _ hXl4)).of_heap (hgrow.block X (by show X < (w4.alloc _).heap.size; simp; omega) hlX.symm); have k5 := hb1.cell (i := 4) rfl; have g5 := hb1.free 4; clear hb1))
              all_goals exact ⟨gg, cap2, w1, ⟨hown1, hgrow, hat⟩, rfl, rfl⟩
            intro gg2 cap3 w5 hR
            have HS4 := Lib.hid (HS3.out.vals hR.1 hR.2.1 rfl hR.2.2)
            obtain ⟨w6, hw6⟩ : ∃ w6, w5.setCell ⟨X, 4, none⟩ (.slice (some ⟨gg2, 0, none⟩) (k + 1) cap3) = w6 := ⟨_, rfl⟩
            rw [hw6] at HS4 ⊢
            clear hR hw6 r0 r1 r2 r3 r4 r5 d4 e4
            go_wp2_with fail
            go_roundw
            case rel =>
              refine ⟨k + 1, some ⟨gg, 0, none⟩, some ⟨gg2, 0, none⟩, cap2, cap3, vl ++ [[.int .i64 k2, .bool b2, .int .i64 i2, .string s2, .slice la2 l2.length lc2, .slice ka2 ks2.length kc2]], by go_num, by omega, Lib.hid ?_, Lib.hid (HVL.out.snoc HP.out HTP.out rfl HVT.out)⟩
              have h1 := HS4.out
              have h2 : ks.getD p ⟨#[]⟩ = x := by rw [List.getD_eq_getElem?_getD, HXX.out]; rfl
              rw [take_succ_some HP.out, List.map_append, List.flatMap_append]
              simp only [List.map_cons, List.map_nil, List.flatMap_cons, List.flatMap_nil, List.append_nil, h2]
              exact h1
            case measure => simp [intOf]; omega
          · have hlt' : ¬ (k : Int) < n := by omega
            have hkn' : k = n := by omega
            have HSn : Hid (St X w2 wr (.slice ka n kc) (.slice la n lc) n n (L.map fun p => .string (ks.getD p ⟨#[]⟩)) (vl.flatMap fun cs => cs)) := Lib.hid (by have h := HS2.out; rw [hkn', List.take_of_length_le (by have := HLL.out; omega)] at h; exact h)
            have HVn : Hid (ValsOf B w ts L vl n) := Lib.hid (by have h := HVL.out; rw [hkn'] at h; exact h)
            have hmem : ∀ p ∈ L, p < ts.length := fun p hp => by
              have h1 := HORD.out.1.mem_iff.1 hp
              have := HN.out
              have := HM.out
              simp at h1
              omega
            have HV := Lib.hid (HSn.out.isV HVn.out HLL.out hmem hBX.out hB)
            have x0 := HSn.out.blk.cell (i := 0) rfl
            have x1 := HSn.out.blk.cell (i := 1) rfl
            have x2 := HSn.out.blk.cell (i := 2) rfl
            have x3 := HSn.out.blk.cell (i := 3) rfl
            have x4 := HSn.out.blk.cell (i := 4) rfl
            have x5 := HSn.out.blk.cell (i := 5) rfl
            have HX1r := Lib.hid (HX1.out.below HSn.out.bel (by have := HX1.out.lt; have := HX.out; omega))
            have HCH := Lib.hid (check_any (mapT ks ts L) _ wr.heap.size wr HV.out (Nat.le_refl _))
            have HWT : Hid (wtV (mapT ks ts L) ≤ 1048576) := Lib.hid (by rw [wt_mapT HORD.out.1 (by have := HN.out; have := HM.out; omega)]; exact hwt)
            clear c0 c4 c5 f4 f5 hkn' hmem hwt
            go_wp2_with fail
            refine HCH.out.mono ?_
            rintro e w6 ⟨rfl, hb6⟩
            have hX6 := HSn.out.blk.below hb6 hXl
            have hX16 := HX1r.out.below hb6 (by have := HX1r.out.lt; omega)
            have y0 := hX6.cell (i := 0) rfl
            have y1 := hX6.cell (i := 1) rfl
            have y2 := hX6.cell (i := 2) rfl
            have y3 := hX6.cell (i := 3) rfl
            have y4 := hX6.cell (i := 4) rfl
            have y5 := hX6.cell (i := 5) rfl
            have HX16 := Lib.hid hX16
            have HB6 := Lib.hid hb6
            have HBW6 := Lib.hid (hBX.out.trans (hb6.mono hBX.out.size))
            clear hb6 hX6 hX16 x0 x1 x2 x3 x4 x5
            cases hmay : mayB (mapT ks ts L) with
            | false =>
              have z0 := HX16.out.cell (i := 0) rfl
              have z1 := HX16.out.cell (i := 1) rfl
              have z2 := HX16.out.cell (i := 2) rfl
              have z3 := HX16.out.cell (i := 3) rfl
              have z4 := HX16.out.cell (i := 4) rfl
              have z5 := HX16.out.cell (i := 5) rfl
              have n0 := HX16.out.free 0
              have n1 := HX16.out.free 1
              have n2 := HX16.out.free 2
              have n3 := HX16.out.free 3
              have n4 := HX16.out.free 4
              have n5 := HX16.out.free 5
              have HMAY := Lib.hid hmay
              clear hmay
              obtain ⟨q0, q1, q2, q3, q4, q5⟩ := six_cells HX16.out (.int .i64 0) (.bool false) (.int .i64 0) (.string ⟨#[]⟩) (.slice none 0 0) (.slice none 0 0)
              simp only [Bool.false_eq_true, if_false]
              go_wp2_with fail
              refine bodyPost_ret (by simp [results, Try.results11, go_sem, q0, q1, q2, q3, q4, q5]; rfl) rfl ?_
              refine ⟨set6_below HBW6.out (w.heap.size + 1) 0 (by omega) _ _ _ _ _ _, .inr ⟨by have := HN.out; have := HM.out; omega, L, HORD.out, .inl ⟨HMAY.out, rfl⟩⟩⟩
            | true =>
              have HMAY := Lib.hid hmay
              clear hmay
              have HCP := Lib.hid (copy_any (mapT ks ts L) _ wr.heap.size w6 (IsV.below HB6.out (Nat.le_refl _) _ _ HV.out) HB6.out.size HWT.out)
              simp only [if_true]
              go_wp2_with fail
              refine HCP.out.mono ?_
              rintro e w7 ⟨cs, bs, rfl, hb7, ho7, hn7, hr7⟩
              have ho := ho7
              unfold mapT IsO at ho
              obtain ⟨la7, lc7, ka7, kc7, b71, b72, rfl, -, -, -, -⟩ := ho
              have hX17 := HX16.out.below hb7 HX16.out.lt
              have HX17 := Lib.hid hX17
              have z0 := HX17.out.cell (i := 0) rfl
              have z1 := HX17.out.cell (i := 1) rfl
              have z2 := HX17.out.cell (i := 2) rfl
              have z3 := HX17.out.cell (i := 3) rfl
              have z4 := HX17.out.cell (i := 4) rfl
              have z5 := HX17.out.cell (i := 5) rfl
              have n0 := HX17.out.free 0
              have n1 := HX17.out.free 1
              have n2 := HX17.out.free 2
              have n3 := HX17.out.free 3
              have n4 := HX17.out.free 4
              have n5 := HX17.out.free 5
              rw [List.length_map, List.length_map, HLL.out] at ho7 ⊢
              obtain ⟨q0, q1, q2, q3, q4, q5⟩ := six_cells HX17.out (.int .i64 5) (.bool false) (.int .i64 0) (.string ⟨#[]⟩) (.slice la7 n lc7) (.slice ka7 n kc7)
              have HO7 := Lib.hid ho7
              have HR7 := Lib.hid (show _ ∧ _ from ⟨hn7, hr7⟩)
              have HB7 := Lib.hid hb7
              clear ho7 hn7 hr7 hb7 hX17 y0 y1 y2 y3 y4 y5
              go_wp2_with fail
              refine bodyPost_ret (by simp [results, Try.results11, go_sem, q0, q1, q2, q3, q4, q5]; rfl) rfl ?_
              have hw6 : w.heap.size + 1 < w6.heap.size := HX16.out.lt
              refine ⟨set6_below (HBW6.out.trans (HB7.out.mono HBW6.out.size)) (w.heap.size + 1) 0 (by omega) _ _ _ _ _ _, .inr ⟨by have := HN.out; have := HM.out; omega, L, HORD.out, .inr ⟨HMAY.out, _, bs, rfl, ?_, HR7.out.1, fun b hb => ?_⟩⟩⟩
              · refine IsO.same _ _ _ HO7.out fun b hb => ?_
                exact set6_other w7 (w.heap.size + 1) 0 _ _ _ _ _ _ b (by have := (HR7.out.2 b hb).1; omega)
              · have h1 := HR7.out.2 b hb
                refine ⟨by have := HBW6.out.size; omega, ?_⟩
                show b < (set6 w7 (w.heap.size + 1) 0 _ _ _ _ _ _).heap.size
                rw [set6_size]
                exact h1.2
  · have hnm2 : ((n : Int) == m) = false := by simp; omega
    have hne : ¬ (n : Int) = m := by omega
    obtain ⟨W1, hW1⟩ : ∃ W1, (w.alloc (.cells #[.slice na n nc] 22)).alloc (.cells zeroC.toArray 26) = W1 := ⟨_, rfl⟩
    have hX1 : Block W1 (w.heap.size + 1) zeroC 26 := by
      rw [← hW1]
      have := Block.new (w.alloc (.cells #[.slice na n nc] 22)) zeroC 26
      simpa using this
    have x0 := hX1.cell (i := 0) rfl
    have x1 := hX1.cell (i := 1) rfl
    have x2 := hX1.cell (i := 2) rfl
    have x3 := hX1.cell (i := 3) rfl
    have x4 := hX1.cell (i := 4) rfl
    have x5 := hX1.cell (i := 5) rfl
    rw [← hW1] at x0 x1 x2 x3 x4 x5
    unfold zeroC at x0 x1 x2 x3 x4 x5
    clear hX1 hW1
    go_enter Try.func11, Try.ntmps11
    go_wp2_with fail
    refine bodyPost_ret (by simp [results, Try.results11, go_sem, x0, x1, x2, x3, x4, x5]; rfl) rfl ?_
    exact ⟨((Below.refl _ _).alloc (Nat.le_refl _) _).alloc (by simp) _, .inl ⟨by have := HN.out; have := HM.out; omega, rfl⟩⟩
end Go.Proofs.Ytdkgjbjlpofieaa
