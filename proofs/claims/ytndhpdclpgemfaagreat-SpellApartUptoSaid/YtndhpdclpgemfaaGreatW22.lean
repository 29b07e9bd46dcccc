/- Parts X39, X40 of this seat (pruned, scripts that are alike kept once as default arguments: q1, q2, ..). Conditions: each says its own. -/
import Derived.Test.YtndhpdclpgemfaaGreatW21
namespace Go.Proofs.YtndhpdclpgemfaaGreat
open Go.RowKit Go.Shelf
set_option linter.unusedSimpArgs false
set_option linter.unusedVariables false
set_option maxRecDepth 100000
set_option maxHeartbeats 64000000 in
theorem works_any (HG : GroupsAt wCl) (w : World) (hML : ML w) :
    Calls Tryz.prog 9 #[] w fun e w' => e = .returned (.bool true) ∧ Below w.heap.size w w' := by
 obtain ⟨W1, hW1⟩ : ∃ W, w.alloc (.cells #[.int .i64 2, .string ⟨#[120]⟩, .int .i64 0, .bool false, .int .i64 0, .string ⟨#[]⟩, .slice none 0 0, .slice none 0 0, .slice none 0 0, .slice none 0 0] 36) = W := ⟨_, rfl⟩
 have bW1 : Below w.heap.size w W1 := by rw [← hW1]; exact (Below.refl _ _).alloc (Nat.le_refl _) _
 have kW1 : Block W1 w.heap.size [.int .i64 2, .string ⟨#[120]⟩, .int .i64 0, .bool false, .int .i64 0, .string ⟨#[]⟩, .slice none 0 0, .slice none 0 0, .slice none 0 0, .slice none 0 0] 36 := by rw [← hW1]; exact Block.new w [.int .i64 2, .string ⟨#[120]⟩, .int .i64 0, .bool false, .int .i64 0, .string ⟨#[]⟩, .slice none 0 0, .slice none 0 0, .slice none 0 0, .slice none 0 0] 36
 have sW1 : w.heap.size < W1.heap.size := kW1.lt
 obtain ⟨W2, hW2⟩ : ∃ W, W1.alloc (.cells #[.int .i64 2, .string ⟨#[120]⟩, .int .i64 0, .bool false, .int .i64 0, .string ⟨#[]⟩, .slice none 0 0, .slice none 0 0, .slice none 0 0, .slice none 0 0, .int .i64 2, .string ⟨#[120]⟩, .int .i64 0, .bool false, .int .i64 0, .string ⟨#[]⟩, .slice none 0 0, .slice none 0 0, .slice none 0 0, .slice none 0 0] 36) = W := ⟨_, rfl⟩
 have bW2 : Below W1.heap.size W1 W2 := by rw [← hW2]; exact (Below.refl _ _).alloc (Nat.le_refl _) _
 have kW2 : Block W2 W1.heap.size [.int .i64 2, .string ⟨#[120]⟩, .int .i64 0, .bool false, .int .i64 0, .string ⟨#[]⟩, .slice none 0 0, .slice none 0 0, .slice none 0 0, .slice none 0 0, .int .i64 2, .string ⟨#[120]⟩, .int .i64 0, .bool false, .int .i64 0, .string ⟨#[]⟩, .slice none 0 0, .slice none 0 0, .slice none 0 0, .slice none 0 0] 36 := by rw [← hW2]; exact Block.new W1 [.int .i64 2, .string ⟨#[120]⟩, .int .i64 0, .bool false, .int .i64 0, .string ⟨#[]⟩, .slice none 0 0, .slice none 0 0, .slice none 0 0, .slice none 0 0, .int .i64 2, .string ⟨#[120]⟩, .int .i64 0, .bool false, .int .i64 0, .string ⟨#[]⟩, .slice none 0 0, .slice none 0 0, .slice none 0 0, .slice none 0 0] 36
 have sW2 : W1.heap.size < W2.heap.size := kW2.lt
 obtain ⟨W3, hW3⟩ : ∃ W, W2.alloc (.cells #[.int .i64 10, .string ⟨#[43]⟩, .int .i64 0, .bool false, .int .i64 0, .string ⟨#[]⟩, .slice none 0 0, .slice none 0 0, .slice none 0 0, .slice (some ⟨W1.heap.size, 0, none⟩) 2 2] 36) = W := ⟨_, rfl⟩
 have bW3 : Below W2.heap.size W2 W3 := by rw [← hW3]; exact (Below.refl _ _).alloc (Nat.le_refl _) _
 have kW3 : Block W3 W2.heap.size [.int .i64 10, .string ⟨#[43]⟩, .int .i64 0, .bool false, .int .i64 0, .string ⟨#[]⟩, .slice none 0 0, .slice none 0 0, .slice none 0 0, .slice (some ⟨W1.heap.size, 0, none⟩) 2 2] 36 := by rw [← hW3]; exact Block.new W2 [.int .i64 10, .string ⟨#[43]⟩, .int .i64 0, .bool false, .int .i64 0, .string ⟨#[]⟩, .slice none 0 0, .slice none 0 0, .slice none 0 0, .slice (some ⟨W1.heap.size, 0, none⟩) 2 2] 36
 have sW3 : W2.heap.size < W3.heap.size := kW3.lt
 obtain ⟨W4, hW4⟩ : ∃ W, W3.alloc (.cells #[.int .i64 10, .string ⟨#[43]⟩, .int .i64 0, .bool false, .int .i64 0, .string ⟨#[]⟩, .slice none 0 0, .slice none 0 0, .slice none 0 0, .slice (some ⟨W1.heap.size, 0, none⟩) 2 2, .int .i64 2, .string ⟨#[120]⟩, .int .i64 0, .bool false, .int .i64 0, .string ⟨#[]⟩, .slice none 0 0, .slice none 0 0, .slice none 0 0, .slice none 0 0] 36) = W := ⟨_, rfl⟩
 have bW4 : Below W3.heap.size W3 W4 := by rw [← hW4]; exact (Below.refl _ _).alloc (Nat.le_refl _) _
 have kW4 : Block W4 W3.heap.size [.int .i64 10, .string ⟨#[43]⟩, .int .i64 0, .bool false, .int .i64 0, .string ⟨#[]⟩, .slice none 0 0, .slice none 0 0, .slice none 0 0, .slice (some ⟨W1.heap.size, 0, none⟩) 2 2, .int .i64 2, .string ⟨#[120]⟩, .int .i64 0, .bool false, .int .i64 0, .string ⟨#[]⟩, .slice none 0 0, .slice none 0 0, .slice none 0 0, .slice none 0 0] 36 := by rw [← hW4]; exact Block.new W3 [.int .i64 10, .string ⟨#[43]⟩, .int .i64 0, .bool false, .int .i64 0, .string ⟨#[]⟩, .slice none 0 0, .slice none 0 0, .slice none 0 0, .slice (some ⟨W1.heap.size, 0, none⟩) 2 2, .int .i64 2, .string ⟨#[120]⟩, .int .i64 0, .bool false, .int .i64 0, .string ⟨#[]⟩, .slice none 0 0, .slice none 0 0, .slice none 0 0, .slice none 0 0] 36
 have sW4 : W3.heap.size < W4.heap.size := kW4.lt
 have hx : ∀ (B : Nat) (v : World), IsX B v [.int .i64 2, .string ⟨#[120]⟩, .int .i64 0, .bool false, .int .i64 0, .string ⟨#[]⟩, .slice none 0 0, .slice none 0 0, .slice none 0 0, .slice none 0 0] wX := fun B v => args_isX (xa := none) (az := []) (by unfold in64; omega) nil_sl nil_row
 have hsum : ∀ v : World, Below W2.heap.size W2 v → IsX W2.heap.size v [.int .i64 10, .string ⟨#[43]⟩, .int .i64 0, .bool false, .int .i64 0, .string ⟨#[]⟩, .slice none 0 0, .slice none 0 0, .slice none 0 0, .slice (some ⟨W1.heap.size, 0, none⟩) 2 2] wSum := fun v hv => args_isX (az := [wX, wX]) (by unfold in64; omega) ⟨⟨Nat.le_refl _, by decide⟩, fun h => by cases h⟩ (rowR_block (css := [[.int .i64 2, .string ⟨#[120]⟩, .int .i64 0, .bool false, .int .i64 0, .string ⟨#[]⟩, .slice none 0 0, .slice none 0 0, .slice none 0 0, .slice none 0 0], [.int .i64 2, .string ⟨#[120]⟩, .int .i64 0, .bool false, .int .i64 0, .string ⟨#[]⟩, .slice none 0 0, .slice none 0 0, .slice none 0 0, .slice none 0 0]]) (kW2.below hv kW2.lt) rfl kW2.lt (AllR.cons (hx _ _) rfl (AllR.cons (hx _ _) rfl AllR.nil)))
 have hb24 : Below W2.heap.size W2 W4 := bW3.trans (bW4.mono (Nat.le_of_lt sW3))
 have hmul : IsX W4.heap.size W4 [.int .i64 10, .string ⟨#[42]⟩, .int .i64 0, .bool false, .int .i64 0, .string ⟨#[]⟩, .slice none 0 0, .slice none 0 0, .slice none 0 0, .slice (some ⟨W3.heap.size, 0, none⟩) 2 2] wMul := args_isX (az := [wSum, wX]) (by unfold in64; omega) ⟨⟨Nat.le_refl _, by decide⟩, fun h => by cases h⟩ (rowR_block (css := [[.int .i64 10, .string ⟨#[43]⟩, .int .i64 0, .bool false, .int .i64 0, .string ⟨#[]⟩, .slice none 0 0, .slice none 0 0, .slice none 0 0, .slice (some ⟨W1.heap.size, 0, none⟩) 2 2], [.int .i64 2, .string ⟨#[120]⟩, .int .i64 0, .bool false, .int .i64 0, .string ⟨#[]⟩, .slice none 0 0, .slice none 0 0, .slice none 0 0, .slice none 0 0]]) kW4 rfl kW4.lt (AllR.cons (IsX.mono (by omega) _ _ (hsum W4 hb24)) rfl (AllR.cons (hx _ _) rfl AllR.nil)))
 have hm4 : ML W4 := (((hML.below bW1).below bW2).below bW3).below bW4
 have HE := Lib.hid (sexpr_any wMul _ W4.heap.size W4 hmul (Nat.le_refl _) hm4 (by decide))
 rw [if_pos wMul_deep, wMul_text] at HE
 obtain ⟨HX1, HX2, HX3, HX4⟩ := hd4 hW1 hW2 hW3 hW4
 have HS : Hid (w.heap.size < W1.heap.size ∧ W1.heap.size < W2.heap.size ∧ W2.heap.size < W3.heap.size ∧ W3.heap.size < W4.heap.size) := Lib.hid ⟨sW1, sW2, sW3, sW4⟩
 have HB4 : Hid (Below w.heap.size w W4) := Lib.hid (((bW1.trans (bW2.mono (by omega))).trans (bW3.mono (by omega))).trans (bW4.mono (by omega)))
 obtain ⟨HB24, HM4, HSUM, HXX⟩ := hd4 hb24 hm4 hsum hx
 have HK1 : Hid (∀ v, Below W4.heap.size W4 v → Block v w.heap.size [.int .i64 2, .string ⟨#[120]⟩, .int .i64 0, .bool false, .int .i64 0, .string ⟨#[]⟩, .slice none 0 0, .slice none 0 0, .slice none 0 0, .slice none 0 0] 36) := Lib.hid (fun v hv => (kW1.below (((bW2.mono (by omega)).trans (bW3.mono (by omega))).trans (bW4.mono (by omega)) : Below W1.heap.size W1 W4) (by omega)).below hv (by omega))
 have HK3 : Hid (∀ v, Below W4.heap.size W4 v → Block v W2.heap.size [.int .i64 10, .string ⟨#[43]⟩, .int .i64 0, .bool false, .int .i64 0, .string ⟨#[]⟩, .slice none 0 0, .slice none 0 0, .slice none 0 0, .slice (some ⟨W1.heap.size, 0, none⟩) 2 2] 36) := Lib.hid (fun v hv => ((kW3.below bW4 (by omega))).below hv (by omega))
 have c10 : W1.cell? ⟨w.heap.size, 0, none⟩ = some _ := kW1.cell (i := 0) rfl
 have c11 : W1.cell? ⟨w.heap.size, 1, none⟩ = some _ := kW1.cell (i := 1) rfl
 have c12 : W1.cell? ⟨w.heap.size, 2, none⟩ = some _ := kW1.cell (i := 2) rfl
 have c13 : W1.cell? ⟨w.heap.size, 3, none⟩ = some _ := kW1.cell (i := 3) rfl
 have c14 : W1.cell? ⟨w.heap.size, 4, none⟩ = some _ := kW1.cell (i := 4) rfl
 have c15 : W1.cell? ⟨w.heap.size, 5, none⟩ = some _ := kW1.cell (i := 5) rfl
 have c16 : W1.cell? ⟨w.heap.size, 6, none⟩ = some _ := kW1.cell (i := 6) rfl
 have c17 : W1.cell? ⟨w.heap.size, 7, none⟩ = some _ := kW1.cell (i := 7) rfl
 have c18 : W1.cell? ⟨w.heap.size, 8, none⟩ = some _ := kW1.cell (i := 8) rfl
 have c19 : W1.cell? ⟨w.heap.size, 9, none⟩ = some _ := kW1.cell (i := 9) rfl
 have c20 : W3.cell? ⟨w.heap.size, 0, none⟩ = some _ := (kW1.below ((bW2.mono (by omega)).trans (bW3.mono (by omega)) : Below W1.heap.size W1 W3) (by omega)).cell (i := 0) rfl
 have c21 : W3.cell? ⟨w.heap.size, 1, none⟩ = some _ := (kW1.below ((bW2.mono (by omega)).trans (bW3.mono (by omega)) : Below W1.heap.size W1 W3) (by omega)).cell (i := 1) rfl
 have c22 : W3.cell? ⟨w.heap.size, 2, none⟩ = some _ := (kW1.below ((bW2.mono (by omega)).trans (bW3.mono (by omega)) : Below W1.heap.size W1 W3) (by omega)).cell (i := 2) rfl
 have c23 : W3.cell? ⟨w.heap.size, 3, none⟩ = some _ := (kW1.below ((bW2.mono (by omega)).trans (bW3.mono (by omega)) : Below W1.heap.size W1 W3) (by omega)).cell (i := 3) rfl
 have c24 : W3.cell? ⟨w.heap.size, 4, none⟩ = some _ := (kW1.below ((bW2.mono (by omega)).trans (bW3.mono (by omega)) : Below W1.heap.size W1 W3) (by omega)).cell (i := 4) rfl
 have c25 : W3.cell? ⟨w.heap.size, 5, none⟩ = some _ := (kW1.below ((bW2.mono (by omega)).trans (bW3.mono (by omega)) : Below W1.heap.size W1 W3) (by omega)).cell (i := 5) rfl
 have c26 : W3.cell? ⟨w.heap.size, 6, none⟩ = some _ := (kW1.below ((bW2.mono (by omega)).trans (bW3.mono (by omega)) : Below W1.heap.size W1 W3) (by omega)).cell (i := 6) rfl
 have c27 : W3.cell? ⟨w.heap.size, 7, none⟩ = some _ := (kW1.below ((bW2.mono (by omega)).trans (bW3.mono (by omega)) : Below W1.heap.size W1 W3) (by omega)).cell (i := 7) rfl
 have c28 : W3.cell? ⟨w.heap.size, 8, none⟩ = some _ := (kW1.below ((bW2.mono (by omega)).trans (bW3.mono (by omega)) : Below W1.heap.size W1 W3) (by omega)).cell (i := 8) rfl
 have c29 : W3.cell? ⟨w.heap.size, 9, none⟩ = some _ := (kW1.below ((bW2.mono (by omega)).trans (bW3.mono (by omega)) : Below W1.heap.size W1 W3) (by omega)).cell (i := 9) rfl
 have e2 : W2.heap.size = W1.heap.size + 1 := by rw [← hW2]; simp
 have HE2 := Lib.hid e2
 have c30 : W3.cell? ⟨W1.heap.size + 1, 0, none⟩ = some (.int .i64 10) := by rw [← e2]; exact kW3.cell (i := 0) rfl
 have c31 : W3.cell? ⟨W1.heap.size + 1, 1, none⟩ = some (.string ⟨#[43]⟩) := by rw [← e2]; exact kW3.cell (i := 1) rfl
 have c32 : W3.cell? ⟨W1.heap.size + 1, 2, none⟩ = some (.int .i64 0) := by rw [← e2]; exact kW3.cell (i := 2) rfl
 have c33 : W3.cell? ⟨W1.heap.size + 1, 3, none⟩ = some (.bool false) := by rw [← e2]; exact kW3.cell (i := 3) rfl
 have c34 : W3.cell? ⟨W1.heap.size + 1, 4, none⟩ = some (.int .i64 0) := by rw [← e2]; exact kW3.cell (i := 4) rfl
 have c35 : W3.cell? ⟨W1.heap.size + 1, 5, none⟩ = some (.string ⟨#[]⟩) := by rw [← e2]; exact kW3.cell (i := 5) rfl
 have c36 : W3.cell? ⟨W1.heap.size + 1, 6, none⟩ = some (.slice none 0 0) := by rw [← e2]; exact kW3.cell (i := 6) rfl
 have c37 : W3.cell? ⟨W1.heap.size + 1, 7, none⟩ = some (.slice none 0 0) := by rw [← e2]; exact kW3.cell (i := 7) rfl
 have c38 : W3.cell? ⟨W1.heap.size + 1, 8, none⟩ = some (.slice none 0 0) := by rw [← e2]; exact kW3.cell (i := 8) rfl
 have c39 : W3.cell? ⟨W1.heap.size + 1, 9, none⟩ = some (.slice (some ⟨W1.heap.size, 0, none⟩) 2 2) := by rw [← e2]; exact kW3.cell (i := 9) rfl
 clear e2 hW1 hW2 hW3 hW4 bW1 bW2 bW3 bW4 kW1 kW2 kW3 kW4 sW1 sW2 sW3 sW4 hx hsum hb24 hmul hm4
 go_enter Tryz.func9, Tryz.ntmps9
 go_upto_region 2 with fail
 rw [HX1.out]
 go_upto_region 3 with fail
 rw [HX2.out, HX3.out]
 go_wp2_with fail
 rw [HX4.out]
 refine HE.out.mono ?_
 rintro e w5 ⟨rfl, hb5⟩
 clear c10 c20 c30 c11 c21 c31 c12 c22 c32 c13 c23 c33 c14 c24 c34 c15 c25 c35 c16 c26 c36 c17 c27 c37 c18 c28 c38 c19 c29 c39
 obtain ⟨W6, hW6⟩ : ∃ W, w5.alloc (.cells #[.int .i64 10, .string ⟨#[43]⟩, .int .i64 0, .bool false, .int .i64 0, .string ⟨#[]⟩, .slice none 0 0, .slice none 0 0, .slice none 0 0, .slice (some ⟨W1.heap.size, 0, none⟩) 2 2, .string ⟨#[121]⟩] 66) = W := ⟨_, rfl⟩
 have bW6 : Below w5.heap.size w5 W6 := by rw [← hW6]; exact (Below.refl _ _).alloc (Nat.le_refl _) _
 have kW6 : Block W6 w5.heap.size [.int .i64 10, .string ⟨#[43]⟩, .int .i64 0, .bool false, .int .i64 0, .string ⟨#[]⟩, .slice none 0 0, .slice none 0 0, .slice none 0 0, .slice (some ⟨W1.heap.size, 0, none⟩) 2 2, .string ⟨#[121]⟩] 66 := by rw [← hW6]; exact Block.new w5 [.int .i64 10, .string ⟨#[43]⟩, .int .i64 0, .bool false, .int .i64 0, .string ⟨#[]⟩, .slice none 0 0, .slice none 0 0, .slice none 0 0, .slice (some ⟨W1.heap.size, 0, none⟩) 2 2, .string ⟨#[121]⟩] 66
 have sW6 : w5.heap.size < W6.heap.size := kW6.lt
 obtain ⟨W7, hW7⟩ : ∃ W, W6.alloc (.cells #[.int .i64 9, .slice none 0 0, .slice none 0 0, .int .i64 0, .string ⟨#[]⟩, .int .i64 0, .bool false, .int .i64 0, .string ⟨#[]⟩, .slice none 0 0, .slice none 0 0, .slice none 0 0, .slice none 0 0, .string ⟨#[]⟩, .slice (some ⟨w5.heap.size, 0, none⟩) 1 1, .bool false, .slice none 0 0, .slice none 0 0, .slice none 0 0, .slice none 0 0, .slice none 0 0, .bool false] 42) = W := ⟨_, rfl⟩
 have bW7 : Below W6.heap.size W6 W7 := by rw [← hW7]; exact (Below.refl _ _).alloc (Nat.le_refl _) _
 have kW7 : Block W7 W6.heap.size [.int .i64 9, .slice none 0 0, .slice none 0 0, .int .i64 0, .string ⟨#[]⟩, .int .i64 0, .bool false, .int .i64 0, .string ⟨#[]⟩, .slice none 0 0, .slice none 0 0, .slice none 0 0, .slice none 0 0, .string ⟨#[]⟩, .slice (some ⟨w5.heap.size, 0, none⟩) 1 1, .bool false, .slice none 0 0, .slice none 0 0, .slice none 0 0, .slice none 0 0, .slice none 0 0, .bool false] 42 := by rw [← hW7]; exact Block.new W6 [.int .i64 9, .slice none 0 0, .slice none 0 0, .int .i64 0, .string ⟨#[]⟩, .int .i64 0, .bool false, .int .i64 0, .string ⟨#[]⟩, .slice none 0 0, .slice none 0 0, .slice none 0 0, .slice none 0 0, .string ⟨#[]⟩, .slice (some ⟨w5.heap.size, 0, none⟩) 1 1, .bool false, .slice none 0 0, .slice none 0 0, .slice none 0 0, .slice none 0 0, .slice none 0 0, .bool false] 42
 have sW7 : W6.heap.size < W7.heap.size := kW7.lt
 have h45 := hb5.size
 have hss := HS.out
 have hs7 : IsX W7.heap.size W7 [.int .i64 10, .string ⟨#[43]⟩, .int .i64 0, .bool false, .int .i64 0, .string ⟨#[]⟩, .slice none 0 0, .slice none 0 0, .slice none 0 0, .slice (some ⟨W1.heap.size, 0, none⟩) 2 2] wSum := IsX.mono (by omega) _ _ (HSUM.out W7 (HB24.out.trans ((hb5.mono (by omega)).trans ((bW6.mono (by omega)).trans (bW7.mono (by omega))))))
 have hit : RowR (IsIt W7.heap.size W7) 11 W7.heap.size W7 (some ⟨w5.heap.size, 0, none⟩) [⟨wSum, ⟨#[121]⟩⟩] := rowR_block (css := [[.int .i64 10, .string ⟨#[43]⟩, .int .i64 0, .bool false, .int .i64 0, .string ⟨#[]⟩, .slice none 0 0, .slice none 0 0, .slice none 0 0, .slice (some ⟨W1.heap.size, 0, none⟩) 2 2, .string ⟨#[121]⟩]]) (kW6.below bW7 (by omega)) rfl (by omega) (AllR.cons ⟨[.int .i64 10, .string ⟨#[43]⟩, .int .i64 0, .bool false, .int .i64 0, .string ⟨#[]⟩, .slice none 0 0, .slice none 0 0, .slice none 0 0, .slice (some ⟨W1.heap.size, 0, none⟩) 2 2], rfl, hs7⟩ rfl AllR.nil)
 have hcl : IsCl W7.heap.size W7 [.int .i64 9, .slice none 0 0, .slice none 0 0, .int .i64 0, .string ⟨#[]⟩, .int .i64 0, .bool false, .int .i64 0, .string ⟨#[]⟩, .slice none 0 0, .slice none 0 0, .slice none 0 0, .slice none 0 0, .string ⟨#[]⟩, .slice (some ⟨w5.heap.size, 0, none⟩) 1 1, .bool false, .slice none 0 0, .slice none 0 0, .slice none 0 0, .slice none 0 0, .slice none 0 0, .bool false] wCl := ⟨none, 0, none, 0, zeroX, some ⟨w5.heap.size, 0, none⟩, 1, none, 0, none, 0, none, 0, none, 0, none, 0, rfl, by show in64 9; unfold in64; omega, nil_sl, nil_row, nil_sl, nil_row, zero_isX _ _, ⟨⟨Nat.le_refl _, by decide⟩, fun h => by cases h⟩, hit, nil_sl, nil_row, nil_sl, nil_row, nil_sl, nil_row, nil_sl, nil_row, nil_sl, Cells.nil⟩
 have e6 : W6.heap.size = w5.heap.size + 1 := by rw [← hW6]; simp
 have hsm : IsSm W7.heap.size W7 [.slice (some ⟨w5.heap.size + 1, 0, none⟩) 1 1] ⟨[wCl]⟩ := by rw [← e6]; exact ⟨_, 1, rfl, ⟨⟨Nat.le_refl _, by decide⟩, fun h => by cases h⟩, rowR_block (css := [[.int .i64 9, .slice none 0 0, .slice none 0 0, .int .i64 0, .string ⟨#[]⟩, .int .i64 0, .bool false, .int .i64 0, .string ⟨#[]⟩, .slice none 0 0, .slice none 0 0, .slice none 0 0, .slice none 0 0, .string ⟨#[]⟩, .slice (some ⟨w5.heap.size, 0, none⟩) 1 1, .bool false, .slice none 0 0, .slice none 0 0, .slice none 0 0, .slice none 0 0, .slice none 0 0, .bool false]]) kW7 rfl kW7.lt (AllR.cons hcl rfl AllR.nil)⟩
 have hm7 : ML W7 := ((HM4.out.below hb5).below bW6).below bW7
 have HP := Lib.hid (pprint_any ⟨[wCl]⟩ (fun c hc => by rw [List.mem_singleton.1 hc]; exact HG) _ W7.heap.size W7 hsm (Nat.le_refl _) hm7 (by decide))
 rw [wCl_print.1, wCl_print.2] at HP
 have HR : Hid (∀ v : World, Below W7.heap.size W7 v → Calls Tryz.prog 12 #[.agg #[.slice none 0 0]] v fun e w' => e = .returned (.bool false) ∧ Below v.heap.size v w') := Lib.hid (fun v hv => pright_any ⟨[]⟩ (fun c hc => by simp at hc) [.slice none 0 0] 0 v ⟨none, 0, rfl, nil_sl, nil_row⟩ (Nat.zero_le _) (hm7.below hv) (by decide))
 have HX6 := Lib.hid hW6
 have HX7 := Lib.hid hW7
 have HB7 : Hid (Below w.heap.size w W7) := Lib.hid (HB4.out.trans ((hb5.mono (by omega)).trans ((bW6.mono (by omega)).trans (bW7.mono (by omega)))))
 have d0 : w5.cell? ⟨W1.heap.size + 1, 0, none⟩ = some (.int .i64 10) := by rw [← HE2.out]; exact (HK3.out w5 hb5).cell (i := 0) rfl
 have d1 : w5.cell? ⟨W1.heap.size + 1, 1, none⟩ = some (.string ⟨#[43]⟩) := by rw [← HE2.out]; exact (HK3.out w5 hb5).cell (i := 1) rfl
 have d2 : w5.cell? ⟨W1.heap.size + 1, 2, none⟩ = some (.int .i64 0) := by rw [← HE2.out]; exact (HK3.out w5 hb5).cell (i := 2) rfl
 have d3 : w5.cell? ⟨W1.heap.size + 1, 3, none⟩ = some (.bool false) := by rw [← HE2.out]; exact (HK3.out w5 hb5).cell (i := 3) rfl
 have d4 : w5.cell? ⟨W1.heap.size + 1, 4, none⟩ = some (.int .i64 0) := by rw [← HE2.out]; exact (HK3.out w5 hb5).cell (i := 4) rfl
 have d5 : w5.cell? ⟨W1.heap.size + 1, 5, none⟩ = some (.string ⟨#[]⟩) := by rw [← HE2.out]; exact (HK3.out w5 hb5).cell (i := 5) rfl
 have d6 : w5.cell? ⟨W1.heap.size + 1, 6, none⟩ = some (.slice none 0 0) := by rw [← HE2.out]; exact (HK3.out w5 hb5).cell (i := 6) rfl
 have d7 : w5.cell? ⟨W1.heap.size + 1, 7, none⟩ = some (.slice none 0 0) := by rw [← HE2.out]; exact (HK3.out w5 hb5).cell (i := 7) rfl
 have d8 : w5.cell? ⟨W1.heap.size + 1, 8, none⟩ = some (.slice none 0 0) := by rw [← HE2.out]; exact (HK3.out w5 hb5).cell (i := 8) rfl
 have d9 : w5.cell? ⟨W1.heap.size + 1, 9, none⟩ = some (.slice (some ⟨W1.heap.size, 0, none⟩) 2 2) := by rw [← HE2.out]; exact (HK3.out w5 hb5).cell (i := 9) rfl
 clear e6 hW6 hW7 bW6 bW7 kW6 kW7 sW6 sW7 h45 hss hs7 hit hcl hsm hm7 hb5
 go_wp2_with fail
 rw [HX6.out, HX7.out]
 refine HP.out.mono ?_
 rintro e w8 ⟨rfl, hb8⟩
 clear d0 d1 d2 d3 d4 d5 d6 d7 d8 d9
 have HR8 := Lib.hid (HR.out w8 hb8)
 have HB8 := Lib.hid (HB7.out.trans (hb8.mono HB7.out.size))
 clear hb8
 go_wp2_with fail
 refine HR8.out.mono ?_
 rintro e w9 ⟨rfl, hb9⟩
 have HB9 := Lib.hid (HB8.out.trans (hb9.mono HB8.out.size))
 clear hb9
 go_wp2_with fail
 go_ret
 exact ⟨by rfl, HB9.out⟩
end Go.Proofs.YtndhpdclpgemfaaGreat
namespace Go.Proofs.YtndhpdclpgemfaaGreat
open Go.RowKit
set_option linter.unusedSimpArgs false
set_option linter.unusedVariables false
set_option maxRecDepth 100000
theorem partsV_le (t : Vt) : partsV t ≤ wtV t := by
 refine t.down (p := fun t => partsV t ≤ wtV t) fun k b i s l ks ih => ?_
 have h : ∀ l : List Vt, (∀ (j : Nat) t, l[j]? = some t → partsV t ≤ wtV t) → partsVs l ≤ wtVs l := by
  intro l
  induction l with
  | nil => intro _; simp [partsVs, wtVs]
  | cons t ts ih2 =>
   intro h
   have h1 := h 0 t rfl
   have h2 := ih2 (fun j u hu => h (j + 1) u (by simpa using hu))
   simp only [partsVs, wtVs]
   omega
 have := h l ih
 simp only [partsV, wtV]
 omega
def WeighSaid (t : Ex) : Prop := ∀ (cs : List Value) (B : Nat) (w : World) (most : Int), IsX B w cs t → B ≤ w.heap.size → wtX t ≤ 1099511627776 →
  Calls Tryz.prog 22 #[.agg cs.toArray, .int .i64 most] w fun e w' => (∃ n, e = .returned (.int .i64 n)) ∧ Below w.heap.size w w'
theorem Sg117636 {P : Prop} (h : P := by
 obtain ⟨N, j, u, rfl, rfl, hj, rfl⟩ := hrel
 by_cases hlt : j < m
 ·have hlt' : (j : Int) < m := by omega
  have hj0 : (0 : Int) ≤ (j : Int) := by omega
  have hwi : IntKind.i64.wrap ((j : Int) + 1) = (j : Int) + 1 := IntWalk.i64_in _ (by omega)
  obtain ⟨t2, ht2⟩ := get_some (l := az) (j := j) (by have := HM.out; omega)
  obtain ⟨eb, eo, cs2, rfl, heb, hcs, hx2⟩ := HAT.out j t2 ht2
  first
  | (guard_hyp z117636a; have HIH2 := Lib.hid (fun (u : Ext w.heap.size w) mo => weigh_any t2 cs2 B u.w mo (hx2 u) (Nat.le_trans HB.out u.below.size) (HWT.out j t2 ht2)))
  | (have HIH2 := Lib.hid (fun u mo => HIH.out j t2 ht2 cs2 u mo (hx2 u)))
  obtain ⟨op2, nm2, v2, ns2, az2⟩ := t2
  obtain ⟨k2, b2, i2, s2, l2, ks2, la2, lc2, ka2, kc2, na2, nc2, xa2, xc2, -, rfl, -⟩ := (hx2 u).cells
  first
  | (guard_hyp z117636b; have g0 : ∀ u : Ext (w.heap.size + 1) W0, u.w.cell? ⟨eb, eo + j * 10, none⟩ = some (.int .i64 op2) := fun u => hcs u 0 _ rfl)
  | (have g0 : ∀ u : Ext w.heap.size w, u.w.cell? ⟨eb, eo + j * 10, none⟩ = some (.int .i64 op2) := fun u => hcs u 0 _ rfl)
  obtain ⟨g1, g2, g3, g4, g5, g6, g7, g8, g9⟩ := gf9 hcs
  clear hcs hx2 ht2
  generalize l2.length = y1 at *
  generalize ks2.length = y2 at *
  generalize ns2.length = y3 at *
  generalize az2.length = y4 at *
  by_cases hmo : N < most
  ·have hmo' : decide (N < most) = true := decide_eq_true hmo
   go_wp2_with fail
   refine (HIH2.out _ _).mono ?_
   rintro e w3 ⟨⟨q, rfl⟩, hb3⟩
   first
   | (guard_hyp z117636a; obtain ⟨u3, hu3⟩ := ext_next _ (Nat.le_refl _) hb3)
   | (obtain ⟨u3, hu3⟩ := ext_next _ HSZ.out hb3)
   subst hu3
   clear hb3
   go_wp2_with fail
   go_roundw
   case rel => exact ⟨_, j + 1, u3, rfl, by go_num, by omega, rfl⟩
   case measure => simp [intOf]; omega
  ·have hmo' : decide (N < most) = false := decide_eq_false hmo
   go_wp2_with fail
   go_ret
   first
   | (guard_hyp z117636b; exact ⟨⟨_, rfl⟩, HBE.out _⟩)
   | (exact ⟨⟨_, rfl⟩, u.below⟩)
 ·have hlt' : ¬ (j : Int) < m := by omega
  go_wp2_with fail
  go_ret
  first
  | (guard_hyp z117636b; exact ⟨⟨_, rfl⟩, HBE.out _⟩)
  | (exact ⟨⟨_, rfl⟩, u.below⟩)) : P := h
set_option maxHeartbeats 64000000 in
theorem weigh_any (t : Ex) : WeighSaid t := by
 refine t.down (p := WeighSaid) fun op nm v ns az ih => ?_
 intro cs B w most hX hB hw
 have hX0 := hX
 obtain ⟨k, b, i, s, l, ks, la, lc, ka, kc, na, nc, xa, xc, hv, rfl, hop, hV, hNA, hXA, hNS, hAZ⟩ := hX.cells
 clear hX
 have hn0 : nm.size ≤ 1099511627776 := by simp only [wtX] at hw; omega
 have hs0 : s.size ≤ 1099511627776 := by rw [hv] at hw; simp only [wtX, wtV] at hw; omega
 have hm0 : az.length ≤ 1099511627776 := by have := wtXs_len az; simp only [wtX] at hw; omega
 have hpv : partsV v ≤ 1099511627776 := by have h1 := partsV_le v; simp only [wtX] at hw; omega
 have HWT : Hid (∀ (j : Nat) (t : Ex), az[j]? = some t → wtX t ≤ 1099511627776) := Lib.hid (fun j t h => by have := wtX_args (op := op) (nm := nm) (v := v) (ns := ns) h; omega)
 obtain ⟨m, hm⟩ := nam az.length
 obtain ⟨n, hn⟩ := nam ns.length
 rw [hm] at hX0 hm0 ⊢
 rw [hn] at hX0 ⊢
 have HM := Lib.hid hm
 obtain ⟨W0, u0, hW0, hu0, hsz, hbe, hce⟩ := box_ext w [.int .i64 op, .string nm, .int .i64 k, .bool b, .int .i64 i, .string s, .slice la l.length lc, .slice ka ks.length kc, .slice na n nc, .slice xa m xc] 36
 obtain ⟨e0, e1, e2, e3, e4, e5, e6, e7, e8, e9⟩ := ge10 hce
 obtain ⟨x0, x1, x2, x3, x4, x5, x6, x7, x8, x9⟩ := gx10 hce u0
 rw [← hu0, ← hW0] at x0 x1 x2 x3 x4 x5 x6 x7 x8 x9
 have HPA := Lib.hid (fun u : Ext (w.heap.size + 1) W0 => ext_call u hsz (rparts_any v _ B u.w (IsV.below (hbe u) hB _ _ hV) (Nat.le_trans hB (hbe u).size) hpv))
 have HIH := Lib.hid (fun (j : Nat) (t : Ex) (ht : az[j]? = some t) (cs : List Value) (u : Ext (w.heap.size + 1) W0) (mo : Int) (h : IsX B u.w cs t) => ih j t ht cs B u.w mo h (Nat.le_trans hB (hbe u).size) (HWT.out j t ht))
 have HAT : Hid (∀ (j : Nat) t, az[j]? = some t → ∃ b off cs, xa = some ⟨b, off, none⟩ ∧ b < B ∧ (∀ (u : Ext (w.heap.size + 1) W0) (q : Nat) v, cs[q]? = some v → u.w.cell? ⟨b, off + j * 10 + q, none⟩ = some v) ∧ ∀ u : Ext (w.heap.size + 1) W0, IsX B u.w cs t) := Lib.hid (fun j t ht => hAZ.at_ext hB hbe ht)
 obtain ⟨PV, hPV⟩ := nam (partsV v)
 rw [hPV] at HPA hpv
 obtain ⟨HBE, HSZ, HW0, HU0⟩ := hd4 hbe hsz hW0 hu0
 clear hbe hW0 hu0 hsz hce hNS hm hn hv hV hNA hXA hAZ hX0 ih hw hop hPV
 go_enter Tryz.func22, Tryz.ntmps22
 go_upto_region 1 with fail
 rw [HW0.out, HU0.out]
 (refine wp_region_at _ (by kernel_rfl) (by kernel_rfl) ?_; (repeat (go_big_quiet_step (first | (with_reducible exact HPA.out _)))); refine wpQuiet_nil ?_; rintro w9 ⟨u9, rfl⟩)
 go_wp2_with fail
 go_loopw [5, 6] (fun nv iv wr => ∃ (N : Int) (j : Nat) (u : Ext (w.heap.size + 1) W0), nv = .int .i64 N ∧ iv = .int .i64 j ∧ j ≤ m ∧ wr = u.w) (fun _ iv _ => m - (intOf iv).toNat)
 case atStart => exact ⟨_, 0, _, rfl, rfl, Nat.zero_le _, rfl⟩
 case round =>
  have z117636b := trivial
  exact Sg117636
set_option maxHeartbeats 64000000 in
theorem weighAll_any (az : List Ex) (xa : Option Addr) (xc B : Nat) (w : World) (most : Int) (hR : RowR (IsX B w) 10 B w xa az) (hB : B ≤ w.heap.size) (hw : wtXs az ≤ 1099511627776) :
    Calls Tryz.prog 23 #[.slice xa az.length xc, .int .i64 most] w fun e w' => (∃ n, e = .returned (.int .i64 n)) ∧ Below w.heap.size w w' := by
 have HAT : Hid (∀ (j : Nat) t, az[j]? = some t → ∃ b off cs, xa = some ⟨b, off, none⟩ ∧ b < B ∧ (∀ (u : Ext w.heap.size w) (q : Nat) v, cs[q]? = some v → u.w.cell? ⟨b, off + j * 10 + q, none⟩ = some v) ∧ ∀ u : Ext w.heap.size w, IsX B u.w cs t) := Lib.hid (fun j t ht => by obtain ⟨b, off, cs, h1, h2, h3, h4, h5⟩ := hR.at_gen (R := fun v => IsX B v) (f := fun u : Ext w.heap.size w => u.w) hB (fun u => u.below) (fun u cs x h => IsX.below u.below hB _ _ h) ht; exact ⟨b, off, cs, h1, h2, h4, h5⟩)
 have hm0 : az.length ≤ 1099511627776 := by have := wtXs_len az; omega
 have HWT : Hid (∀ (j : Nat) (t : Ex), az[j]? = some t → wtX t ≤ 1099511627776) := Lib.hid (fun j t h => by have := wtXs_get h; omega)
 obtain ⟨m, hm⟩ := nam az.length
 rw [hm] at hm0 ⊢
 have HM := Lib.hid hm
 have HB := Lib.hid hB
 clear hR hB hw hm
 obtain ⟨u0, hu0⟩ := Ext.start w.heap.size w
 have HU0 := Lib.hid hu0
 clear hu0
 go_enter Tryz.func23, Tryz.ntmps23
 go_wp2_with fail
 go_loopw [5, 6] (fun nv iv wr => ∃ (N : Int) (j : Nat) (u : Ext w.heap.size w), nv = .int .i64 N ∧ iv = .int .i64 j ∧ j ≤ m ∧ wr = u.w) (fun _ iv _ => m - (intOf iv).toNat)
 case atStart => exact ⟨0, 0, u0, rfl, rfl, Nat.zero_le _, HU0.out⟩
 case round =>
  have z117636a := trivial
  exact Sg117636
end Go.Proofs.YtndhpdclpgemfaaGreat
