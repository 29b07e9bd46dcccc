/- Parts X38, X39 of this seat (pruned, scripts that are alike kept once as default arguments: q1, q2, ..). Conditions: each says its own. -/
import Derived.Test.YtndhpdclpgemfaaGreatV23
namespace Go.Proofs.YtndhpdclpgemfaaGreat
open Go.RowKit Go.Shelf
set_option linter.unusedSimpArgs false
set_option linter.unusedVariables false
set_option maxRecDepth 100000
theorem flatS_get {size : Nat} : ∀ (css : List (List Value)) (i j : Nat) (cs : List Value) (v : Value), (∀ cs ∈ css, cs.length = size) → css[i]? = some cs → cs[j]? = some v → css.flatten[i * size + j]? = some v
  | [], _, _, _, _, _, h, _ => by simp at h
  | c :: r, 0, j, cs, v, hl, h, hv => by
    simp only [List.getElem?_cons_zero] at h
    have h := Option.some.inj h
    subst h
    rw [List.flatten_cons, Nat.zero_mul, Nat.zero_add, List.getElem?_append_left (List.getElem?_eq_some_iff.1 hv).1]
    exact hv
  | c :: r, i + 1, j, cs, v, hl, h, hv => by
    have h4 := hl c (List.mem_cons_self ..)
    rw [List.getElem?_cons_succ] at h
    rw [List.flatten_cons, List.getElem?_append_right (by rw [Nat.add_mul, Nat.one_mul]; omega), h4, show (i + 1) * size + j - size = i * size + j from by rw [Nat.add_mul, Nat.one_mul]; omega]
    exact flatS_get r i j cs v (fun cs hc => hl cs (List.mem_cons_of_mem _ hc)) h hv
inductive AllR {α : Type} (R : List Value → α → Prop) (size : Nat) : List (List Value) → List α → Prop where
  | nil : AllR R size [] []
  | cons {cs x css l} (h : R cs x) (hl : cs.length = size) (hs : AllR R size css l) : AllR R size (cs :: css) (x :: l)
theorem AllR.lens {α : Type} {R : List Value → α → Prop} {size : Nat} {css : List (List Value)} {l : List α} (h : AllR R size css l) : ∀ cs ∈ css, cs.length = size := by
 induction h with
 | nil => intro cs hc; simp at hc
 | cons h hl hs ih =>
  intro cs hc
  rcases List.mem_cons.1 hc with rfl | hc
  ·exact hl
  ·exact ih cs hc
theorem AllR.get {α : Type} {R : List Value → α → Prop} {size : Nat} {css : List (List Value)} {l : List α} (h : AllR R size css l) : ∀ (i : Nat) x, l[i]? = some x → ∃ cs, css[i]? = some cs ∧ cs.length = size ∧ R cs x := by
 induction h with
 | nil => intro i g hg; simp at hg
 | cons h hl hs ih =>
  intro i g hg
  cases i with
  | zero => simp only [List.getElem?_cons_zero, Option.some.injEq] at hg; subst hg; exact ⟨_, rfl, hl, h⟩
  | succ i => rw [List.getElem?_cons_succ] at hg; exact ih i g hg
theorem rowR_block {α : Type} {R : List Value → α → Prop} {size B : Nat} {w : World} {b : Nat} {t : TypeId} {cells : List Value} {css : List (List Value)} {l : List α} (hb : Block w b cells t) (hc : cells = css.flatten) (hbB : b < B) (h : AllR R size css l) : RowR R size B w (some ⟨b, 0, none⟩) l := by
 intro i x hx
 obtain ⟨cs, h1, h2, h3⟩ := h.get i x hx
 refine ⟨b, 0, cs, rfl, hbB, h2, fun j v hv => ?_, h3⟩
 rw [Nat.zero_add]
 exact hb.cell (by rw [hc]; exact flatS_get css i j cs v h.lens h1 hv)
def exC (op : Int) (nm : ByteArray) (xa : Option Addr) (n : Nat) : List Value := [.int .i64 op, .string nm, .int .i64 0, .bool false, .int .i64 0, .string ⟨#[]⟩, .slice none 0 0, .slice none 0 0, .slice none 0 0, .slice xa n n]
theorem args_isX {B : Nat} {w : World} {op : Int} {nm : ByteArray} {xa : Option Addr} {az : List Ex} (ho : in64 op) (hs : SlOk xa az.length az.length) (hr : RowR (IsX B w) 10 B w xa az) : IsX B w (exC op nm xa az.length) (.mk op nm emptyV [] az) := by
 unfold IsX
 exact ⟨zeroC, none, 0, xa, az.length, rfl, ho, empty_isV _ _, nil_sl, hs, Cells.nil, isXs_iff.2 hr⟩
def wX : Ex := .mk 2 ⟨#[120]⟩ emptyV [] []
def wSum : Ex := .mk 10 ⟨#[43]⟩ emptyV [] [wX, wX]
def wMul : Ex := .mk 10 ⟨#[42]⟩ emptyV [] [wSum, wX]
def wCl : Clt := { bareC 9 with items := [⟨wSum, ⟨#[121]⟩⟩] }
theorem wMul_deep : deepB 32 wMul = true := by kernel_rfl
theorem wMul_text : strOf (textX wMul) = ⟨#[40, 120, 32, 43, 32, 120, 41, 32, 42, 32, 120]⟩ := by kernel_rfl
theorem wCl_right : rightB ⟨[wCl]⟩ = true := by kernel_rfl
theorem wCl_text : stmtX [wCl] = [82, 69, 84, 85, 82, 78, 32, 120, 32, 43, 32, 120, 32, 65, 83, 32, 121] := by kernel_rfl
theorem wCl_scan : scanOk (scanL [82, 69, 84, 85, 82, 78, 32, 120, 32, 43, 32, 120, 32, 65, 83, 32, 121]) = true := by kernel_rfl
theorem wCl_print : printT ⟨[wCl]⟩ = ⟨#[82, 69, 84, 85, 82, 78, 32, 120, 32, 43, 32, 120, 32, 65, 83, 32, 121]⟩ ∧ printE ⟨[wCl]⟩ = 0 := by
 unfold printT printE
 rw [wCl_right, wCl_text, wCl_scan]
 exact ⟨by rfl, rfl⟩
set_option maxHeartbeats 64000000 in
theorem works_any (HG : GroupsAt wCl) (w : World) (hML : ML w) :
    Calls Tryz.prog 9 #[] w fun e w' => e = .returned (.bool true) ∧ Below w.heap.size w w' := by
 obtain ⟨W1, hW1⟩ : ∃ W, w.alloc (.cells #[.int .i64 2, .string ⟨#[120]⟩, .int .i64 0, .bool false, .int .i64 0, .string ⟨#[]⟩, .slice none 0 0, .slice none 0 0, .slice none 0 0, .slice none 0 0] 36) = W := ⟨_, rfl⟩
 have bW1 : Below w.heap.size w W1 := by rw [← hW1]; exact (Below.refl _ _).alloc (Nat.le_refl _) _
 have kW1 : Block W1 w.heap.size [.int .i64 2, .string ⟨#[120]⟩, .int .i64 0, .bool false, .int .i64 0, .string ⟨#[]⟩, .slice none 0 0, .slice none 0 0, .slice none 0 0, .slice none 0 0] 36 := by rw [← hW1]; exact Block.new w [.int .i64 2, .string ⟨#[120]⟩, .int .i64 0, .bool false, .int .i64 0, .string ⟨#[]⟩, .slice none 0 0, .slice none 0 0, .slice none 0 0, .slice none 0 0] 36
 have sW1 : w.heap.size < W1.heap.size := kW1.lt
 obtain ⟨W2, hW2⟩ : ∃ W, W1.alloc (.cells #[.int .i64 2, .string ⟨#[120]⟩, .int .i64 0, .bool false, .int .i64 0, .string ⟨#[]⟩, .slice none 0 0, .slice none 0 0, .slice none 0 0, .slice none 0 0, .int .i64 2, .string ⟨#[120]⟩, .int .i64 0, .bool false, .int .i64 0, .string ⟨#[]⟩, .slice none 0 0, .slice none 0 0, .slice none 0 0, .slice none 0 0] 36) = W := ⟨_, rfl⟩
 have bW2 : Below W1.heap.size W1 W2 := by rw [← hW2]; exact (Below.refl _ _).alloc (Nat.le_refl _) _
 have kW2 : Block W2 W1.heap.size [.int .i64 2, .string ⟨#[120]⟩, .int .i64 0, .bool false, .int .i64 0, .string ⟨#[]⟩, .slice none 0 0, .slice none 0 0, .slice none 0 0, .slice none 0 0, .int .i64 2, .string ⟨#[120]⟩, .int .i64 0, .bool false, .int .i64 0, .string ⟨#[]⟩, .slice none 0 0, .slice none 0 0, .slice none 0 0, .slice none 0 0] 36 := by rw [← hW2]; exact Block.new W1 [.int .i64 2, .string ⟨#[120]⟩, .int .i64 0, .bool false, .int .i64 0, .string ⟨#[]⟩, .slice none 0 0, .slice none 0 0, .slice none 0 0, .slice none 0 0, .int .i64 2, .string ⟨#[120]⟩, .int .i64 0, .bool false, .int .i64 0, .string ⟨#[]⟩, .slice none 0 0, .slice none 0 0, .slice none 0 0, .slice none 0 0] 36
 have sW2 : W1.heap.size < W2.heap.size := kW2.lt
 obtain ⟨W3, hW3⟩ : ∃ W, W2.alloc (.cells #[.int .i64 10, .string ⟨#[43]⟩, .int .i64 0, .bool false, .int .i64 0, .string ⟨#[]⟩, .slice none 0 0, .slice none 0 0, .slice none 0 0, .slice (some ⟨W1.heap.size, 0, none⟩) 2 2] 36) = W := ⟨_, rfl⟩
 have bW3 : Below W2.heap.size W2 W3 := by rw [← hW3]; exact (Below.refl _ _).alloc (Nat.le_refl _) _
 have kW3 : Block W3 W2.heap.size [.int .i64 10, .string ⟨#[43]⟩, .int .i64 0, .bool false, .int .i64 0, .string ⟨#[]⟩, .slice none 0 0, .slice none 0 0, .slice none 0 0, .slice (some ⟨W1.heap.size, 0, none⟩) 2 2] 36 := by rw [← hW3]; exact Block.new W2 [.int .i64 10, .string ⟨#[43]⟩, .int .i64 0, .bool false, .int .i64 0, .string ⟨#[]⟩, .slice none 0 0, .slice none 0 0, .slice none 0 0, .slice (some ⟨W1.heap.size, 0, none⟩) 2 2] 36
 have sW3 : W2.heap.size < W3.heap.size := kW3.lt
 obtain ⟨W4, hW4⟩ : ∃ W, W3.alloc (.cells #[.int .i64 10, .string ⟨#[43]⟩, .int .i64 0, .bool false, .int .i64 0, .string ⟨#[]⟩, .slice none 0 0, .slice none 0 0, .slice none 0 0, .slice (some ⟨W1.heap.size, 0, none⟩) 2 2, .int .i64 2, .string ⟨#[120]⟩, .int .i64 0, .bool false, .int .i64 0, .string ⟨#[]⟩, .slice none 0 0, .slice none 0 0, .slice none 0 0, .slice none 0 0] 36) = W := ⟨_, rfl⟩
 have bW4 : Below W3.heap.size W3 W4 := by rw [← hW4]; exact (Below.refl _ _).alloc (Nat.le_refl _) _
 have kW4 : Block W4 W3.heap.size [.int .i64 10, .string ⟨#[43]⟩, .int .i64 0, .bool false, .int .i64 0, .string ⟨#[]⟩, .slice none 0 0, .slice none 0 0, .slice none 0 0, .slice (some ⟨W1.heap.size, 0, none⟩) 2 2, .int .i64 2, .string ⟨#[120]⟩, .int .i64 0, .bool false, .int .i64 0, .string ⟨#[]⟩, .slice none 0 0, .slice none 0 0, .slice none 0 0, .slice none 0 0] 36 := by rw [← hW4]; exact Block.new W3 [.int .i64 10, .string ⟨#[43]⟩, .int .i64 0, .bool false, .int .i64 0, .string ⟨#[]⟩, .slice none 0 0, .slice none 0 0, .slice none 0 0, .slice (some ⟨W1.heap.size, 0, none⟩) 2 2, .int .i64 2, .string ⟨#[120]⟩, .int .i64 0, .bool false, .int .i64 0, .string ⟨#[]⟩, .slice none 0 0, .slice none 0 0, .slice none 0 0, .slice none 0 0] 36
 have sW4 : W3.heap.size < W4.heap.size := kW4.lt
 have hx : ∀ (B : Nat) (v : World), IsX B v [.int .i64 2, .string ⟨#[120]⟩, .int .i64 0, .bool false, .int .i64 0, .string ⟨#[]⟩, .slice none 0 0, .slice none 0 0, .slice none 0 0, .slice none 0 0] wX := fun B v => args_isX (xa := none) (az := []) (by unfold in64; omega) nil_sl nil_row
 have hsum : ∀ v : World, Below W2.heap.size W2 v → IsX W2.heap.size v [.int .i64 10, .string ⟨#[43]⟩, .int .i64 0, .bool false, .int .i64 0, .string ⟨#[]⟩, .slice none 0 0, .slice none 0 0, .slice none 0 0, .slice (some ⟨W1.heap.size, 0, none⟩) 2 2] wSum := fun v hv => args_isX (az := [wX, wX]) (by unfold in64; omega) ⟨⟨Nat.le_refl _, by decide⟩, fun h => by cases h⟩ (rowR_block (css := [[.int .i64 2, .string ⟨#[120]⟩, .int .i64 0, .bool false, .int .i64 0, .string ⟨#[]⟩, .slice none 0 0, .slice none 0 0, .slice none 0 0, .slice none 0 0], [.int .i64 2, .string ⟨#[120]⟩, .int .i64 0, .bool false, .int .i64 0, .string ⟨#[]⟩, .slice none 0 0, .slice none 0 0, .slice none 0 0, .slice none 0 0]]) (kW2.below hv kW2.lt) rfl kW2.lt (AllR.cons (hx _ _) rfl (AllR.cons (hx _ _) rfl AllR.nil)))
 have hb24 : Below W2.heap.size W2 W4 := bW3.trans (bW4.mono (Nat.le_of_lt sW3))
 have hmul : IsX W4.heap.size W4 [.int .i64 10, .string ⟨#[42]⟩, .int .i64 0, .bool false, .int .i64 0, .string ⟨#[]⟩, .slice none 0 0, .slice none 0 0, .slice none 0 0, .slice (some ⟨W3.heap.size, 0, none⟩) 2 2] wMul := args_isX (az := [wSum, wX]) (by unfold in64; omega) ⟨⟨Nat.le_refl _, by decide⟩, fun h => by cases h⟩ (rowR_block (css := [[.int .i64 10, .string ⟨#[43]⟩, .int .i64 0, .bool false, .int .i64 0, .string ⟨#[]⟩, .slice none 0 0, .slice none 0 0, .slice none 0 0, .slice (some ⟨W1.heap.size, 0, none⟩) 2 2], [.int .i64 2, .string ⟨#[120]⟩, .int .i64 0, .bool false, .int .i64 0, .string ⟨#[]⟩, .slice none 0 0, .slice none 0 0, .slice none 0 0, .slice none 0 0]]) kW4 rfl kW4.lt (AllR.cons (IsX.mono (by omega) _ _ (hsum W4 hb24)) rfl (AllR.cons (hx _ _) rfl AllR.nil)))
 have hm4 : ML W4 := (((hML.below bW1).below bW2).below bW3).below bW4
 have HE := Lib.hid (sexpr_any wMul _ W4.heap.size W4 hmul (Nat.le_refl _) hm4 (by decide))
 rw [if_pos wMul_deep, wMul_text] at HE
 obtain ⟨HX1, HX2, HX3, HX4⟩ := hd4 hW1 hW2 hW3 hW4
 have HS : Hid (w.heap.size < W1.heap.size ∧ W1.heap.size < W2.heap.size ∧ W2.heap.size < W3.heap.size ∧ W3.heap.size < W4.heap.size) := Lib.hid ⟨sW1, sW2, sW3, sW4⟩
 have HB4 : Hid (Below w.heap.size w W4) := Lib.hid (((bW1.trans (bW2.mono (by omega))).trans (bW3.mono (by omega))).trans (bW4.mono (by omega)))
 obtain ⟨HB24, HM4, HSUM, HXX⟩ := hd4 hb24 hm4 hsum hx
 have HK1 : Hid (∀ v, Below W4.heap.size W4 v → Block v w.heap.size [.int .i64 2, .string ⟨#[120]⟩, .int .i64 0, .bool false, .int .i64 0, .string ⟨#[]⟩, .slice none 0 0, .slice none 0 0, .slice none 0 0, .slice none 0 0] 36) := Lib.hid (fun v hv => (kW1.below (((bW2.mono (by omega)).trans (bW3.mono (by omega))).trans (bW4.mono (by omega)) : Below W1.heap.size W1 W4) (by omega)).below hv (by omega))
 have HK3 : Hid (∀ v, Below W4.heap.size W4 v → Block v W2.heap.size [.int .i64 10, .string ⟨#[43]⟩, .int .i64 0, .bool false, .int .i64 0, .string ⟨#[]⟩, .slice none 0 0, .slice none 0 0, .slice none 0 0, .slice (some ⟨W1.heap.size, 0, none⟩) 2 2] 36) := Lib.hid (fun v hv => ((kW3.below bW4 (by omega))).below hv (by omega))
 have c10 : W1.cell? ⟨w.heap.size, 0, none⟩ = some _ := kW1.cell (i := 0) rfl
 have c11 : W1.cell? ⟨w.heap.size, 1, none⟩ = some _ := kW1.cell (i := 1) rfl
 have c12 : W1.cell? ⟨w.heap.size, 2, none⟩ = some _ := kW1.cell (i := 2) rfl
 have c13 : W1.cell? ⟨w.heap.size, 3, none⟩ = some _ := kW1.cell (i := 3) rfl
 have c14 : W1.cell? ⟨w.heap.size, 4, none⟩ = some _ := kW1.cell (i := 4) rfl
 have c15 : W1.cell? ⟨w.heap.size, 5, none⟩ = some _ := kW1.cell (i := 5) rfl
 have c16 : W1.cell? ⟨w.heap.size, 6, none⟩ = some _ := kW1.cell (i := 6) rfl
 have c17 : W1.cell? ⟨w.heap.size, 7, none⟩ = some _ := kW1.cell (i := 7) rfl
 have c18 : W1.cell? ⟨w.heap.size, 8, none⟩ = some _ := kW1.cell (i := 8) rfl
 have c19 : W1.cell? ⟨w.heap.size, 9, none⟩ = some _ := kW1.cell (i := 9) rfl
 have c20 : W3.cell? ⟨w.heap.size, 0, none⟩ = some _ := (kW1.below ((bW2.mono (by omega)).trans (bW3.mono (by omega)) : Below W1.heap.size W1 W3) (by omega)).cell (i := 0) rfl
 have c21 : W3.cell? ⟨w.heap.size, 1, none⟩ = some _ := (kW1.below ((bW2.mono (by omega)).trans (bW3.mono (by omega)) : Below W1.heap.size W1 W3) (by omega)).cell (i := 1) rfl
 have c22 : W3.cell? ⟨w.heap.size, 2, none⟩ = some _ := (kW1.below ((bW2.mono (by omega)).trans (bW3.mono (by omega)) : Below W1.heap.size W1 W3) (by omega)).cell (i := 2) rfl
 have c23 : W3.cell? ⟨w.heap.size, 3, none⟩ = some _ := (kW1.below ((bW2.mono (by omega)).trans (bW3.mono (by omega)) : Below W1.heap.size W1 W3) (by omega)).cell (i := 3) rfl
 have c24 : W3.cell? ⟨w.heap.size, 4, none⟩ = some _ := (kW1.below ((bW2.mono (by omega)).trans (bW3.mono (by omega)) : Below W1.heap.size W1 W3) (by omega)).cell (i := 4) rfl
 have c25 : W3.cell? ⟨w.heap.size, 5, none⟩ = some _ := (kW1.below ((bW2.mono (by omega)).trans (bW3.mono (by omega)) : Below W1.heap.size W1 W3) (by omega)).cell (i := 5) rfl
 have c26 : W3.cell? ⟨w.heap.size, 6, none⟩ = some _ := (kW1.below ((bW2.mono (by omega)).trans (bW3.mono (by omega)) : Below W1.heap.size W1 W3) (by omega)).cell (i := 6) rfl
 have c27 : W3.cell? ⟨w.heap.size, 7, none⟩ = some _ := (kW1.below ((bW2.mono (by omega)).trans (bW3.mono (by omega)) : Below W1.heap.size W1 W3) (by omega)).cell (i := 7) rfl
 have c28 : W3.cell? ⟨w.heap.size, 8, none⟩ = some _ := (kW1.below ((bW2.mono (by omega)).trans (bW3.mono (by omega)) : Below W1.heap.size W1 W3) (by omega)).cell (i := 8) rfl
 have c29 : W3.cell? ⟨w.heap.size, 9, none⟩ = some _ := (kW1.below ((bW2.mono (by omega)).trans (bW3.mono (by omega)) : Below W1.heap.size W1 W3) (by omega)).cell (i := 9) rfl
 have e2 : W2.heap.size = W1.heap.size + 1 := by rw [← hW2]; simp
 have HE2 := Lib.hid e2
 have c30 : W3.cell? ⟨W1.heap.size + 1, 0, none⟩ = some (.int .i64 10) := by rw [← e2]; exact kW3.cell (i := 0) rfl
 have c31 : W3.cell? ⟨W1.heap.size + 1, 1, none⟩ = some (.string ⟨#[43]⟩) := by rw [← e2]; exact kW3.cell (i := 1) rfl
 have c32 : W3.cell? ⟨W1.heap.size + 1, 2, none⟩ = some (.int .i64 0) := by rw [← e2]; exact kW3.cell (i := 2) rfl
 have c33 : W3.cell? ⟨W1.heap.size + 1, 3, none⟩ = some (.bool false) := by rw [← e2]; exact kW3.cell (i := 3) rfl
 have c34 : W3.cell? ⟨W1.heap.size + 1, 4, none⟩ = some (.int .i64 0) := by rw [← e2]; exact kW3.cell (i := 4) rfl
 have c35 : W3.cell? ⟨W1.heap.size + 1, 5, none⟩ = some (.string ⟨#[]⟩) := by rw [← e2]; exact kW3.cell (i := 5) rfl
 have c36 : W3.cell? ⟨W1.heap.size + 1, 6, none⟩ = some (.slice none 0 0) := by rw [← e2]; exact kW3.cell (i := 6) rfl
 have c37 : W3.cell? ⟨W1.heap.size + 1, 7, none⟩ = some (.slice none 0 0) := by rw [← e2]; exact kW3.cell (i := 7) rfl
 have c38 : W3.cell? ⟨W1.heap.size + 1, 8, none⟩ = some (.slice none 0 0) := by rw [← e2]; exact kW3.cell (i := 8) rfl
 have c39 : W3.cell? ⟨W1.heap.size + 1, 9, none⟩ = some (.slice (some ⟨W1.heap.size, 0, none⟩) 2 2) := by rw [← e2]; exact kW3.cell (i := 9) rfl
 clear e2 hW1 hW2 hW3 hW4 bW1 bW2 bW3 bW4 kW1 kW2 kW3 kW4 sW1 sW2 sW3 sW4 hx hsum hb24 hmul hm4
 go_enter Tryz.func9, Tryz.ntmps9
 go_upto_region 2 with fail
 rw [HX1.out]
 go_upto_region 3 with fail
 rw [HX2.out, HX3.out]
 go_wp2_with fail
 rw [HX4.out]
 refine HE.out.mono ?_
 rintro e w5 ⟨rfl, hb5⟩
 clear c10 c20 c30 c11 c21 c31 c12 c22 c32 c13 c23 c33 c14 c24 c34 c15 c25 c35 c16 c26 c36 c17 c27 c37 c18 c28 c38 c19 c29 c39
 obtain ⟨W6, hW6⟩ : ∃ W, w5.alloc (.cells #[.int .i64 10, .string ⟨#[43]⟩, .int .i64 0, .bool false, .int .i64 0, .string ⟨#[]⟩, .slice none 0 0, .slice none 0 0, .slice none 0 0, .slice (some ⟨W1.heap.size, 0, none⟩) 2 2, .string ⟨#[121]⟩] 66) = W := ⟨_, rfl⟩
 have bW6 : Below w5.heap.size w5 W6 := by rw [← hW6]; exact (Below.refl _ _).alloc (Nat.le_refl _) _
 have kW6 : Block W6 w5.heap.size [.int .i64 10, .string ⟨#[43]⟩, .int .i64 0, .bool false, .int .i64 0, .string ⟨#[]⟩, .slice none 0 0, .slice none 0 0, .slice none 0 0, .slice (some ⟨W1.heap.size, 0, none⟩) 2 2, .string ⟨#[121]⟩] 66 := by rw [← hW6]; exact Block.new w5 [.int .i64 10, .string ⟨#[43]⟩, .int .i64 0, .bool false, .int .i64 0, .string ⟨#[]⟩, .slice none 0 0, .slice none 0 0, .slice none 0 0, .slice (some ⟨W1.heap.size, 0, none⟩) 2 2, .string ⟨#[121]⟩] 66
 have sW6 : w5.heap.size < W6.heap.size := kW6.lt
 obtain ⟨W7, hW7⟩ : ∃ W, W6.alloc (.cells #[.int .i64 9, .slice none 0 0, .slice none 0 0, .int .i64 0, .string ⟨#[]⟩, .int .i64 0, .bool false, .int .i64 0, .string ⟨#[]⟩, .slice none 0 0, .slice none 0 0, .slice none 0 0, .slice none 0 0, .string ⟨#[]⟩, .slice (some ⟨w5.heap.size, 0, none⟩) 1 1, .bool false, .slice none 0 0, .slice none 0 0, .slice none 0 0, .slice none 0 0, .slice none 0 0, .bool false] 42) = W := ⟨_, rfl⟩
 have bW7 : Below W6.heap.size W6 W7 := by rw [← hW7]; exact (Below.refl _ _).alloc (Nat.le_refl _) _
 have kW7 : Block W7 W6.heap.size [.int .i64 9, .slice none 0 0, .slice none 0 0, .int .i64 0, .string ⟨#[]⟩, .int .i64 0, .bool false, .int .i64 0, .string ⟨#[]⟩, .slice none 0 0, .slice none 0 0, .slice none 0 0, .slice none 0 0, .string ⟨#[]⟩, .slice (some ⟨w5.heap.size, 0, none⟩) 1 1, .bool false, .slice none 0 0, .slice none 0 0, .slice none 0 0, .slice none 0 0, .slice none 0 0, .bool false] 42 := by rw [← hW7]; exact Block.new W6 [.int .i64 9, .slice none 0 0, .slice none 0 0, .int .i64 0, .string ⟨#[]⟩, .int .i64 0, .bool false, .int .i64 0, .string ⟨#[]⟩, .slice none 0 0, .slice none 0 0, .slice none 0 0, .slice none 0 0, .string ⟨#[]⟩, .slice (some ⟨w5.heap.size, 0, none⟩) 1 1, .bool false, .slice none 0 0, .slice none 0 0, .slice none 0 0, .slice none 0 0, .slice none 0 0, .bool false] 42
 have sW7 : W6.heap.size < W7.heap.size := kW7.lt
 have h45 := hb5.size
 have hss := HS.out
 have hs7 : IsX W7.heap.size W7 [.int .i64 10, .string ⟨#[43]⟩, .int .i64 0, .bool false, .int .i64 0, .string ⟨#[]⟩, .slice none 0 0, .slice none 0 0, .slice none 0 0, .slice (some ⟨W1.heap.size, 0, none⟩) 2 2] wSum := IsX.mono (by omega) _ _ (HSUM.out W7 (HB24.out.trans ((hb5.mono (by omega)).trans ((bW6.mono (by omega)).trans (bW7.mono (by omega))))))
 have hit : RowR (IsIt W7.heap.size W7) 11 W7.heap.size W7 (some ⟨w5.heap.size, 0, none⟩) [⟨wSum, ⟨#[121]⟩⟩] := rowR_block (css := [[.int .i64 10, .string ⟨#[43]⟩, .int .i64 0, .bool false, .int .i64 0, .string ⟨#[]⟩, .slice none 0 0, .slice none 0 0, .slice none 0 0, .slice (some ⟨W1.heap.size, 0, none⟩) 2 2, .string ⟨#[121]⟩]]) (kW6.below bW7 (by omega)) rfl (by omega) (AllR.cons ⟨[.int .i64 10, .string ⟨#[43]⟩, .int .i64 0, .bool false, .int .i64 0, .string ⟨#[]⟩, .slice none 0 0, .slice none 0 0, .slice none 0 0, .slice (some ⟨W1.heap.size, 0, none⟩) 2 2], rfl, hs7⟩ rfl AllR.nil)
 have hcl : IsCl W7.heap.size W7 [.int .i64 9, .slice none 0 0, .slice none 0 0, .int .i64 0, .string ⟨#[]⟩, .int .i64 0, .bool false, .int .i64 0, .string ⟨#[]⟩, .slice none 0 0, .slice none 0 0, .slice none 0 0, .slice none 0 0, .string ⟨#[]⟩, .slice (some ⟨w5.heap.size, 0, none⟩) 1 1, .bool false, .slice none 0 0, .slice none 0 0, .slice none 0 0, .slice none 0 0, .slice none 0 0, .bool false] wCl := ⟨none, 0, none, 0, zeroX, some ⟨w5.heap.size, 0, none⟩, 1, none, 0, none, 0, none, 0, none, 0, none, 0, rfl, by show in64 9; unfold in64; omega, nil_sl, nil_row, nil_sl, nil_row, zero_isX _ _, ⟨⟨Nat.le_refl _, by decide⟩, fun h => by cases h⟩, hit, nil_sl, nil_row, nil_sl, nil_row, nil_sl, nil_row, nil_sl, nil_row, nil_sl, Cells.nil⟩
 have e6 : W6.heap.size = w5.heap.size + 1 := by rw [← hW6]; simp
 have hsm : IsSm W7.heap.size W7 [.slice (some ⟨w5.heap.size + 1, 0, none⟩) 1 1] ⟨[wCl]⟩ := by rw [← e6]; exact ⟨_, 1, rfl, ⟨⟨Nat.le_refl _, by decide⟩, fun h => by cases h⟩, rowR_block (css := [[.int .i64 9, .slice none 0 0, .slice none 0 0, .int .i64 0, .string ⟨#[]⟩, .int .i64 0, .bool false, .int .i64 0, .string ⟨#[]⟩, .slice none 0 0, .slice none 0 0, .slice none 0 0, .slice none 0 0, .string ⟨#[]⟩, .slice (some ⟨w5.heap.size, 0, none⟩) 1 1, .bool false, .slice none 0 0, .slice none 0 0, .slice none 0 0, .slice none 0 0, .slice none 0 0, .bool false]]) kW7 rfl kW7.lt (AllR.cons hcl rfl AllR.nil)⟩
 have hm7 : ML W7 := ((HM4.out.below hb5).below bW6).below bW7
 have HP := Lib.hid (pprint_any ⟨[wCl]⟩ (fun c hc => by rw [List.mem_singleton.1 hc]; exact HG) _ W7.heap.size W7 hsm (Nat.le_refl _) hm7 (by decide))
 rw [wCl_print.1, wCl_print.2] at HP
 have HR : Hid (∀ v : World, Below W7.heap.size W7 v → Calls Tryz.prog 12 #[.agg #[.slice none 0 0]] v fun e w' => e = .returned (.bool false) ∧ Below v.heap.size v w') := Lib.hid (fun v hv => pright_any ⟨[]⟩ (fun c hc => by simp at hc) [.slice none 0 0] 0 v ⟨none, 0, rfl, nil_sl, nil_row⟩ (Nat.zero_le _) (hm7.below hv) (by decide))
 have HX6 := Lib.hid hW6
 have HX7 := Lib.hid hW7
 have HB7 : Hid (Below w.heap.size w W7) := Lib.hid (HB4.out.trans ((hb5.mono (by omega)).trans ((bW6.mono (by omega)).trans (bW7.mono (by omega)))))
 have d0 : w5.cell? ⟨W1.heap.size + 1, 0, none⟩ = some (.int .i64 10) := by rw [← HE2.out]; exact (HK3.out w5 hb5).cell (i := 0) rfl
 have d1 : w5.cell? ⟨W1.heap.size + 1, 1, none⟩ = some (.string ⟨#[43]⟩) := by rw [← HE2.out]; exact (HK3.out w5 hb5).cell (i := 1) rfl
 have d2 : w5.cell? ⟨W1.heap.size + 1, 2, none⟩ = some (.int .i64 0) := by rw [← HE2.out]; exact (HK3.out w5 hb5).cell (i := 2) rfl
 have d3 : w5.cell? ⟨W1.heap.size + 1, 3, none⟩ = some (.bool false) := by rw [← HE2.out]; exact (HK3.out w5 hb5).cell (i := 3) rfl
 have d4 : w5.cell? ⟨W1.heap.size + 1, 4, none⟩ = some (.int .i64 0) := by rw [← HE2.out]; exact (HK3.out w5 hb5).cell (i := 4) rfl
 have d5 : w5.cell? ⟨W1.heap.size + 1, 5, none⟩ = some (.string ⟨#[]⟩) := by rw [← HE2.out]; exact (HK3.out w5 hb5).cell (i := 5) rfl
 have d6 : w5.cell? ⟨W1.heap.size + 1, 6, none⟩ = some (.slice none 0 0) := by rw [← HE2.out]; exact (HK3.out w5 hb5).cell (i := 6) rfl
 have d7 : w5.cell? ⟨W1.heap.size + 1, 7, none⟩ = some (.slice none 0 0) := by rw [← HE2.out]; exact (HK3.out w5 hb5).cell (i := 7) rfl
 have d8 : w5.cell? ⟨W1.heap.size + 1, 8, none⟩ = some (.slice none 0 0) := by rw [← HE2.out]; exact (HK3.out w5 hb5).cell (i := 8) rfl
 have d9 : w5.cell? ⟨W1.heap.size + 1, 9, none⟩ = some (.slice (some ⟨W1.heap.size, 0, none⟩) 2 2) := by rw [← HE2.out]; exact (HK3.out w5 hb5).cell (i := 9) rfl
 clear e6 hW6 hW7 bW6 bW7 kW6 kW7 sW6 sW7 h45 hss hs7 hit hcl hsm hm7 hb5
 go_wp2_with fail
 rw [HX6.out, HX7.out]
 refine HP.out.mono ?_
 rintro e w8 ⟨rfl, hb8⟩
 clear d0 d1 d2 d3 d4 d5 d6 d7 d8 d9
 have HR8 := Lib.hid (HR.out w8 hb8)
 have HB8 := Lib.hid (HB7.out.trans (hb8.mono HB7.out.size))
 clear hb8
 go_wp2_with fail
 refine HR8.out.mono ?_
 rintro e w9 ⟨rfl, hb9⟩
 have HB9 := Lib.hid (HB8.out.trans (hb9.mono HB8.out.size))
 clear hb9
 go_wp2_with fail
 go_ret
 exact ⟨by rfl, HB9.out⟩
end Go.Proofs.YtndhpdclpgemfaaGreat
