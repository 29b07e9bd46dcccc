/- The walk of the law LogicParts. Conditions: slices are readable rows of at most 1048576 cells. -/
import Derived.Test.YtoiponaaogdioaaP4
import Derived.WalkKit
import Derived.ProofKit
import Derived.OpenShut
import Derived.Outline
import Derived.WalkLawsBesides
import Derived.WalkSpells
import Derived.Deep.QuietTactic
import Derived.BigQuiet
import Derived.WalkSmall
import Derived.Lib.Hide
namespace Go.Proofs.Ytoiponaaogdioaa
open Go.RowKit



theorem tAnd_assoc (a b c : Int) : tAnd (tAnd a b) c = tAnd a (tAnd b c) := by
  rcases tKnown_cases a with ⟨rfl, _⟩ | ⟨rfl, _⟩ | ⟨h0, h1, _⟩ <;> rcases tKnown_cases b with ⟨rfl, _⟩ | ⟨rfl, _⟩ | ⟨k0, k1, _⟩ <;> rcases tKnown_cases c with ⟨rfl, _⟩ | ⟨rfl, _⟩ | ⟨k0, k1, _⟩ <;> simp [tAnd, *]
theorem tOr_assoc (a b c : Int) : tOr (tOr a b) c = tOr a (tOr b c) := by
  rcases tKnown_cases a with ⟨rfl, _⟩ | ⟨rfl, _⟩ | ⟨h0, h1, _⟩ <;> rcases tKnown_cases b with ⟨rfl, _⟩ | ⟨rfl, _⟩ | ⟨k0, k1, _⟩ <;> rcases tKnown_cases c with ⟨rfl, _⟩ | ⟨rfl, _⟩ | ⟨k0, k1, _⟩ <;> simp [tOr, *]
theorem parts_eq (f : Int → Int → Int) (z : Int) (ha : ∀ a b c, f (f a b) c = f a (f b c)) (l m : List Int) (hl : f (l.foldl f z) z = l.foldl f z) : (l ++ m).foldl f z = f (l.foldl f z) (m.foldl f z) := by
  rw [List.foldl_append]
  have : ∀ (m : List Int) (t u : Int), m.foldl f (f t u) = f t (m.foldl f u) := by
    intro m
    induction m with
    | nil => intro t u; rfl
    | cons x m ih => intro t u; rw [List.foldl_cons, List.foldl_cons, ← ih, ha]
  rw [← this, hl]
theorem fold_range (f : Int → Int → Int) (p : Int → Prop) (h : ∀ a b, p (f a b)) (z : Int) (hz : p z) : ∀ l : List Int, p (l.foldl f z)
  | [] => hz
  | x :: l => by rw [List.foldl_cons]; exact fold_range f p h _ (h z x) l
theorem and_parts (l m : List Int) : (l ++ m).foldl tAnd 1 = tAnd (l.foldl tAnd 1) (m.foldl tAnd 1) := by
  refine parts_eq tAnd 1 tAnd_assoc l m (fold_range tAnd (fun t => tAnd t 1 = t) (fun a b => ?_) 1 rfl l)
  rcases tKnown_cases a with ⟨rfl, _⟩ | ⟨rfl, _⟩ | ⟨h0, h1, _⟩ <;> rcases tKnown_cases b with ⟨rfl, _⟩ | ⟨rfl, _⟩ | ⟨k0, k1, _⟩ <;> simp [tAnd, *]
theorem or_parts (l m : List Int) : (l ++ m).foldl tOr 0 = tOr (l.foldl tOr 0) (m.foldl tOr 0) := by
  refine parts_eq tOr 0 tOr_assoc l m (fold_range tOr (fun t => tOr t 0 = t) (fun a b => ?_) 0 rfl l)
  rcases tKnown_cases a with ⟨rfl, _⟩ | ⟨rfl, _⟩ | ⟨h0, h1, _⟩ <;> rcases tKnown_cases b with ⟨rfl, _⟩ | ⟨rfl, _⟩ | ⟨k0, k1, _⟩ <;> simp [tOr, *]

theorem parts_walk (a : Option Addr) (len cap : Nat) (zs : List Int) (a2 : Option Addr) (len2 cap2 : Nat) (zs2 : List Int) (w : World) (hr : cap ≤ 1048576) (hr2 : cap2 ≤ 1048576) (h : IsRow .i64 w a len cap zs) (h2 : IsRow .i64 w a2 len2 cap2 zs2) :
    Calls Try.prog 6 #[.slice a len cap, .slice a2 len2 cap2] w fun e w' => e = .returned (.bool true) ∧ Below w.heap.size w w' := by
  have hn := Lib.hid h.capz
  have hn2 := Lib.hid h2.capz
  have hl := h.len_le
  have hl2 := h2.len_le
  obtain ⟨ys, hy, rfl, hm, hc⟩ := h.cells; clear hy
  obtain ⟨xs, hy, rfl, hm2, hc2⟩ := h2.cells; clear hy
  have HM := Lib.hid hm; clear hm
  have HM2 := Lib.hid hm2; clear hm2
  obtain ⟨i0, hi, hz0, hz1, hz2⟩ := info_parts Try.info22
  have hB0 : Below w.heap.size w w := Below.refl _ _
  have HA := Lib.hid (and_parts ys xs)
  have HO := Lib.hid (or_parts ys xs)
  clear h h2
  go_enter Try.func6, Try.ntmps6
  go_wp2_with (at_builtin; refine append_cells rfl _ _ 30 rfl w.heap.size 22 i0 (.int .i64 0) 8 Try.underlying30 hi hz0 hz1 hz2 rfl (.slice none 0 0) 0 [] rfl (World.ownsRow_nil _ _ _ _) a ys.length cap _ (ys.map (.int .i64)) rfl hn.out (by simp) hc ?c2 ?c3 ?c4 ?c5 ?_)
  case c2 => intro u hu; simp at hu; obtain ⟨q, _, rfl⟩ := hu; rfl
  case c3 => unfold maxLen; omega
  case c4 => omega
  case c5 => exact Nat.le_refl _
  intro v1 w1 hown1 hg1
  have hB1 : Below w.heap.size w w1 := hB0.grown hg1 (Nat.le_refl _) (fun j hj => by cases hj)
  clear hg1
  have hs1 := hB1.size
  have hc21 := hc2.below hB1 (Nat.le_refl _)
  go_wp2_with (at_builtin; refine append_cells rfl _ _ 30 rfl w.heap.size 22 i0 (.int .i64 0) 8 Try.underlying30 hi hz0 hz1 hz2 rfl v1 _ _ rfl hown1 a2 xs.length cap2 _ (xs.map (.int .i64)) rfl hn2.out (by simp) hc21 ?c2 ?c3 ?c4 hs1 ?_)
  case c2 => intro u hu; simp at hu; obtain ⟨q, _, rfl⟩ := hu; rfl
  case c3 => unfold maxLen; omega
  case c4 => omega
  intro v2 w2 hown2 hg2
  have hB2 : Below w.heap.size w w2 := hB1.grown hg2 hs1 (fun j hj => (hown1.lt j hj).1)
  clear hg2 hown1 hc21
  have HC := Lib.hid ((hc.below hB2 (Nat.le_refl _)).mono hB2.size)
  have HC2 := Lib.hid ((hc2.below hB2 (Nat.le_refl _)).mono hB2.size)
  obtain ⟨a3, cap3, rfl, hc3⟩ := Cells.of_own hown2
  have HC3 : Hid (Cells w2.heap.size w2 a3 ((ys ++ xs).map (.int .i64))) := by rw [List.map_append]; exact Lib.hid hc3
  clear hown2 hc3 hc hc2
  go_wp2_with fail
  have CA := all_any a3 cap3 (ys ++ xs) w2 (by rw [List.length_append]; unfold maxLen; omega) HC3.out
  rw [HA.out, List.length_append] at CA
  refine CA.mono ?_; rintro e w3 ⟨rfl, hk3⟩; clear CA
  have hB3 := below_step hB2 rfl hk3
  have g1 := Lib.hid ((HC.out.below hk3 (Nat.le_refl _)).mono hk3.size)
  have g2 := Lib.hid ((HC2.out.below hk3 (Nat.le_refl _)).mono hk3.size)
  have g3 := Lib.hid ((HC3.out.below hk3 (Nat.le_refl _)).mono hk3.size)
  clear HC HC2 HC3
  go_wp2_with fail
  refine (all_any a cap ys _ HM.out g1.out).mono ?_; rintro e w4 ⟨rfl, hk4⟩
  have hB4 := below_step hB3 rfl hk4
  have HC := Lib.hid ((g1.out.below hk4 (Nat.le_refl _)).mono hk4.size)
  have HC2 := Lib.hid ((g2.out.below hk4 (Nat.le_refl _)).mono hk4.size)
  have HC3 := Lib.hid ((g3.out.below hk4 (Nat.le_refl _)).mono hk4.size)
  clear g1 g2 g3
  go_wp2_with fail
  refine (all_any a2 cap2 xs _ HM2.out HC2.out).mono ?_; rintro e w5 ⟨rfl, hk5⟩
  have hB5 := below_step hB4 rfl hk5
  have g1 := Lib.hid ((HC.out.below hk5 (Nat.le_refl _)).mono hk5.size)
  have g2 := Lib.hid ((HC2.out.below hk5 (Nat.le_refl _)).mono hk5.size)
  have g3 := Lib.hid ((HC3.out.below hk5 (Nat.le_refl _)).mono hk5.size)
  clear HC HC2 HC3
  go_wp2_with fail
  refine (and_any _ _ _).mono ?_; rintro e w6 ⟨rfl, hk6⟩
  have hB6 := below_step hB5 rfl hk6
  have HC := Lib.hid ((g1.out.below hk6 (Nat.le_refl _)).mono hk6.size)
  have HC2 := Lib.hid ((g2.out.below hk6 (Nat.le_refl _)).mono hk6.size)
  have HC3 := Lib.hid ((g3.out.below hk6 (Nat.le_refl _)).mono hk6.size)
  clear g1 g2 g3
  go_wp2_with fail
  have CA := any_any a3 cap3 (ys ++ xs) w6 (by rw [List.length_append]; unfold maxLen; omega) HC3.out
  rw [HO.out, List.length_append] at CA
  refine CA.mono ?_; rintro e w7 ⟨rfl, hk7⟩; clear CA
  have hB7 := below_step hB6 rfl hk7
  have g1 := Lib.hid ((HC.out.below hk7 (Nat.le_refl _)).mono hk7.size)
  have g2 := Lib.hid ((HC2.out.below hk7 (Nat.le_refl _)).mono hk7.size)
  clear HC HC2 HC3
  go_wp2_with fail
  refine (any_any a cap ys _ HM.out g1.out).mono ?_; rintro e w8 ⟨rfl, hk8⟩
  have hB8 := below_step hB7 rfl hk8
  have HC2 := Lib.hid ((g2.out.below hk8 (Nat.le_refl _)).mono hk8.size)
  clear g1 g2
  go_wp2_with fail
  refine (any_any a2 cap2 xs _ HM2.out HC2.out).mono ?_; rintro e w9 ⟨rfl, hk9⟩
  have hB9 := below_step hB8 rfl hk9
  clear HC2
  go_wp2_with fail
  refine (or_any _ _ _).mono ?_; rintro e w10 ⟨rfl, hk10⟩
  have hB10 := below_step hB9 rfl hk10
  go_wp2_with fail
  refine (works_any _).mono ?_; rintro e w11 ⟨rfl, hk11⟩
  have hB11 := below_step hB10 rfl hk11
  go_wp2_with fail
  go_ret
  exact ⟨rfl, hB11⟩
end Go.Proofs.Ytoiponaaogdioaa
