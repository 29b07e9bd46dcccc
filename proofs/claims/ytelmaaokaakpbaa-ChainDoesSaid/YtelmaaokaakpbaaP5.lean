/- Layer 24: the contracts of Commit (all its answers) and Prune. Conditions: the chain is there and has at most a million versions. -/
import Derived.Test.YtelmaaokaakpbaaP4
namespace Go.Proofs.Ytelmaaokaakpbaa
open Go.RowKit
set_option linter.unusedSimpArgs false
set_option linter.unusedVariables false

theorem commit_any (w : World) (B b : Nat) (own : List Nat) (s : St) (who f : Int) (hr : Rep w B b own s) (hm : s.l.length ≤ 1000000) :
    Calls Try.prog 17 #[.pointer (some ⟨b, 0, none⟩), .int .i64 who, .int .i64 f] w fun e w' => e = .returned (.int .i64 (commitS s who f).2) ∧ Moved B b own (commitS s who f).1 w w' := by
  by_cases h1 : who < 1
  · have HS : Hid (commitS s who f = (s, 23)) := Lib.hid (if_pos (.inl h1))
    have HR := Lib.hid hr
    clear hr
    go_enter Try.func17, Try.ntmps17
    go_wp2_with fail
    go_ret
    exact ⟨by rw [HS.out]; rfl, by rw [HS.out]; exact Moved.same0 HR.out⟩
  · by_cases h2 : s.who = who
    · have q : (s.who != who) = false := by simp [h2]
      by_cases hf : 0 < s.l.length ∧ f ≤ newest s.l
      · have HS : Hid (commitS s who f = (s, 21)) := Lib.hid (by unfold commitS; rw [if_neg (by rintro (h | h); exact h1 h; exact h h2), if_pos hf])
        have HR := Lib.hid hr
        obtain ⟨a, cap, hb, ho, hB, _⟩ := hr
        have c0 := hb.cell (i := 0) rfl
        have c1 := hb.cell (i := 1) rfl
        obtain ⟨v, hv, hn⟩ := newest_get hf.1
        obtain ⟨g, rfl, d0, _, _⟩ := own_cells ho hv
        have h3' : (0 : Int) < s.l.length := by omega
        have h4 : f ≤ v.from_ := by rw [← hn]; exact hf.2
        clear hb ho hv hn hf h2
        go_enter Try.func17, Try.ntmps17
        go_wp2_with fail
        go_ret
        exact ⟨by rw [HS.out]; rfl, by rw [HS.out]; exact Moved.same0 HR.out⟩
      · have HS : Hid (commitS s who f = ({ l := s.l ++ [⟨f, s.val, s.gone⟩], who := 0, val := 0, gone := false }, 0)) := Lib.hid (by unfold commitS; rw [if_neg (by rintro (h | h); exact h1 h; exact h h2), if_neg hf])
        rw [HS.out]
        exact commit_good w B b own s who f hr hm h1 q hf
    · have HS : Hid (commitS s who f = (s, 23)) := Lib.hid (if_pos (.inr h2))
      have q : (s.who != who) = true := by simpa using h2
      have HR := Lib.hid hr
      obtain ⟨a, cap, hb, ho, hB, _⟩ := hr
      have c1 := hb.cell (i := 1) rfl
      clear hb ho h2
      go_enter Try.func17, Try.ntmps17
      go_wp2_with fail
      go_ret
      exact ⟨by rw [HS.out]; rfl, by rw [HS.out]; exact Moved.same0 HR.out⟩

/-- How many versions are let go. -/
def pruneN (l : List V) (t : Int) : Nat := if sees l t < 0 then 0 else match l[(sees l t).toNat]? with
  | some v => if v.gone then (sees l t).toNat + 1 else (sees l t).toNat
  | none => 0
def pruneS (s : St) (t : Int) : St × Int := ({ s with l := s.l.drop (pruneN s.l t) }, pruneN s.l t)
theorem prune_neg {l : List V} {t : Int} (h : sees l t = -1) : pruneN l t = 0 := by unfold pruneN; rw [h]; rfl
theorem prune_at {l : List V} {t : Int} {j : Nat} {v : V} (h : sees l t = j) (hj : l[j]? = some v) : pruneN l t = if v.gone then j + 1 else j := by
  unfold pruneN; rw [h, if_neg (by omega), Int.toNat_natCast, hj]

theorem rowV_drop (l : List V) (k : Nat) : (rowV l).drop (k * 3) = rowV (l.drop k) := by
  induction k generalizing l with
  | zero => simp
  | succ k ih =>
    cases l with
    | nil => simp [rowV]
    | cons v l =>
      rw [List.drop_succ_cons, ← ih]
      show (Value.int .i64 v.from_ :: Value.int .i64 v.val :: Value.bool v.gone :: rowV l).drop ((k + 1) * 3) = _
      rw [show (k + 1) * 3 = k * 3 + 1 + 1 + 1 from by omega, List.drop_succ_cons, List.drop_succ_cons, List.drop_succ_cons]
theorem rowV_one (l : List V) : ∀ u ∈ rowV l, u.oneCell' = true := by
  intro u hu
  obtain ⟨v, _, hv⟩ := List.mem_flatMap.1 hu
  simp [V.cells] at hv
  rcases hv with rfl | rfl | rfl <;> rfl
theorem own_form {w : World} {B : Nat} {e : TypeId} {size : Nat} {v : Value} {n : Nat} {xs : List Value} (h : w.ownsRow B e size v n xs) : ∃ a cap, v = .slice a n cap := by
  rcases h.2 with ⟨rfl, rfl⟩ | ⟨g, cap, cur, rfl, _⟩
  · exact ⟨none, 0, rfl⟩
  · exact ⟨_, _, rfl⟩
theorem own_cap {w : World} {B : Nat} {e : TypeId} {size : Nat} {g n cap : Nat} {xs : List Value} (h : w.ownsRow B e size (.slice (some ⟨g, 0, none⟩) n cap) n xs) : n ≤ cap := by
  rcases h.2 with ⟨h1, h2⟩ | ⟨g', c, cur, h1, h2, h3, h4, _⟩
  · cases h1
  · injection h1 with e1 e2 e3; omega
theorem own_news {w : World} {B : Nat} {e : TypeId} {g n cap : Nat} {l : List V} (h : w.ownsRow B e 3 (.slice (some ⟨g, 0, none⟩) n cap) n (rowV l)) (k : Nat) :
    ∀ j u, (rowV (l.drop k))[j]? = some u → w.cell? ((⟨g, k * 3, none⟩ : Addr).add j) = some u := by
  intro j u hj
  rw [← rowV_drop, List.getElem?_drop] at hj
  have := World.ownsRow.cells h (g := g) rfl _ _ hj
  rw [addr_add] at this ⊢
  simpa using this

/-- What a pruning leaves. -/
theorem Moved.prune {w w1 : World} {B b : Nat} {own : List Nat} {s : St} {rv v' : Value} {l' : List V} {k : Nat} (hB : B ≤ b) (hBs : B ≤ w.heap.size) (hlt : b < w.heap.size) (hb : Block w b [rv, .int .i64 s.who, .int .i64 s.val, .bool s.gone] 55)
    (hbo : b ∈ own) (hown1 : w1.ownsRow w.heap.size 57 3 v' k (rowV l')) (hk : k = l'.length) (hgrow : w.grownBy w1 none) (s' : St) (hs' : s' = { s with l := l' }) :
    Moved B b own s' w (w1.setCell ⟨b, 0, none⟩ v') := by
  subst hs' hk
  obtain ⟨a', cap', rfl⟩ := own_form hown1
  have hb1 : Block w1 b _ _ := hb.of_heap (hgrow.block b hlt (by simp))
  have hne : (Value.slice a' l'.length cap').ownBlock ≠ some b := fun h => by have := (hown1.lt b h).1; omega
  have hk : Kept own w w1 := (Kept.refl own w).grown hgrow (fun k hk => by cases hk)
  have hown2 : w1.ownsRow B 57 3 (.slice a' l'.length cap') l'.length (rowV l') := by
    obtain ⟨h1, h2⟩ := hown1
    refine ⟨h1, ?_⟩
    rcases h2 with h2 | ⟨g, c, cur, h3, h4, h5⟩
    · exact .inl h2
    · exact .inr ⟨g, c, cur, h3, by omega, h5⟩
  cases hq : (Value.slice a' l'.length cap').ownBlock with
  | none => exact ⟨[b], ⟨a', cap', hb1.set 0 _, ownsRow_setCell_other hown2 hne _, hB, .inl ⟨hq, rfl⟩⟩, fun k hk => by simp at hk; subst hk; exact .inl hbo, hk.setCell (.inl hbo) _⟩
  | some gg =>
    have hgg := (hown1.lt gg hq).1
    refine ⟨[b, gg], ⟨a', cap', hb1.set 0 _, ownsRow_setCell_other hown2 hne _, hB, .inr ⟨gg, hq, by omega, rfl⟩⟩, fun k hk => ?_, hk.setCell (.inl hbo) _⟩
    simp at hk
    rcases hk with rfl | rfl
    · exact .inl hbo
    · exact .inr hgg

set_option maxHeartbeats 1000000 in
theorem prune_any (w : World) (B b : Nat) (own : List Nat) (s : St) (t : Int) (hr : Rep w B b own s) (hm : s.l.length ≤ 1000000) :
    Calls Try.prog 21 #[.pointer (some ⟨b, 0, none⟩), .int .i64 t] w fun e w' => e = .returned (.int .i64 (pruneS s t).2) ∧ Moved B b own (pruneS s t).1 w w' := by
  have HA := Lib.hid (at_any w B b own s t hr hm)
  have HR := Lib.hid hr
  obtain ⟨a, cap, hb, ho, hB, hfo⟩ := hr
  have c0 := hb.cell (i := 0) rfl
  have f0 := hb.free 0
  have HO := Lib.hid ho
  have HB := Lib.hid hb
  have hlt := hb.lt
  clear hb ho
  rcases sees_cases s.l t with hs | ⟨j, v, hs, hj, hv, _⟩
  · have HS : Hid (pruneS s t = (s, 0)) := Lib.hid (by unfold pruneS; rw [prune_neg hs]; rfl)
    rw [hs] at HA
    clear hs
    go_enter Try.func21, Try.ntmps21
    go_wp2_with fail
    refine HA.out.mono ?_; rintro e w' ⟨rfl, rfl⟩
    go_wp2_with fail
    go_ret
    exact ⟨by rw [HS.out]; rfl, by rw [HS.out]; exact Moved.same0 HR.out⟩
  · have hp := prune_at hs hv
    rw [hs] at HA
    obtain ⟨g, rfl, d0, d1, d2⟩ := own_cells HO.out hv
    clear hs hv
    have hcap := own_cap HO.out
    obtain ⟨i0, hi0, hz0, hz1, hz2⟩ := info_parts Try.infoV
    have hbo : b ∈ own := by rcases hfo with ⟨_, rfl⟩ | ⟨g, _, _, rfl⟩ <;> simp
    generalize v.gone = gn at *
    cases gn
    · have HS : Hid (pruneS s t = ({ s with l := s.l.drop j }, (j : Int))) := Lib.hid (by unfold pruneS; rw [hp]; rfl)
      have HW := Lib.hid (own_news HO.out j)
      have hcj : ¬ cap = j := by omega
      clear hp
      go_enter Try.func21, Try.ntmps21
      go_wp2_with fail
      refine HA.out.mono ?_; rintro e w' ⟨rfl, rfl⟩
      go_wp2_with (at_builtin; refine wpList_append_own _ rfl _ _ 51 rfl w.heap.size 57 i0 _ 3 24 Try.underlying51 hi0 hz0 hz1 hz2 rfl (by omega) (.slice none 0 0) 0 [] rfl (World.ownsRow_nil _ _ _ _) ⟨g, j * 3, none⟩ (s.l.length - j) _ (rowV (s.l.drop j)) rfl (by rw [rowV_length, List.length_drop]) HW.out (rowV_one _) (by unfold maxLen; omega) (by omega) (Nat.le_refl _) ?_)
      intro v' w1 hown1 hgrow hnil
      clear hnil
      obtain ⟨a', cap', hv'⟩ := own_form hown1
      have hb1 : Block w1 b _ _ := HB.out.of_heap (hgrow.block b hlt (by simp [Value.ownBlock]))
      have k0 := hb1.cell (i := 0) rfl
      have g0 := hb1.free 0
      have HO1 := Lib.hid hown1
      have HG := Lib.hid hgrow
      clear hb1 hown1 hgrow
      rw [hv']
      have HV := Lib.hid hv'
      clear hv'
      go_wp2_with fail
      go_ret
      refine ⟨by rw [HS.out]; rfl, ?_⟩
      rw [HS.out]
      refine Moved.prune hB (by omega) hlt HB.out hbo (by rw [← HV.out]; exact HO1.out) (by simp) HG.out _ rfl
    · have HS : Hid (pruneS s t = ({ s with l := s.l.drop (j + 1) }, (j : Int) + 1)) := Lib.hid (by unfold pruneS; rw [hp]; rfl)
      have HW := Lib.hid (own_news HO.out (j + 1))
      clear hp
      by_cases hcj : cap = j + 1
      · subst hcj
        have hnil0 : s.l.drop (j + 1) = [] := List.drop_eq_nil_of_le (by omega)
        have HD := Lib.hid hnil0
        clear hnil0 HW
        go_enter Try.func21, Try.ntmps21
        go_wp2_with fail
        refine HA.out.mono ?_; rintro e w' ⟨rfl, rfl⟩
        go_wp2_with fail
        go_ret
        refine ⟨by rw [HS.out]; rfl, ?_⟩
        rw [HS.out, HD.out]
        exact Moved.prune (k := 0) (l' := []) hB (by omega) hlt HB.out hbo (World.ownsRow_nil _ _ _ _) rfl ⟨rfl, rfl, rfl, Nat.le_refl _, fun _ _ _ => rfl⟩ _ rfl
      · go_enter Try.func21, Try.ntmps21
        go_wp2_with fail
        refine HA.out.mono ?_; rintro e w' ⟨rfl, rfl⟩
        go_wp2_with (at_builtin; refine wpList_append_own _ rfl _ _ 51 rfl w.heap.size 57 i0 _ 3 24 Try.underlying51 hi0 hz0 hz1 hz2 rfl (by omega) (.slice none 0 0) 0 [] rfl (World.ownsRow_nil _ _ _ _) ⟨g, (j + 1) * 3, none⟩ (s.l.length - (j + 1)) _ (rowV (s.l.drop (j + 1))) rfl (by rw [rowV_length, List.length_drop]) HW.out (rowV_one _) (by unfold maxLen; omega) (by omega) (Nat.le_refl _) ?_)
        intro v' w1 hown1 hgrow hnil
        clear hnil
        obtain ⟨a', cap', hv'⟩ := own_form hown1
        have hb1 : Block w1 b _ _ := HB.out.of_heap (hgrow.block b hlt (by simp [Value.ownBlock]))
        have k0 := hb1.cell (i := 0) rfl
        have g0 := hb1.free 0
        have HO1 := Lib.hid hown1
        have HG := Lib.hid hgrow
        clear hb1 hown1 hgrow
        rw [hv']
        have HV := Lib.hid hv'
        clear hv'
        go_wp2_with fail
        go_ret
        refine ⟨by rw [HS.out]; rfl, ?_⟩
        rw [HS.out]
        refine Moved.prune hB (by omega) hlt HB.out hbo (by rw [← HV.out]; exact HO1.out) (by simp) HG.out _ rfl
end Go.Proofs.Ytelmaaokaakpbaa
