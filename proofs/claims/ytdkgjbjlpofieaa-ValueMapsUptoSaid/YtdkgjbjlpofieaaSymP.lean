/- Plain laws of the merging sort in place (Go's symMerge, rotate, swapRange): what each leaves. Conditions: 'less' is a strict weak order. -/
import Derived.Sort.LotA
namespace Go.Proofs.Ytdkgjbjlpofieaa
open Go.Sort
set_option linter.unusedSimpArgs false
set_option linter.unusedVariables false

theorem SWO.asymm {α : Type} {lt : α → α → Bool} (hS : SWO lt) {x y : α} (h : lt x y = true) : lt y x = false := by
  cases h2 : lt y x with
  | false => rfl
  | true => have := hS.trans _ _ _ h h2; rw [hS.irrefl] at this; cases this
section
variable {α : Type} [Inhabited α]
theorem swp_at (d : Array α) {i j : Nat} (hi : i < d.size) (hj : j < d.size) (k : Nat) : (swp d i j)[k]! = if k = j then d[i]! else if k = i then d[j]! else d[k]! := by
  by_cases h1 : k = j
  · subst h1; rw [if_pos rfl, swp_right d i k hj]
  · rw [if_neg h1]
    by_cases h2 : k = i
    · subst h2; rw [if_pos rfl, swp_left d k j hi h1]
    · rw [if_neg h2, swp_other d i j k h2 h1]
/-- What stands in d' at [lo, hi) is d's, the part from mid on first. -/
structure RotOf (lo mid hi : Nat) (d d' : Array α) : Prop where
  size : d'.size = d.size
  fst : ∀ k, lo ≤ k → k < lo + (hi - mid) → d'[k]! = d[k + (mid - lo)]!
  snd : ∀ k, lo + (hi - mid) ≤ k → k < hi → d'[k]! = d[k - (hi - mid)]!
  out : ∀ k, k < lo ∨ hi ≤ k → d'[k]! = d[k]!
/-- Two parts of n places each have changed their contents, as far as n. -/
structure SwR (a b n : Nat) (d d' : Array α) : Prop where
  size : d'.size = d.size
  fst : ∀ k, a ≤ k → k < a + n → d'[k]! = d[k - a + b]!
  snd : ∀ k, b ≤ k → k < b + n → d'[k]! = d[k - b + a]!
  out : ∀ k, ¬ (a ≤ k ∧ k < a + n) → ¬ (b ≤ k ∧ k < b + n) → d'[k]! = d[k]!
theorem SwR.zero (a b : Nat) (d : Array α) : SwR a b 0 d d := ⟨rfl, fun k h1 h2 => by omega, fun k h1 h2 => by omega, fun _ _ _ => rfl⟩
theorem SwR.step {a b n m : Nat} {d d' : Array α} (h : SwR a b n d d') (hab : a + m ≤ b) (hb : b + m ≤ d.size) (hn : n < m) : SwR a b (n + 1) d (swp d' (a + n) (b + n)) := by
  have hs := h.size
  have hg := fun k => swp_at d' (i := a + n) (j := b + n) (by omega) (by omega) k
  refine ⟨by rw [size_swp]; exact hs, fun k h1 h2 => ?_, fun k h1 h2 => ?_, fun k h1 h2 => ?_⟩
  · rw [hg, if_neg (by omega)]
    split
    · next e => rw [h.out _ (by omega) (by omega), e]; congr 1; omega
    · exact h.fst k h1 (by omega)
  · rw [hg]
    split
    · next e => rw [h.out _ (by omega) (by omega), e]; congr 1; omega
    · rw [if_neg (by omega)]; exact h.snd k h1 (by omega)
  · rw [hg, if_neg (by omega), if_neg (by omega)]
    exact h.out k (by omega) (by omega)
theorem SwR.perm_step {lo hi a b n m : Nat} {d0 d' : Array α} (h : PermIn lo hi d0 d') (hs : d'.size = d0.size) (hab : a + m ≤ b) (hb : b + m ≤ hi) (hlo : lo ≤ a) (hhi : hi ≤ d0.size) (hn : n < m) : PermIn lo hi d0 (swp d' (a + n) (b + n)) :=
  permIn_trans _ _ _ _ _ h (swp_permIn d' lo hi (a + n) (b + n) (by omega) (by omega) (by omega) (by omega) (by omega))
/-- The rotation's round, the first part the longer one. -/
theorem rot_long {lo m j i hi : Nat} {d d1 d2 : Array α} (hlo : lo + i = m) (hij : j < i) (hhi : hi = m + j) (h1 : SwR (m - i) m j d d1) (h2 : RotOf (lo + j) m hi d1 d2) : RotOf lo m hi d d2 := by
  refine ⟨h2.size.trans h1.size, fun k a1 a2 => ?_, fun k a1 a2 => ?_, fun k a1 => ?_⟩
  · rw [h2.out k (by omega), h1.fst k (by omega) (by omega)]; congr 1; omega
  · by_cases hk : k < lo + j + (hi - m)
    · rw [h2.fst k (by omega) hk]
      by_cases hk2 : k + (m - (lo + j)) < m
      · rw [h1.out _ (by omega) (by omega)]; congr 1; omega
      · rw [h1.snd _ (by omega) (by omega)]; congr 1; omega
    · rw [h2.snd k (by omega) a2]
      by_cases hk2 : k - (hi - m) < m
      · rw [h1.out _ (by omega) (by omega)]
      · rw [h1.snd _ (by omega) (by omega)]; congr 1; omega
  · rw [h2.out k (by omega), h1.out k (by omega) (by omega)]
theorem rot_short {lo m j i hi : Nat} {d d1 d2 : Array α} (hlo : lo + i = m) (hij : i < j) (hhi : hi = m + j) (h1 : SwR (m - i) (m + j - i) i d d1) (h2 : RotOf lo m (hi - i) d1 d2) : RotOf lo m hi d d2 := by
  refine ⟨h2.size.trans h1.size, fun k a1 a2 => ?_, fun k a1 a2 => ?_, fun k a1 => ?_⟩
  · by_cases hk : k < lo + (hi - i - m)
    · rw [h2.fst k a1 hk, h1.out _ (by omega) (by omega)]
    · by_cases hk3 : k < hi - i
      · rw [h2.snd k (by omega) hk3]
        by_cases hk2 : k - (hi - i - m) < m
        · rw [h1.fst _ (by omega) (by omega)]; congr 1; omega
        · rw [h1.out _ (by omega) (by omega)]; congr 1; omega
      · exfalso; omega
  · by_cases hk3 : k < hi - i
    · exfalso; omega
    · rw [h2.out k (by omega), h1.snd k (by omega) (by omega)]; congr 1; omega
  · rw [h2.out k (by omega), h1.out k (by omega) (by omega)]
theorem rot_even {lo m i hi : Nat} {d d1 : Array α} (hlo : lo + i = m) (hhi : hi = m + i) (h1 : SwR (m - i) m i d d1) : RotOf lo m hi d d1 := by
  refine ⟨h1.size, fun k a1 a2 => ?_, fun k a1 a2 => ?_, fun k a1 => ?_⟩
  · rw [h1.fst k (by omega) (by omega)]; congr 1; omega
  · rw [h1.snd k (by omega) (by omega)]; congr 1; omega
  · rw [h1.out k (by omega) (by omega)]
/-- The element at a has been moved up to i. -/
structure UpTo (a i : Nat) (d d' : Array α) : Prop where
  size : d'.size = d.size
  mid : ∀ k, a ≤ k → k < i → d'[k]! = d[k + 1]!
  at_ : d'[i]! = d[a]!
  out : ∀ k, k < a ∨ i < k → d'[k]! = d[k]!
theorem UpTo.zero (a : Nat) (d : Array α) : UpTo a a d d := ⟨rfl, fun k h1 h2 => by omega, rfl, fun _ _ => rfl⟩
theorem UpTo.step {a i : Nat} {d d' : Array α} (h : UpTo a i d d') (hai : a ≤ i) (hi : i + 1 < d.size) : UpTo a (i + 1) d (swp d' i (i + 1)) := by
  have hs := h.size
  have hg := fun k => swp_at d' (i := i) (j := i + 1) (by omega) (by omega) k
  refine ⟨by rw [size_swp]; exact hs, fun k h1 h2 => ?_, ?_, fun k h1 => ?_⟩
  · rw [hg, if_neg (by omega)]
    split
    · next e => subst e; exact h.out _ (by omega)
    · exact h.mid k h1 (by omega)
  · rw [hg, if_pos rfl]; exact h.at_
  · rw [hg, if_neg (by omega), if_neg (by omega)]; exact h.out k (by omega)
/-- The element at m has been moved down to i. -/
structure DownTo (m i : Nat) (d d' : Array α) : Prop where
  size : d'.size = d.size
  mid : ∀ k, i < k → k ≤ m → d'[k]! = d[k - 1]!
  at_ : d'[i]! = d[m]!
  out : ∀ k, k < i ∨ m < k → d'[k]! = d[k]!
theorem DownTo.zero (m : Nat) (d : Array α) : DownTo m m d d := ⟨rfl, fun k h1 h2 => by omega, rfl, fun _ _ => rfl⟩
theorem DownTo.step {m i : Nat} {d d' : Array α} (h : DownTo m (i + 1) d d') (him : i + 1 ≤ m) (hm : m < d.size) : DownTo m i d (swp d' (i + 1) i) := by
  have hs := h.size
  have hg := fun k => swp_at d' (i := i + 1) (j := i) (by omega) (by omega) k
  refine ⟨by rw [size_swp]; exact hs, fun k h1 h2 => ?_, ?_, fun k h1 => ?_⟩
  · rw [hg, if_neg (by omega)]
    split
    · next e => subst e; rw [h.out _ (by omega)]; congr 1
    · exact h.mid k (by omega) h2
  · rw [hg, if_pos rfl]; exact h.at_
  · rw [hg, if_neg (by omega), if_neg (by omega)]; exact h.out k (by omega)

variable {lt : α → α → Bool}
/-- One element ahead of a sorted part: put where it belongs. -/
theorem up_sorted (hS : SWO lt) {a m b i : Nat} {d d' : Array α} (hm : m = a + 1) (hi1 : m ≤ i) (hib : i ≤ b) (hs : SortedIn lt m b d) (hl : i = m ∨ lt d[i - 1]! d[a]! = true) (hr : i = b ∨ lt d[i]! d[a]! = false) (h : UpTo a (i - 1) d d') : SortedIn lt a b d' := by
  have hlow : ∀ k, m ≤ k → k < i → lt d[a]! d[k]! = false := fun k h1 h2 => by
    rcases hl with hl | hl
    · omega
    · rcases Nat.lt_or_ge k (i - 1) with h3 | h3
      · exact hS.ntrans _ _ _ (SWO.asymm hS hl) (hs k (i - 1) h1 h3 (by omega))
      · rw [show k = i - 1 from by omega]; exact SWO.asymm hS hl
  have hup : ∀ k, i ≤ k → k < b → lt d[k]! d[a]! = false := fun k h1 h2 => by
    rcases hr with hr | hr
    · omega
    · rcases Nat.eq_or_lt_of_le h1 with h3 | h3
      · rw [← h3]; exact hr
      · exact hS.ntrans _ _ _ (hs i k (by omega) h3 h2) hr
  intro p q h1 h2 h3
  rcases Nat.lt_or_ge q (i - 1) with hq | hq
  · rw [h.mid q (by omega) hq, h.mid p h1 (by omega)]; exact hs _ _ (by omega) (by omega) (by omega)
  · rcases Nat.eq_or_lt_of_le hq with hq | hq
    · rw [← hq, h.at_, h.mid p h1 (by omega)]
      exact hlow _ (by omega) (by omega)
    · rw [h.out q (by omega)]
      rcases Nat.lt_or_ge p (i - 1) with hp | hp
      · rw [h.mid p h1 hp]; exact hs _ _ (by omega) (by omega) h3
      · rcases Nat.eq_or_lt_of_le hp with hp | hp
        · rw [← hp, h.at_]; exact hup q (by omega) h3
        · rw [h.out p (by omega)]; exact hs _ _ (by omega) h2 h3
/-- One element behind a sorted part. -/
theorem down_sorted (hS : SWO lt) {a m b i : Nat} {d d' : Array α} (hb : b = m + 1) (hi1 : a ≤ i) (him : i ≤ m) (hs : SortedIn lt a m d) (hl : i = a ∨ lt d[m]! d[i - 1]! = false) (hr : i = m ∨ lt d[m]! d[i]! = true) (h : DownTo m i d d') : SortedIn lt a b d' := by
  have hlow : ∀ k, a ≤ k → k < i → lt d[m]! d[k]! = false := fun k h1 h2 => by
    rcases hl with hl | hl
    · omega
    · rcases Nat.lt_or_ge k (i - 1) with h3 | h3
      · exact hS.ntrans _ _ _ hl (hs k (i - 1) h1 h3 (by omega))
      · rw [show k = i - 1 from by omega]; exact hl
  have hup : ∀ k, i ≤ k → k < m → lt d[k]! d[m]! = false := fun k h1 h2 => by
    rcases hr with hr | hr
    · omega
    · rcases Nat.eq_or_lt_of_le h1 with h3 | h3
      · rw [← h3]; exact SWO.asymm hS hr
      · exact hS.ntrans _ _ _ (hs i k hi1 h3 h2) (SWO.asymm hS hr)
  intro p q h1 h2 h3
  rcases Nat.lt_or_ge q i with hq | hq
  · rw [h.out q (by omega), h.out p (by omega)]; exact hs _ _ h1 h2 (by omega)
  · rcases Nat.eq_or_lt_of_le hq with hq | hq
    · rw [← hq, h.at_, h.out p (by omega)]; exact hlow p h1 (by omega)
    · rw [h.mid q hq (by omega)]
      rcases Nat.lt_or_ge p i with hp | hp
      · rw [h.out p (by omega)]; exact hs _ _ h1 (by omega) (by omega)
      · rcases Nat.eq_or_lt_of_le hp with hp | hp
        · rw [← hp, h.at_]; exact hup _ (by omega) (by omega)
        · rw [h.mid p hp (by omega)]; exact hs _ _ (by omega) (by omega) (by omega)
/-- Nothing in the second part is less than anything in the first. -/
def Apart (lt : α → α → Bool) (a mid b : Nat) (d : Array α) : Prop := ∀ p q, a ≤ p → p < mid → mid ≤ q → q < b → lt d[q]! d[p]! = false
/-- What a cut with its bounds gives, behind the rotation. -/
theorem cut_apart (hS : SWO lt) {a m b start mid end_ n : Nat} {d d' : Array α} (hmid : mid = (a + b) / 2) (hn : n = mid + m) (ham : a < m) (hmb : m < b) (hs1 : SortedIn lt a m d) (hs2 : SortedIn lt m b d) (hsa : a ≤ start) (hsm : start ≤ m) (hsmid : start ≤ mid) (hsb : n ≤ start + b)
    (hend : end_ = n - start) (hl : start = a ∨ n = start + b ∨ lt d[n - 1 - (start - 1)]! d[start - 1]! = false) (hr : start = mid ∨ start = m ∨ lt d[n - 1 - start]! d[start]! = true) (h : RotOf start m end_ d d') :
    SortedIn lt a start d' ∧ SortedIn lt start mid d' ∧ SortedIn lt mid end_ d' ∧ SortedIn lt end_ b d' ∧ Apart lt a mid b d' := by
  have he1 : m ≤ end_ := by omega
  have he2 : end_ ≤ b := by omega
  have he3 : start + (end_ - m) = mid := by omega
  have g1 : ∀ k, k < start → d'[k]! = d[k]! := fun k hk => h.out k (.inl hk)
  have g2 : ∀ k, start ≤ k → k < mid → d'[k]! = d[k + (m - start)]! := fun k h1 h2 => h.fst k h1 (by omega)
  have g3 : ∀ k, mid ≤ k → k < end_ → d'[k]! = d[k - (end_ - m)]! := fun k h1 h2 => h.snd k (by omega) h2
  have g4 : ∀ k, end_ ≤ k → d'[k]! = d[k]! := fun k h1 => h.out k (.inr h1)
  refine ⟨fun p q h1 h2 h3 => ?_, fun p q h1 h2 h3 => ?_, fun p q h1 h2 h3 => ?_, fun p q h1 h2 h3 => ?_, fun p q h1 h2 h3 h4 => ?_⟩
  · rw [g1 q h3, g1 p (by omega)]; exact hs1 p q h1 h2 (by omega)
  · rw [g2 q (by omega) h3, g2 p h1 (by omega)]; exact hs2 _ _ (by omega) (by omega) (by omega)
  · rw [g3 q (by omega) h3, g3 p h1 (by omega)]; exact hs1 _ _ (by omega) (by omega) (by omega)
  · rw [g4 q (by omega), g4 p h1]; exact hs2 _ _ (by omega) h2 h3
  · -- nothing of d[start, m) is less than d[m, end), nothing of d[end, b) less than d[a, start)
    have k1 : ∀ x y, m ≤ x → x < end_ → start ≤ y → y < m → lt d[y]! d[x]! = false := fun x y b1 b2 b3 b4 => by
      rcases hr with hr | hr | hr
      · omega
      · omega
      · have e0 : n - 1 - start = end_ - 1 := by omega
        rw [e0] at hr
        have s1 : lt d[start]! d[end_ - 1]! = false := SWO.asymm hS hr
        have s2 : lt d[y]! d[start]! = false := by
          rcases Nat.eq_or_lt_of_le b3 with h | h
          · rw [← h]; exact hS.irrefl _
          · exact hs1 _ _ hsa h b4
        have s3 : lt d[end_ - 1]! d[x]! = false := by
          rcases Nat.lt_or_ge x (end_ - 1) with h | h
          · exact hs2 _ _ b1 h (by omega)
          · rw [show x = end_ - 1 from by omega]; exact hS.irrefl _
        exact hS.ntrans _ _ _ (hS.ntrans _ _ _ s2 s1) s3
    have k2 : ∀ x y, a ≤ x → x < start → end_ ≤ y → y < b → lt d[y]! d[x]! = false := fun x y b1 b2 b3 b4 => by
      rcases hl with hl | hl | hl
      · omega
      · omega
      · have e0 : n - 1 - (start - 1) = end_ := by omega
        rw [e0] at hl
        have s2 : lt d[y]! d[end_]! = false := by
          rcases Nat.eq_or_lt_of_le b3 with h | h
          · rw [← h]; exact hS.irrefl _
          · exact hs2 _ _ (by omega) h b4
        have s3 : lt d[start - 1]! d[x]! = false := by
          rcases Nat.lt_or_ge x (start - 1) with h | h
          · exact hs1 _ _ b1 h (by omega)
          · rw [show x = start - 1 from by omega]; exact hS.irrefl _
        exact hS.ntrans _ _ _ (hS.ntrans _ _ _ s2 hl) s3
    rcases Nat.lt_or_ge p start with hp | hp <;> rcases Nat.lt_or_ge q end_ with hq | hq
    · rw [g1 p hp, g3 q h3 hq]; exact hs1 _ _ h1 (by omega) (by omega)
    · rw [g1 p hp, g4 q hq]; exact k2 p q h1 hp hq h4
    · rw [g2 p hp h2, g3 q h3 hq]; exact k1 _ _ (by omega) (by omega) (by omega) (by omega)
    · rw [g2 p hp h2, g4 q hq]; exact hs2 _ _ (by omega) (by omega) h4
theorem perm_get {a b : Nat} {d d' : Array α} (hb : b ≤ d.size) (h : PermIn a b d d') {k : Nat} (h1 : a ≤ k) (h2 : k < b) : ∃ k', a ≤ k' ∧ k' < b ∧ d'[k]! = d[k']! :=
  permIn_all d d' a b (fun x => ∃ k', a ≤ k' ∧ k' < b ∧ x = d[k']!) hb h (fun i h1 h2 => ⟨i, h1, h2, rfl⟩) k h1 h2
theorem Apart.perm {a mid b : Nat} {d d1 d2 : Array α} (h : Apart lt a mid b d) (hb : b ≤ d.size) (ham : a ≤ mid) (hmb : mid ≤ b) (h1 : PermIn a mid d d1) (h2 : PermIn mid b d1 d2) : Apart lt a mid b d2 := by
  intro p q p1 p2 q1 q2
  have hs := h1.1
  obtain ⟨p', e1, e2, e3⟩ := perm_get (by omega) h1 p1 p2
  obtain ⟨q', f1, f2, f3⟩ := perm_get (by omega) h2 q1 q2
  rw [h2.2.1 p (.inl p2), e3, f3, h1.2.1 q' (.inr f1)]
  exact h p' q' e1 e2 f1 f2
theorem sorted_join {a mid b : Nat} {d : Array α} (h1 : SortedIn lt a mid d) (h2 : SortedIn lt mid b d) (h3 : Apart lt a mid b d) : SortedIn lt a b d := by
  intro p q p1 p2 p3
  rcases Nat.lt_or_ge q mid with hq | hq
  · exact h1 p q p1 p2 hq
  · rcases Nat.lt_or_ge p mid with hp | hp
    · exact h3 p q p1 hp hq p3
    · exact h2 p q hp p2 p3
theorem sorted_same {a b : Nat} {d d' : Array α} (h : SortedIn lt a b d) (hs : ∀ k, a ≤ k → k < b → d'[k]! = d[k]!) : SortedIn lt a b d' := fun p q h1 h2 h3 => by rw [hs q (by omega) h3, hs p h1 (by omega)]; exact h p q h1 h2 h3
/-- One sorted run behind another, one of them empty. -/
theorem sorted_triv {a s mid : Nat} {d : Array α} (h1 : SortedIn lt a s d) (h2 : SortedIn lt s mid d) (h : ¬ (a < s ∧ s < mid)) (hsa : a ≤ s) (hsm : s ≤ mid) : SortedIn lt a mid d := by
  by_cases hs : a < s
  · have : s = mid := by omega
    subst this; exact h1
  · have : s = a := by omega
    subst this; exact h2
end
end Go.Proofs.Ytdkgjbjlpofieaa
