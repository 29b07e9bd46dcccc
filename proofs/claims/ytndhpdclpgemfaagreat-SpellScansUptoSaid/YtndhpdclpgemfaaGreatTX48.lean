/- Layer 11: what is written is whole signs, none of them a control byte; and begins with a word. Conditions: none. -/
import Derived.Test.YtndhpdclpgemfaaGreatV21
import Derived.Test.YtndhpdclpgemfaaGreatY16
namespace Go.Proofs.YtndhpdclpgemfaaGreat
open Go.RowKit Go.Shelf
set_option linter.unusedSimpArgs false
set_option linter.unusedVariables false
set_option maxRecDepth 100000

/-- Whole signs, none of them a control byte. -/
inductive Wh : List UInt8 → Prop where
  | nil : Wh []
  | sign (x r : List UInt8) (hx : x.length ≠ 0) (hs : ∀ q, sg (x ++ q) = x.length) (h32 : 32 ≤ nb x 0) (h : Wh r) : Wh (x ++ r)
theorem Wh.app {a b : List UInt8} (ha : Wh a) (hb : Wh b) : Wh (a ++ b) := by
  induction ha with
  | nil => exact hb
  | sign x r hx hs h32 _ ih => rw [List.append_assoc]; exact Wh.sign x _ hx hs h32 ih
theorem wh_byte (c : UInt8) {r : List UInt8} (h1 : 32 ≤ c.toNat) (h2 : c.toNat < 128) (h : Wh r) : Wh (c :: r) :=
  Wh.sign [c] r (by simp) (fun q => sg_one.2 ⟨by simp, by show c.toNat < 128; omega⟩) h1 h
def asc (c : UInt8) : Bool := decide (32 ≤ c.toNat) && decide (c.toNat < 128)
theorem wh_asc : ∀ l : List UInt8, l.all asc = true → Wh l
  | [], _ => Wh.nil
  | c :: r, h => by
    rw [List.all_cons, Bool.and_eq_true] at h
    obtain ⟨h1, h2⟩ := h
    unfold asc at h1
    rw [Bool.and_eq_true, decide_eq_true_eq, decide_eq_true_eq] at h1
    exact wh_byte c h1.1 h1.2 (wh_asc r h2)
theorem wh_hex (c : Nat) (hc : c < 256) {r : List UInt8} (h : Wh r) : Wh ([92, 120] ++ hx2 c ++ r) := by
  have a := hexd (c / 16) (by omega)
  have b := hexd (c % 16) (by omega)
  exact wh_byte 92 (by decide) (by decide) (wh_byte 120 (by decide) (by decide) (wh_byte _ (by omega) (by omega) (wh_byte _ (by omega) (by omega) h)))
theorem wh_piece (l : List UInt8) {r : List UInt8} (h0 : l.length ≠ 0) (h : Wh r) : Wh (pieceQ l ++ r) := by
  have hb := nb_lt l 0
  unfold pieceQ
  by_cases a1 : sg l = 0 ∨ nb l 0 = 127
  · rw [if_pos a1]; exact wh_hex _ hb h
  rw [if_neg a1]
  by_cases a2 : nb l 0 = 39 ∨ nb l 0 = 92
  · rw [if_pos a2]
    rcases a2 with a2 | a2 <;> rw [a2] <;> exact wh_byte 92 (by decide) (by decide) (wh_byte _ (by decide) (by decide) h)
  rw [if_neg a2]
  by_cases a3 : nb l 0 = 10
  · rw [if_pos a3]; exact wh_byte 92 (by decide) (by decide) (wh_byte _ (by decide) (by decide) h)
  rw [if_neg a3]
  by_cases a4 : nb l 0 = 9
  · rw [if_pos a4]; exact wh_byte 92 (by decide) (by decide) (wh_byte _ (by decide) (by decide) h)
  rw [if_neg a4]
  by_cases a5 : nb l 0 = 13
  · rw [if_pos a5]; exact wh_byte 92 (by decide) (by decide) (wh_byte _ (by decide) (by decide) h)
  rw [if_neg a5]
  by_cases a6 : nb l 0 < 32
  · rw [if_pos a6]; exact wh_hex _ hb h
  rw [if_neg a6]
  have h1 : sg l ≠ 0 := fun e => a1 (.inl e)
  have h2 := sg_le (l := l)
  have n0 : nb (l.take (sg l)) 0 = nb l 0 := by have := nb_take l [] (sg l) 0 (by omega) h2.2; rwa [List.append_nil] at this
  have h3 : (l.take (sg l)).length = sg l := by rw [List.length_take]; omega
  exact Wh.sign _ r (by omega) (fun q => by rw [h3]; exact sg_take q h1) (by omega) h
theorem wh_quote : ∀ (k : Nat) (l : List UInt8), l.length = k → Wh (quoteL l) := by
  intro k
  induction k using Nat.strongRecOn with
  | _ k ih =>
    intro l hl
    by_cases h0 : l.length = 0
    · rw [quoteL_nil h0]; exact Wh.nil
    · have h1 := stepQ_pos l
      rw [quoteL_step h0]
      exact wh_piece l h0 (ih _ (by rw [List.length_drop]; omega) (l.drop (stepQ l)) rfl)
theorem wh_quoted (l : List UInt8) : Wh (39 :: (quoteL l ++ [39])) :=
  wh_byte 39 (by decide) (by decide) ((wh_quote _ l rfl).app (wh_asc _ (by decide)))
theorem digB_asc (d : Nat) (h : d < 10) : asc (digB d) = true := by
  have : ∀ k : Fin 10, asc (digB k.val) = true := by decide
  exact this ⟨d, h⟩
theorem decF_asc : ∀ (f m : Nat) (acc : List UInt8), acc.all asc = true → (decF f m acc).all asc = true
  | 0, _, _, h => h
  | f + 1, m, acc, h => by
    rw [decF]
    by_cases hm : m < 10
    · rw [if_pos hm, List.all_cons, digB_asc m hm, h]; rfl
    · rw [if_neg hm]; exact decF_asc f _ _ (by rw [List.all_cons, digB_asc _ (by omega), h]; rfl)
theorem wh_num (n : Int) : Wh (textOf n) := by
  unfold textOf
  refine Wh.app (wh_asc _ ?_) (wh_asc _ (decF_asc _ _ _ rfl))
  split <;> decide
theorem nchar_asc : ∀ c : Fin 256, nchar c.val = true → asc (UInt8.ofNat c.val) = true := by decide +kernel
theorem wh_nm {l : List UInt8} (h : nameB l = true) : Wh l := by
  refine wh_asc l ?_
  rw [List.all_eq_true]
  intro c hc
  have h1 := List.all_eq_true.1 (nameB_all h).1 c hc
  have h2 := nchar_asc ⟨c.toNat, c.toNat_lt⟩ h1
  simpa using h2
theorem wh_plain {s : ByteArray} (h : plainB s = true) : Wh s.data.toList := by
  unfold plainB at h
  rw [Bool.and_eq_true] at h
  exact wh_nm h.1
theorem wh_key (s : ByteArray) : Wh (keyTL s) := by
  unfold keyTL keyT
  by_cases h : plainB s = true
  · rw [if_pos h]; exact wh_plain h
  · rw [if_neg h]; exact wh_quoted _
theorem wh_jn (xs : List (List UInt8)) (h : ∀ x ∈ xs, Wh x) : Wh (jn xs) := by
  cases xs with
  | nil => exact Wh.nil
  | cons x r =>
    show Wh (Lib.join (x :: r) [44, 32])
    rw [Lib.join_cons]
    refine (h x (List.mem_cons_self ..)).app ?_
    unfold Lib.joinTail
    have hr : ∀ y ∈ r, Wh y := fun y hy => h y (List.mem_cons_of_mem _ hy)
    clear h
    induction r with
    | nil => exact Wh.nil
    | cons y r ih =>
      rw [List.map_cons, List.flatten_cons]
      exact ((wh_asc _ (by decide)).app (hr y (List.mem_cons_self ..))).app (ih fun z hz => hr z (List.mem_cons_of_mem _ hz))
theorem wh_flat {α : Type} {f : α → List UInt8} {l : List α} (h : ∀ x ∈ l, Wh (f x)) : Wh (l.flatMap f) := by
  induction l with
  | nil => exact Wh.nil
  | cons x l ih => rw [List.flatMap_cons]; exact (h x (List.mem_cons_self ..)).app (ih fun y hy => h y (List.mem_cons_of_mem _ hy))
theorem wh_withK : ∀ (ns : List ByteArray) (T : List (List UInt8)), (∀ x ∈ T, Wh x) → ∀ x ∈ withK ns T, Wh x
  | [], _, _, x, hx => by simp [withK] at hx
  | _ :: _, [], _, x, hx => by simp [withK] at hx
  | k :: ks, e :: es, h, x, hx => by
    have he : withK (k :: ks) (e :: es) = (keyTL k ++ [58, 32] ++ e) :: withK ks es := rfl
    rw [he] at hx
    rcases List.mem_cons.1 hx with rfl | hx
    · exact ((wh_key k).app (wh_asc _ (by decide))).app (h e (List.mem_cons_self ..))
    · exact wh_withK ks es (fun y hy => h y (List.mem_cons_of_mem _ hy)) x hx
theorem wh_inP {need : Int} {p : Int × List UInt8} (h : Wh p.2) : Wh (inP need p) := by
  unfold inP
  split
  · exact ((wh_asc _ (by decide)).app h).app (wh_asc _ (by decide))
  · exact h
theorem wh_getD {T : List (Int × List UInt8)} (h : ∀ p ∈ T, Wh p.2) (i : Nat) : Wh (T.getD i (10, [])).2 := by
  rw [List.getD_eq_getElem?_getD]
  cases hi : T[i]? with
  | none => exact Wh.nil
  | some p => exact h p (List.mem_of_getElem? hi)
theorem wh_level {s : ByteArray} (h : 0 < levelB s) : Wh s.data.toList := by
  rw [← ba_list]
  by_cases h0 : (s.toList == [79, 82]) = true
  · rw [eq_of_beq h0]; exact wh_asc _ (by decide)
  by_cases h1 : (s.toList == [88, 79, 82]) = true
  · rw [eq_of_beq h1]; exact wh_asc _ (by decide)
  by_cases h2 : (s.toList == [65, 78, 68]) = true
  · rw [eq_of_beq h2]; exact wh_asc _ (by decide)
  by_cases h3 : (s.toList == [61]) = true
  · rw [eq_of_beq h3]; exact wh_asc _ (by decide)
  by_cases h4 : (s.toList == [60, 62]) = true
  · rw [eq_of_beq h4]; exact wh_asc _ (by decide)
  by_cases h5 : (s.toList == [60]) = true
  · rw [eq_of_beq h5]; exact wh_asc _ (by decide)
  by_cases h6 : (s.toList == [60, 61]) = true
  · rw [eq_of_beq h6]; exact wh_asc _ (by decide)
  by_cases h7 : (s.toList == [62]) = true
  · rw [eq_of_beq h7]; exact wh_asc _ (by decide)
  by_cases h8 : (s.toList == [62, 61]) = true
  · rw [eq_of_beq h8]; exact wh_asc _ (by decide)
  by_cases h9 : (s.toList == [73, 78]) = true
  · rw [eq_of_beq h9]; exact wh_asc _ (by decide)
  by_cases h10 : (s.toList == [43]) = true
  · rw [eq_of_beq h10]; exact wh_asc _ (by decide)
  by_cases h11 : (s.toList == [45]) = true
  · rw [eq_of_beq h11]; exact wh_asc _ (by decide)
  by_cases h12 : (s.toList == [42]) = true
  · rw [eq_of_beq h12]; exact wh_asc _ (by decide)
  by_cases h13 : (s.toList == [47]) = true
  · rw [eq_of_beq h13]; exact wh_asc _ (by decide)
  by_cases h14 : (s.toList == [37]) = true
  · rw [eq_of_beq h14]; exact wh_asc _ (by decide)
  unfold levelB at h
  rw [if_neg h0, if_neg h1, if_neg h2, if_neg h3, if_neg h4, if_neg h5, if_neg h6, if_neg h7, if_neg h8, if_neg h9, if_neg h10, if_neg h11, if_neg h12, if_neg h13, if_neg h14] at h
  omega
theorem wh_agg {s : ByteArray} (h : aggB s = true) : Wh s.data.toList := by
  rw [← ba_list]
  unfold aggB at h
  simp only [Bool.or_eq_true, beq_iff_eq] at h
  rcases h with (((h | h) | h) | h) | h <;> rw [h] <;> exact wh_asc _ (by decide)
theorem wh_lit {v : Vt} (h : litB v = true) : Wh (showV v) := by
  obtain ⟨k, b, i, s, l, ks⟩ := v
  unfold litB at h
  rw [showV]
  simp only [Bool.and_eq_true, Bool.or_eq_true, beq_iff_eq] at h
  rcases h.2 with rfl | rfl | h2 | rfl
  · simp only [Int.reduceEq, reduceIte]; exact wh_asc _ (by decide)
  · simp only [reduceIte]; cases b <;> exact wh_asc _ (by decide)
  · obtain ⟨rfl, _⟩ := h2; simp only [Int.reduceEq, reduceIte]; exact wh_num i
  · simp only [Int.reduceEq, reduceIte]; exact wh_quoted _
theorem wh_text : ∀ (d : Nat) (t : Ex), deepB d t = true → Wh (textX t)
  | 0, t, h => by rw [deepB] at h; cases h
  | d + 1, .mk op nm v ns az, h => by
    have hT : ∀ p ∈ textXs az, Wh p.2 := by
      rw [textXs_map]
      intro p hp
      obtain ⟨t, ht, rfl⟩ := List.mem_map.1 hp
      rw [deepB, Bool.and_eq_true, List.all_eq_true] at h
      exact wh_text d t (h.2 t ht)
    have hS : ∀ x ∈ (textXs az).map (·.2), Wh x := fun x hx => by
      obtain ⟨p, hp, rfl⟩ := List.mem_map.1 hx; exact hT p hp
    have hN : ∀ n i, Wh (ndT n (textXs az) i) := fun n i => wh_inP (wh_getD hT i)
    have hJ : Wh (jn ((textXs az).map (·.2))) := wh_jn _ hS
    have hK := wh_key nm
    have hnm := (deep_parts h).1
    clear h
    rw [textX_eq]
    rcases named_no hnm with rfl | rfl | rfl | rfl | rfl | rfl | rfl | rfl | rfl | rfl | rfl | rfl | rfl | rfl | rfl
    all_goals rw [bodyX]; rw [namedB] at hnm; simp only [Int.reduceEq, reduceIte, Bool.and_eq_true] at hnm ⊢
    · exact wh_lit hnm.2.2
    · exact wh_plain hnm.2
    · exact (wh_asc _ (by decide)).app (wh_plain hnm.2)
    · exact (hN _ _).app ((wh_asc _ (by decide)).app hK)
    · exact (hN _ _).app ((wh_asc _ (by decide)).app hK)
    · exact ((wh_asc _ (by decide)).app hJ).app (wh_asc _ (by decide))
    · exact ((wh_asc _ (by decide)).app (wh_jn _ (wh_withK _ _ hS))).app (wh_asc _ (by decide))
    · exact (hN _ _).app (((wh_asc _ (by decide)).app (wh_getD hT 1)).app (wh_asc _ (by decide)))
    · exact (wh_asc _ (by decide)).app (hN _ _)
    · exact (wh_asc _ (by decide)).app (hN _ _)
    · exact (hN _ _).app (wh_asc _ (by decide))
    · exact (hN _ _).app (wh_asc _ (by decide))
    · exact ((hN _ _).app (((wh_asc _ (by decide)).app (wh_level (by simpa using hnm.2))).app (wh_asc _ (by decide)))).app (hN _ _)
    · exact (((wh_plain hnm.1).app (wh_asc _ (by decide))).app hJ).app (wh_asc _ (by decide))
    · have ha : Wh nm.data.toList := by
        simp only [Bool.or_eq_true, Bool.and_eq_true, beq_iff_eq] at hnm
        rcases hnm with hnm | hnm
        · exact wh_agg hnm.2
        · rw [← ba_list, hnm.2]; exact wh_asc _ (by decide)
      split
      · exact ha.app (wh_asc _ (by decide))
      · exact ((ha.app (wh_asc _ (by decide))).app hJ).app (wh_asc _ (by decide))
end Go.Proofs.YtndhpdclpgemfaaGreat
