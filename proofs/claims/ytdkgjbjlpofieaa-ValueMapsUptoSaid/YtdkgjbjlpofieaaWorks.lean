/- Layer 3: what the statements' small example gives. Conditions: none. -/
import Derived.Test.YtdkgjbjlpofieaaGet
namespace Go.Proofs.Ytdkgjbjlpofieaa
open Go.RowKit
set_option linter.unusedSimpArgs false
set_option linter.unusedVariables false

theorem keysOk_sorted {ks : List ByteArray} (h : keysOk ks = true) : SortedS ks := by
  have h1 : ∀ i, i < ks.length → kOk ks i = true := of_decide_eq_true h
  have step : ∀ (i : Nat) x y, ks[i]? = some x → ks[i + 1]? = some y → ltS x y = true := fun i x y hx hy => by
    have h2 := h1 (i + 1) (List.getElem?_eq_some_iff.1 hy).1
    unfold kOk at h2
    rw [hy] at h2
    simp only [Nat.add_sub_cancel, hx, Bool.and_eq_true, Bool.or_eq_true, decide_eq_true_eq, Bool.not_eq_true'] at h2
    rcases h2.2 with h3 | h3
    · omega
    · unfold strLe at h3
      unfold ltS
      rcases bl_tri x.toList y.toList with ⟨g, _⟩ | ⟨g, _⟩ | ⟨g, _⟩
      · exact g
      · rw [g] at h3; simp at h3
      · rw [g] at h3; simp at h3
  intro i j x y hij hx hy
  induction j generalizing y with
  | zero => omega
  | succ j ih =>
    by_cases h : i = j
    · subst h; exact step i x y hx hy
    · obtain ⟨z, hz⟩ : ∃ z, ks[j]? = some z := get_some (by have := (List.getElem?_eq_some_iff.1 hy).1; omega)
      exact bl_trans _ _ _ (ih z (by omega) hz) (step j z y hz hy)
/-- What may be has its keys in order. -/
theorem may_sorted {k : Int} {b : Bool} {i : Int} {s : ByteArray} {l : List Vt} {ks : List ByteArray} {d : Int} {p : Nat} (h : (mayV (.mk k b i s l ks) d p).2 = true) : SortedS ks ∧ (k = 5 → ks.length = l.length) := by
  obtain ⟨k', b', i', s', l', ks', he, hh, _⟩ := mayV_parts h
  cases he
  have h1 := of_decide_eq_true hh
  by_cases hk : k = 5
  · exact ⟨keysOk_sorted (h1.2.2.2.2.2.2 hk).2, fun hk => (h1.2.2.2.2.2.2 hk).1⟩
  · have h2 : unusedV k b i s l.length ks.length = true := h1.2.2.2.2.1
    have h3 := of_decide_eq_true h2
    have h4 : ks = [] := List.eq_nil_of_length_eq_zero (by omega)
    subst h4
    exact ⟨fun i j x y _ hx => by simp at hx, fun h => absurd h hk⟩
def oneV : Vt := .mk 2 false 1 ⟨#[]⟩ [] []
def twoV : Vt := .mk 3 false 0 ⟨#[98]⟩ [] []
def wKeys : List ByteArray := [⟨#[121]⟩, ⟨#[120]⟩]
theorem perm2 {L : List Nat} (h : OrderOf wKeys L) : L = [1, 0] := by
  obtain ⟨h1, h2⟩ := h
  have hl : L.length = 2 := by have := h1.length_eq; simpa [wKeys] using this
  obtain ⟨a, b, rfl⟩ : ∃ a b, L = [a, b] := by
    match L, hl with
    | [a, b], _ => exact ⟨a, b, rfl⟩
  have hm : ∀ x, x ∈ [a, b] ↔ x < 2 := fun x => by rw [h1.mem_iff]; simp [wKeys]
  have hn : [a, b].Nodup := h1.nodup_iff.2 List.nodup_range
  have ha := (hm a).1 (by simp)
  have hb := (hm b).1 (by simp)
  have hab : a ≠ b := by intro e; subst e; simp at hn
  have hc : (a = 0 ∧ b = 1) ∨ (a = 1 ∧ b = 0) := by omega
  rcases hc with ⟨rfl, rfl⟩ | ⟨rfl, rfl⟩
  · have := h2 0 1 (by omega) (by show 1 < 2; omega)
    have h3 : ltS (wKeys.getD ([0, 1].getD 1 0) ⟨#[]⟩) (wKeys.getD ([0, 1].getD 0 0) ⟨#[]⟩) = true := by kernel_rfl
    rw [h3] at this
    cases this
  · rfl
def wMap : Vt := .mk 5 false 0 ⟨#[]⟩ [twoV, oneV] [⟨#[120]⟩, ⟨#[121]⟩]
theorem isV_flat {B : Nat} {w : World} (k i : Int) (s : ByteArray) (hk : in64 k) (hi : in64 i) : IsV B w [.int .i64 k, .bool false, .int .i64 i, .string s, .slice none 0 0, .slice none 0 0] (.mk k false i s [] []) := by
  unfold IsV
  exact ⟨none, 0, none, 0, rfl, hk, hi, ⟨Nat.le_refl _, by omega⟩, ⟨Nat.le_refl _, by omega⟩, fun _ => rfl, fun _ => rfl, .inl rfl, by unfold IsVs; trivial⟩
theorem wMap_may : mayB wMap = true := by kernel_rfl
theorem one_may : (mayV oneV 32 0).2 = true := by kernel_rfl
theorem two_may : (mayV twoV 32 0).2 = true := by kernel_rfl
theorem w_wt : 1 + (wKeys.map fun k => k.size + 1).sum + wtVs [oneV, twoV] = 8 := by kernel_rfl
theorem w_wtm : wtV wMap = 8 := by kernel_rfl
theorem w_get : getV wMap ⟨#[120]⟩ = some twoV := by kernel_rfl
theorem w_same : sameV twoV twoV = true := (sameV_iff _ _).2 rfl
theorem w_other : sameV twoV oneV = false := by kernel_rfl
theorem w_order : ordV oneV twoV = 1 := by kernel_rfl
def oneC : List Value := [.int .i64 2, .bool false, .int .i64 1, .string ⟨#[]⟩, .slice none 0 0, .slice none 0 0]
def twoC : List Value := [.int .i64 3, .bool false, .int .i64 0, .string ⟨#[98]⟩, .slice none 0 0, .slice none 0 0]
theorem one_is (B : Nat) (w : World) : IsV B w oneC oneV := isV_flat 2 1 ⟨#[]⟩ (by unfold in64; omega) (by unfold in64; omega)
theorem two_is (B : Nat) (w : World) : IsV B w twoC twoV := isV_flat 3 0 ⟨#[98]⟩ (by unfold in64; omega) (by unfold in64; omega)
/-- What the example's walk knows of memory behind each call. -/
structure WS (w u : World) (m g kb : Nat) (la la5 ka5 : Option Addr) (lc kc lc5 kc5 : Nat) (kcur : List Value) (kty : TypeId) : Prop where
  x0 : Block u w.heap.size oneC 26
  x1 : Block u (w.heap.size + 1) twoC 26
  xm : Block u m [.int .i64 5, .bool false, .int .i64 0, .string ⟨#[]⟩, .slice la 2 lc, .slice (some ⟨kb, 0, none⟩) 2 kc] 26
  xk : Block u kb kcur kty
  xv : Block u g [.int .i64 3, .bool false, .int .i64 0, .string ⟨#[98]⟩, .slice la5 0 lc5, .slice ka5 0 kc5] 26
  vm : IsV u.heap.size u [.int .i64 5, .bool false, .int .i64 0, .string ⟨#[]⟩, .slice la 2 lc, .slice (some ⟨kb, 0, none⟩) 2 kc] wMap
  vv : IsV u.heap.size u [.int .i64 3, .bool false, .int .i64 0, .string ⟨#[98]⟩, .slice la5 0 lc5, .slice ka5 0 kc5] twoV
  bel : Below w.heap.size w u
theorem WS.step {w u u' : World} {m g kb : Nat} {la la5 ka5 : Option Addr} {lc kc lc5 kc5 : Nat} {kcur : List Value} {kty : TypeId} (h : WS w u m g kb la la5 ka5 lc kc lc5 kc5 kcur kty) (hb : Below u.heap.size u u') : WS w u' m g kb la la5 ka5 lc kc lc5 kc5 kcur kty :=
  ⟨h.x0.below hb h.x0.lt, h.x1.below hb h.x1.lt, h.xm.below hb h.xm.lt, h.xk.below hb h.xk.lt, h.xv.below hb h.xv.lt, IsV.mono hb.size _ _ (IsV.below hb (Nat.le_refl _) _ _ h.vm), IsV.mono hb.size _ _ (IsV.below hb (Nat.le_refl _) _ _ h.vv), h.bel.trans (hb.mono h.bel.size)⟩
set_option maxRecDepth 100000 in
set_option maxHeartbeats 4000000 in
theorem works_any (w : World) : Calls Try.prog 9 #[] w fun e w' => e = .returned (.bool true) ∧ Below w.heap.size w w' := by
  go_enter Try.func9, Try.ntmps9
  go_wp2_with fail
  obtain ⟨W1, hW1⟩ : ∃ W1, (((w.alloc (.cells oneC.toArray 26)).alloc (.cells twoC.toArray 26)).alloc (.cells #[.string ⟨#[121]⟩, .string ⟨#[120]⟩] 9)).alloc (.cells (oneC ++ twoC).toArray 26) = W1 := ⟨_, rfl⟩
  have hX0 : Block W1 w.heap.size oneC 26 := by rw [← hW1]; exact (((Block.new w _ _).alloc _).alloc _).alloc _
  have hX1 : Block W1 (w.heap.size + 1) twoC 26 := by
    rw [← hW1]
    have := ((Block.new (w.alloc (.cells oneC.toArray 26)) twoC 26).alloc (.cells #[.string ⟨#[121]⟩, .string ⟨#[120]⟩] 9)).alloc (.cells (oneC ++ twoC).toArray 26)
    simpa using this
  have hX2 : Block W1 (w.heap.size + 1 + 1) [.string ⟨#[121]⟩, .string ⟨#[120]⟩] 9 := by
    rw [← hW1]
    have := (Block.new ((w.alloc (.cells oneC.toArray 26)).alloc (.cells twoC.toArray 26)) [.string ⟨#[121]⟩, .string ⟨#[120]⟩] 9).alloc (.cells (oneC ++ twoC).toArray 26)
    simpa using this
  have hX3 : Block W1 (w.heap.size + 1 + 1 + 1) (oneC ++ twoC) 26 := by
    rw [← hW1]
    have := Block.new (((w.alloc (.cells oneC.toArray 26)).alloc (.cells twoC.toArray 26)).alloc (.cells #[.string ⟨#[121]⟩, .string ⟨#[120]⟩] 9)) (oneC ++ twoC) 26
    simpa using this
  have hBW : Below w.heap.size w W1 := by
    rw [← hW1]
    exact ((((Below.refl _ _).alloc (Nat.le_refl _) _).alloc (by simp) _).alloc (by simp; omega) _).alloc (by simp; omega) _
  have hz1 := hX3.lt
  have hMP := map_any wKeys [oneV, twoV] (some ⟨w.heap.size + 1 + 1, 0, none⟩) (some ⟨w.heap.size + 1 + 1 + 1, 0, none⟩) 2 2 W1.heap.size W1
    (.inr ⟨w.heap.size + 1 + 1, 0, rfl, by omega, fun i v hv => by rw [Nat.zero_add]; exact hX2.cell hv⟩)
    (IsVs.mk fun i t ht => by
      match i, ht with
      | 0, ht => cases ht; exact ⟨_, 0, oneC, rfl, by omega, fun j v hj => by simp only [Nat.zero_add, Nat.zero_mul]; exact hX3.cell (by rw [List.getElem?_append_left (List.getElem?_eq_some_iff.1 hj).1]; exact hj), one_is _ _⟩
      | 1, ht => cases ht; exact ⟨_, 0, twoC, rfl, by omega, fun j v hj => by
          simp only [Nat.zero_add, Nat.one_mul]
          exact hX3.cell (by rw [List.getElem?_append_right (by show 6 ≤ 6 + j; omega)]; rw [show 6 + j - oneC.length = j from by show 6 + j - 6 = j; omega]; exact hj), two_is _ _⟩)
    (Nat.le_refl _) (Nat.le_refl _) (by omega) (Nat.le_refl _) (by omega) (by rw [w_wt]; omega) (stable_small _ (by show 2 ≤ 2; omega) (by show 2 ≤ 20; omega))
  change Calls _ _ _ ((((w.alloc (.cells oneC.toArray 26)).alloc (.cells twoC.toArray 26)).alloc (.cells #[.string ⟨#[121]⟩, .string ⟨#[120]⟩] 9)).alloc (.cells (oneC ++ twoC).toArray 26)) _
  rw [hW1]
  refine hMP.mono ?_
  rintro e w2 ⟨hb2, hM⟩
  have hM2 : ∃ cs bs, e = .returned (.tuple #[.agg cs.toArray, .int .i64 0]) ∧ IsO w2 cs wMap bs ∧ ∀ b ∈ bs, W1.heap.size ≤ b ∧ b < w2.heap.size := by
    rcases hM with ⟨h, _⟩ | ⟨_, L, hL, h⟩
    · exact absurd rfl h
    · obtain rfl := perm2 hL
      rcases h with ⟨h, _⟩ | ⟨_, cs, bs, h1, h2, _, h3⟩
      · have : mayB (mapT wKeys [oneV, twoV] [1, 0]) = true := wMap_may
        rw [this] at h
        cases h
      · exact ⟨cs, bs, h1, h2, h3⟩
  obtain ⟨cs, bs, rfl, ho, hr⟩ := hM2
  clear hM hMP hW1
  have hV2 := IsO.isV (B := w2.heap.size) _ _ _ ho (fun b hb => (hr b hb).2)
  unfold wMap IsO at ho
  obtain ⟨la, lc, ka, kc, b1, b2, rfl, -, rfl, hks, -⟩ := ho
  obtain ⟨kb, kcur, kty, rfl, hkb, hkB, hkc⟩ : ∃ kb cur ty, ka = some ⟨kb, 0, none⟩ ∧ b1 = [kb] ∧ Block w2 kb cur ty ∧ ∀ (j : Nat) x, ([⟨#[120]⟩, ⟨#[121]⟩] : List ByteArray)[j]? = some x → cur[j]? = some (Value.string x) := by
    rcases hks with ⟨h, _⟩ | h
    · cases h
    · exact h
  have hkc0 := hkc 0 _ rfl
  have hBW2 : Below w.heap.size w w2 := hBW.trans (hb2.mono hBW.size)
  obtain ⟨M, hM⟩ : ∃ M : List Value, M = [.int .i64 5, .bool false, .int .i64 0, .string ⟨#[]⟩, .slice la 2 lc, .slice (some ⟨kb, 0, none⟩) 2 kc] := ⟨_, rfl⟩
  obtain ⟨W3, hW3⟩ : ∃ W3, w2.alloc (.cells #[.int .i64 5, .bool false, .int .i64 0, .string ⟨#[]⟩, .slice la 2 lc, .slice (some ⟨kb, 0, none⟩) 2 kc] 26) = W3 := ⟨_, rfl⟩
  have hV3 : IsV w2.heap.size W3 [.int .i64 5, .bool false, .int .i64 0, .string ⟨#[]⟩, .slice la 2 lc, .slice (some ⟨kb, 0, none⟩) 2 kc] wMap := by
    rw [← hW3]; exact IsV.below ((Below.refl _ _).alloc (Nat.le_refl _) _) (Nat.le_refl _) _ _ hV2
  have hz3 : w2.heap.size ≤ W3.heap.size := by rw [← hW3]; simp
  have HGT := Lib.hid (get_any wMap ⟨#[120]⟩ _ w2.heap.size W3 hV3 hz3 (by rw [w_wtm]; omega) (fun k b i s l ks e => by
    have h1 := wMap_may
    rw [e] at h1
    exact may_sorted h1))
  rw [w_get] at HGT
  have X0 := Lib.hid (((hX0.below hb2 (by omega)).alloc (.cells #[.int .i64 5, .bool false, .int .i64 0, .string ⟨#[]⟩, .slice la 2 lc, .slice (some ⟨kb, 0, none⟩) 2 kc] 26)))
  have X1 := Lib.hid (((hX1.below hb2 (by omega)).alloc (.cells #[.int .i64 5, .bool false, .int .i64 0, .string ⟨#[]⟩, .slice la 2 lc, .slice (some ⟨kb, 0, none⟩) 2 kc] 26)))
  have XK := Lib.hid (hkB.alloc (.cells #[.int .i64 5, .bool false, .int .i64 0, .string ⟨#[]⟩, .slice la 2 lc, .slice (some ⟨kb, 0, none⟩) 2 kc] 26))
  have XM := Lib.hid (Block.new w2 [.int .i64 5, .bool false, .int .i64 0, .string ⟨#[]⟩, .slice la 2 lc, .slice (some ⟨kb, 0, none⟩) 2 kc] 26)
  rw [hW3] at X0 X1 XK XM
  have HBW3 : Hid (Below w.heap.size w W3) := Lib.hid (by rw [← hW3]; exact hBW2.alloc hBW2.size _)
  have HV3 := Lib.hid hV3
  have HKC := Lib.hid hkc0
  have HZ : Hid (w.heap.size + 1 + 1 + 1 < W1.heap.size ∧ W1.heap.size ≤ w2.heap.size ∧ kb < w2.heap.size ∧ w2.heap.size ≤ W3.heap.size) := Lib.hid ⟨hz1, hb2.size, hkB.lt, hz3⟩
  have HW3 := Lib.hid hW3
  clear hX0 hX1 hX2 hX3 hBW hz1 hb2 hr hks hkb hkB hkc hkc0 hBW2 hM hV3 hV2 hz3 hW3
  go_wp2_with fail
  rw [HW3.out]
  refine HGT.out.mono ?_
  rintro e w4 ⟨hb4, hg4⟩
  obtain ⟨cs5, bs5, rfl, ho5, hr5⟩ : ∃ cs bs, e = .returned (.tuple #[.agg cs.toArray, .bool true]) ∧ IsO w4 cs twoV bs ∧ ∀ b ∈ bs, W3.heap.size ≤ b ∧ b < w4.heap.size := by
    rcases hg4 with ⟨h, _⟩ | ⟨t, cs, bs, h1, h2, h3, _, h4⟩
    · cases h
    · cases h1
      exact ⟨cs, bs, h2, h3, h4⟩
  have hV5 := IsO.isV (B := w4.heap.size) _ _ _ ho5 (fun b hb => (hr5 b hb).2)
  unfold twoV IsO at ho5
  obtain ⟨la5, lc5, ka5, kc5, b15, b25, rfl, -, -, -, -⟩ := ho5
  obtain ⟨W5, hW5⟩ : ∃ W5, w4.alloc (.cells #[.int .i64 3, .bool false, .int .i64 0, .string ⟨#[98]⟩, .slice la5 0 lc5, .slice ka5 0 kc5] 26) = W5 := ⟨_, rfl⟩
  have hS : WS w W5 w2.heap.size w4.heap.size kb la la5 ka5 lc kc lc5 kc5 kcur kty := by
    have hl : Below w4.heap.size w4 W5 := by rw [← hW5]; exact (Below.refl _ _).alloc (Nat.le_refl _) _
    have h1 : ∀ {k cur ty}, Block W3 k cur ty → Block W5 k cur ty := fun h => (h.below hb4 h.lt).below hl (by have := h.lt; have := hb4.size; omega)
    refine ⟨h1 X0.out, h1 X1.out, h1 XM.out, h1 XK.out, ?_, ?_, ?_, ?_⟩
    · rw [← hW5]; exact Block.new w4 _ _
    · exact IsV.mono (by have := HZ.out; have := hb4.size; have := hl.size; omega) _ _ (IsV.below (hl.mono hb4.size) (by have := HZ.out; omega) _ _ (IsV.below hb4 (by have := HZ.out; omega) _ _ HV3.out))
    · exact IsV.mono hl.size _ _ (IsV.below hl (Nat.le_refl _) _ _ hV5)
    · exact HBW3.out.trans ((hb4.trans (hl.mono hb4.size)).mono HBW3.out.size)
  have HS5 := Lib.hid hS
  have HW5 := Lib.hid hW5
  clear hS hW5 hV5 hr5 hb4 hg4 HGT HW3
  have HC1 := Lib.hid (psame_any twoV twoV _ _ W5.heap.size W5 HS5.out.vv (two_is _ _) (Nat.le_refl _))
  rw [w_same] at HC1
  have HFIN : Hid (∀ u m g kb la la5 ka5 lc kc lc5 kc5 kcur kty, WS w u m g kb la la5 ka5 lc kc lc5 kc5 kcur kty → Below w.heap.size w u) := Lib.hid (fun _ _ _ _ _ _ _ _ _ _ _ _ _ h => h.bel)
  have hbx : (([120] : List UInt8) == [120]) = true := by decide
  have a0 := HS5.out.x0.cell (i := 0) rfl
  have a1 := HS5.out.x0.cell (i := 1) rfl
  have a2 := HS5.out.x0.cell (i := 2) rfl
  have a3 := HS5.out.x0.cell (i := 3) rfl
  have a4 := HS5.out.x0.cell (i := 4) rfl
  have a5 := HS5.out.x0.cell (i := 5) rfl
  have b0 := HS5.out.x1.cell (i := 0) rfl
  have b1 := HS5.out.x1.cell (i := 1) rfl
  have b2 := HS5.out.x1.cell (i := 2) rfl
  have b3 := HS5.out.x1.cell (i := 3) rfl
  have b4 := HS5.out.x1.cell (i := 4) rfl
  have b5 := HS5.out.x1.cell (i := 5) rfl
  have m0 := HS5.out.xm.cell (i := 0) rfl
  have m1 := HS5.out.xm.cell (i := 1) rfl
  have m2 := HS5.out.xm.cell (i := 2) rfl
  have m3 := HS5.out.xm.cell (i := 3) rfl
  have m4 := HS5.out.xm.cell (i := 4) rfl
  have m5 := HS5.out.xm.cell (i := 5) rfl
  have v0 := HS5.out.xv.cell (i := 0) rfl
  have v1 := HS5.out.xv.cell (i := 1) rfl
  have v2 := HS5.out.xv.cell (i := 2) rfl
  have v3 := HS5.out.xv.cell (i := 3) rfl
  have v4 := HS5.out.xv.cell (i := 4) rfl
  have v5 := HS5.out.xv.cell (i := 5) rfl
  have kk := HS5.out.xk.cell (i := 0) HKC.out
  rw [← HW5.out] at a0 a1 a2 a3 a4 a5 b0 b1 b2 b3 b4 b5 m0 m1 m2 m3 m4 m5 v0 v1 v2 v3 v4 v5 kk
  clear X0 X1 XK XM
  go_wp2_with fail
  rw [HW5.out]
  refine HC1.out.mono ?_
  rintro e w6 ⟨rfl, hb6⟩
  have HS6 := Lib.hid (HS5.out.step hb6)
  clear hb6 HW5 kk
  clear a0 a1 a2 a3 a4 a5 b0 b1 b2 b3 b4 b5 m0 m1 m2 m3 m4 m5 v0 v1 v2 v3 v4 v5
  have HC2 := Lib.hid (psame_any twoV oneV _ _ w6.heap.size w6 HS6.out.vv (one_is _ _) (Nat.le_refl _))
  rw [w_other] at HC2
  have a0 := HS6.out.x0.cell (i := 0) rfl
  have a1 := HS6.out.x0.cell (i := 1) rfl
  have a2 := HS6.out.x0.cell (i := 2) rfl
  have a3 := HS6.out.x0.cell (i := 3) rfl
  have a4 := HS6.out.x0.cell (i := 4) rfl
  have a5 := HS6.out.x0.cell (i := 5) rfl
  have v0 := HS6.out.xv.cell (i := 0) rfl
  have v1 := HS6.out.xv.cell (i := 1) rfl
  have v2 := HS6.out.xv.cell (i := 2) rfl
  have v3 := HS6.out.xv.cell (i := 3) rfl
  have v4 := HS6.out.xv.cell (i := 4) rfl
  have v5 := HS6.out.xv.cell (i := 5) rfl
  go_wp2_with fail
  refine HC2.out.mono ?_
  rintro e w7 ⟨rfl, hb7⟩
  have HS7 := Lib.hid (HS6.out.step hb7)
  clear hb7
  clear a0 a1 a2 a3 a4 a5 v0 v1 v2 v3 v4 v5
  have HC3 := Lib.hid (order_any oneV twoV _ _ w7.heap.size w7 32 32 0 0 (one_is _ _) (two_is _ _) (Nat.le_refl _) one_may two_may)
  rw [w_order] at HC3
  have a0 := HS7.out.x0.cell (i := 0) rfl
  have a1 := HS7.out.x0.cell (i := 1) rfl
  have a2 := HS7.out.x0.cell (i := 2) rfl
  have a3 := HS7.out.x0.cell (i := 3) rfl
  have a4 := HS7.out.x0.cell (i := 4) rfl
  have a5 := HS7.out.x0.cell (i := 5) rfl
  have b0 := HS7.out.x1.cell (i := 0) rfl
  have b1 := HS7.out.x1.cell (i := 1) rfl
  have b2 := HS7.out.x1.cell (i := 2) rfl
  have b3 := HS7.out.x1.cell (i := 3) rfl
  have b4 := HS7.out.x1.cell (i := 4) rfl
  have b5 := HS7.out.x1.cell (i := 5) rfl
  go_wp2_with fail
  refine HC3.out.mono ?_
  rintro e w8 ⟨rfl, hb8⟩
  have HS8 := Lib.hid (HS7.out.step hb8)
  clear hb8
  clear a0 a1 a2 a3 a4 a5 b0 b1 b2 b3 b4 b5
  have HC4 := Lib.hid (check_any wMap _ w8.heap.size w8 HS8.out.vm (Nat.le_refl _))
  rw [wMap_may, if_pos rfl] at HC4
  have m0 := HS8.out.xm.cell (i := 0) rfl
  have m1 := HS8.out.xm.cell (i := 1) rfl
  have m2 := HS8.out.xm.cell (i := 2) rfl
  have m3 := HS8.out.xm.cell (i := 3) rfl
  have m4 := HS8.out.xm.cell (i := 4) rfl
  have m5 := HS8.out.xm.cell (i := 5) rfl
  go_wp2_with fail
  refine HC4.out.mono ?_
  rintro e w9 ⟨rfl, hb9⟩
  have HS9 := Lib.hid (HS8.out.step hb9)
  clear hb9
  clear m0 m1 m2 m3 m4 m5
  go_wp2_with fail
  go_ret
  exact ⟨by rfl, HS9.out.bel⟩
end Go.Proofs.Ytdkgjbjlpofieaa
