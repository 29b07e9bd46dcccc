/- Layer 3: the contracts of slices.BinarySearch of texts and of value.Get. Conditions: the texts are sorted; the value is small. -/
import Derived.Test.YtdkgjbjlpofieaaMap
namespace Go.Proofs.Ytdkgjbjlpofieaa
open Go.RowKit
set_option linter.unusedSimpArgs false
set_option linter.unusedVariables false

theorem nanSl_any (a : ByteArray) (w : World) : Calls Try.prog 55 #[.string a] w fun e w' => e = .returned (.bool false) ∧ w = w' := by
  go_enter Try.func55, Try.ntmps55
  go_wp2_with fail
  go_ret
  exact ⟨by simp, rfl⟩
theorem lessS_any (a b : ByteArray) (w : World) : Calls Try.prog 54 #[.string a, .string b] w fun e w' => e = .returned (.bool (ltS a b)) ∧ w = w' := by
  have H1 := Lib.hid (nanS_any a w)
  have H2 := Lib.hid (nanS_any b w)
  go_enter Try.func54, Try.ntmps54
  go_wp2_with fail
  refine H1.out.mono ?_
  rintro e w1 ⟨rfl, rfl⟩
  go_wp2_with fail
  go_ret
  exact ⟨by rfl, rfl⟩
/-- Each text is less than those behind it. -/
def SortedS (ks : List ByteArray) : Prop := ∀ (i j : Nat) x y, i < j → ks[i]? = some x → ks[j]? = some y → ltS x y = true
def FoundP (ks : List ByteArray) (key : ByteArray) (w : World) (e : Ending) (w' : World) : Prop :=
  w = w' ∧ ∃ r : Nat, e = .returned (.tuple #[.int .i64 r, .bool (decide (ks[r]? = some key))]) ∧ r ≤ ks.length ∧ (∀ (i : Nat) x, i < r → ks[i]? = some x → ltS x key = true) ∧ (∀ (i : Nat) x, r ≤ i → ks[i]? = some x → ltS x key = false)
set_option maxRecDepth 100000 in
set_option maxHeartbeats 2000000 in
theorem bsearch_any (ks : List ByteArray) (key : ByteArray) (ka : Option Addr) (kc B : Nat) (w : World) (hK : StrRow B w ka ks) (hl : ks.length ≤ 1099511627776) (hs : SortedS ks) :
    Calls Try.prog 34 #[.slice ka ks.length kc, .string key] w (FoundP ks key w) := by
  obtain ⟨n, hn⟩ : ∃ n, ks.length = n := ⟨_, rfl⟩
  rw [hn] at hl ⊢
  have HN := Lib.hid hn
  have HK := Lib.hid hK
  have HS := Lib.hid hs
  clear hn hK hs
  go_enter Try.func34, Try.ntmps34
  go_wp2_with fail
  go_loop [7, 8] (fun lv hv => ∃ (lo hi : Nat), lv = .int .i64 lo ∧ hv = .int .i64 hi ∧ lo ≤ hi ∧ hi ≤ n ∧ Hid (∀ (i : Nat) x, i < lo → ks[i]? = some x → ltS x key = true) ∧ Hid (∀ (i : Nat) x, hi ≤ i → ks[i]? = some x → ltS x key = false)) (fun lv hv => (intOf hv).toNat - (intOf lv).toNat)
  case atStart => exact ⟨0, n, rfl, rfl, Nat.zero_le _, Nat.le_refl _, Lib.hid (fun _ _ h => absurd h (Nat.not_lt_zero _)), Lib.hid (fun i x h hx => by have := (List.getElem?_eq_some_iff.1 hx).1; have := HN.out; omega)⟩
  case round =>
    obtain ⟨lo, hi, rfl, rfl, hlo, hhi, HLT, HGE⟩ := hrel
    by_cases hlt : lo < hi
    · have hlt' : (lo : Int) < hi := by omega
      obtain ⟨m, hm⟩ : ∃ m, (lo + hi) / 2 = m := ⟨_, rfl⟩
      have hmn : m < n := by omega
      have hmI : ((lo : Int) + hi) / 2 = m := by omega
      obtain ⟨x, hx⟩ : ∃ x, ks[m]? = some x := get_some (by have := HN.out; omega)
      obtain ⟨b, off, rfl, hb, hc⟩ := HK.out.get hx
      have HX := Lib.hid hx
      clear hx
      have HC := Lib.hid (lessS_any x key w)
      go_wp2_with fail
      refine HC.out.mono ?_
      rintro e w1 ⟨rfl, rfl⟩
      cases hb2 : ltS x key with
      | true =>
        have HLS := Lib.hid hb2
        clear hb2
        go_wp2_with fail
        go_round
        case rel =>
          refine ⟨m + 1, hi, by go_num, rfl, by omega, by omega, Lib.hid (fun i y hi2 hy => ?_), HGE⟩
          by_cases him : i = m
          · subst him
            rw [HX.out] at hy
            cases hy
            exact HLS.out
          · exact bl_trans _ _ _ (HS.out i m y x (by omega) hy HX.out) HLS.out
        case measure => simp [intOf]; omega
      | false =>
        have HLS := Lib.hid hb2
        clear hb2
        go_wp2_with fail
        go_round
        case rel =>
          refine ⟨lo, m, rfl, rfl, by omega, by omega, HLT, Lib.hid (fun i y hi2 hy => ?_)⟩
          by_cases him : i = m
          · subst him
            rw [HX.out] at hy
            cases hy
            exact HLS.out
          · exact (swo_at (fun z : ByteArray => z)).ntrans y x key (by
              rcases bl_tri x.toList y.toList with ⟨_, h, _⟩ | ⟨_, _, h⟩ | ⟨h, h', _⟩
              · exact h
              · exact h
              · have := HS.out m i x y (by omega) HX.out hy
                unfold ltS at this
                rw [h'] at this
                cases this) HLS.out
        case measure => simp [intOf]; omega
    · have hlt' : ¬ (lo : Int) < hi := by omega
      have hlh : lo = hi := by omega
      have HFP : ∀ ok : Bool, decide (ks[lo]? = some key) = ok → FoundP ks key w (.returned (.tuple #[.int .i64 lo, .bool ok])) w := fun ok hok => ⟨rfl, lo, by rw [hok], by have := HN.out; omega, HLT.out, by have := HGE.out; rwa [← hlh] at this⟩
      have HF := Lib.hid HFP
      clear HFP hlh
      by_cases hln : lo < n
      · have hln' : (lo : Int) < n := by omega
        obtain ⟨x, hx⟩ : ∃ x, ks[lo]? = some x := get_some (by have := HN.out; omega)
        obtain ⟨b, off, rfl, hb, hc⟩ := HK.out.get hx
        have HX := Lib.hid hx
        clear hx
        have hbe := ba_beq x key
        by_cases hxk : x = key
        · have h4 : (x.toList == key.toList) = true := by rw [hbe]; simpa using hxk
          have HXK := Lib.hid hxk
          clear hbe hxk
          go_wp2_with fail
          go_ret2
          exact HF.out true (by rw [HX.out, HXK.out]; simp)
        · have h4 : (x.toList == key.toList) = false := by rw [hbe]; simpa using hxk
          have HXK := Lib.hid hxk
          have HC := Lib.hid (nanSl_any x w)
          clear hbe hxk
          go_wp2_with fail
          refine HC.out.mono ?_
          rintro e w1 ⟨rfl, rfl⟩
          go_wp2_with fail
          go_ret2
          exact HF.out false (by rw [HX.out]; simpa using HXK.out)
      · have hln' : ¬ (lo : Int) < n := by omega
        go_wp2_with fail
        go_ret2
        exact HF.out false (by rw [List.getElem?_eq_none (by have := HN.out; omega)]; simp)

def emptyV : Vt := .mk 0 false 0 ⟨#[]⟩ [] []
/-- The value of a key of a map. -/
def getL : List ByteArray → List Vt → ByteArray → Option Vt
  | k :: ks, t :: ts, key => if k = key then some t else getL ks ts key
  | _, _, _ => none
def getV : Vt → ByteArray → Option Vt
  | .mk k _ _ _ l ks, key => if k = 5 then getL ks l key else none
/-- What Get answers: the value in new memory, or none. -/
def GetP (o : Option Vt) (w : World) (e : Ending) (w' : World) : Prop :=
  Below w.heap.size w w' ∧ ((o = none ∧ e = .returned (.tuple #[.agg zeroC.toArray, .bool false])) ∨
    ∃ t cs bs, o = some t ∧ e = .returned (.tuple #[.agg cs.toArray, .bool true]) ∧ IsO w' cs t bs ∧ bs.Nodup ∧ ∀ b ∈ bs, w.heap.size ≤ b ∧ b < w'.heap.size)
theorem getL_some {ks : List ByteArray} {l : List Vt} {key : ByteArray} {r : Nat} {t : Vt} (h : ks[r]? = some key) (ht : l[r]? = some t) (hn : ∀ (i : Nat) x, i < r → ks[i]? = some x → x ≠ key) : getL ks l key = some t := by
  induction ks generalizing l r with
  | nil => simp at h
  | cons k ks ih =>
    cases l with
    | nil => simp at ht
    | cons u l =>
      unfold getL
      cases r with
      | zero => simp at h ht; rw [if_pos h, ht]
      | succ r => rw [if_neg (hn 0 k (by omega) rfl)]; exact ih (by simpa using h) (by simpa using ht) (fun i x hi hx => hn (i + 1) x (by omega) (by simpa using hx))
theorem getL_none {ks : List ByteArray} {l : List Vt} {key : ByteArray} (hn : ∀ (i : Nat) x, ks[i]? = some x → x ≠ key) : getL ks l key = none := by
  induction ks generalizing l with
  | nil => cases l <;> rfl
  | cons k ks ih =>
    cases l with
    | nil => rfl
    | cons u l =>
      unfold getL
      rw [if_neg (hn 0 k rfl)]
      exact ih (fun i x hx => hn (i + 1) x (by simpa using hx))
set_option maxRecDepth 100000 in
set_option maxHeartbeats 4000000 in
theorem get_any (t : Vt) (key : ByteArray) (cs : List Value) (B : Nat) (w : World) (hV : IsV B w cs t) (hB : B ≤ w.heap.size) (hwt : wtV t ≤ 1048576) (hs : ∀ k b i s l ks, t = .mk k b i s l ks → SortedS ks ∧ (k = 5 → ks.length = l.length)) :
    Calls Try.prog 15 #[.agg cs.toArray, .string key] w (GetP (getV t key) w) := by
  obtain ⟨k, b, i, s, l, ks⟩ := t
  obtain ⟨hsk, hkl⟩ := hs k b i s l ks rfl
  unfold IsV at hV
  obtain ⟨la, lc, ka, kc, rfl, hk64, hi64, ⟨hlc, hlm⟩, ⟨hkc, hkm⟩, hlz, hkz, hK, hL⟩ := hV
  have hln : l.length ≤ 1048576 := by have h1 := wtVs_len l; simp only [wtV] at hwt; omega
  have hkn : ks.length ≤ 1099511627776 := by have h1 := keys_len ks; simp only [wtV] at hwt; omega
  show Calls Try.prog 15 #[.agg #[.int .i64 k, .bool b, .int .i64 i, .string s, .slice la l.length lc, .slice ka ks.length kc], .string key] w _
  obtain ⟨W1, hW1⟩ : ∃ W1, (w.alloc (.cells #[.int .i64 k, .bool b, .int .i64 i, .string s, .slice la l.length lc, .slice ka ks.length kc] 26)).alloc (.cells zeroC.toArray 26) = W1 := ⟨_, rfl⟩
  have hBW : Below w.heap.size w W1 := by rw [← hW1]; exact ((Below.refl _ _).alloc (Nat.le_refl _) _).alloc (by simp) _
  have hX0 : Block W1 w.heap.size [.int .i64 k, .bool b, .int .i64 i, .string s, .slice la l.length lc, .slice ka ks.length kc] 26 := by rw [← hW1]; exact (Block.new w _ _).alloc _
  have hX1 : Block W1 (w.heap.size + 1) zeroC 26 := by
    rw [← hW1]
    have := Block.new (w.alloc (.cells #[.int .i64 k, .bool b, .int .i64 i, .string s, .slice la l.length lc, .slice ka ks.length kc] 26)) zeroC 26
    simpa using this
  have HX0 := Lib.hid hX0
  have HX1 := Lib.hid hX1
  have HBW := Lib.hid hBW
  have HBS := Lib.hid (bsearch_any ks key ka kc B W1 (hK.below hBW hB) hkn hsk)
  have HL := Lib.hid hL
  have HW := Lib.hid hW1
  have HSK := Lib.hid hsk
  clear hX0 hX1 hBW hK hL hsk
  rw [← hW1] at HBS
  go_enter Try.func15, Try.ntmps15
  go_wp2_with fail
  refine HBS.out.mono ?_
  rintro e w' ⟨rfl, r, rfl, hr, hlt, hge⟩
  rw [HW.out]
  obtain ⟨ok, hok⟩ : ∃ ok, decide (ks[r]? = some key) = ok := ⟨_, rfl⟩
  rw [hok]
  clear HBS hs hW1 HW
  have HLT := Lib.hid hlt
  have HGE := Lib.hid hge
  have HR := Lib.hid hr
  clear hlt hge hr
  have z0 := HX1.out.cell (i := 0) rfl
  have z1 := HX1.out.cell (i := 1) rfl
  have z2 := HX1.out.cell (i := 2) rfl
  have z3 := HX1.out.cell (i := 3) rfl
  have z4 := HX1.out.cell (i := 4) rfl
  have z5 := HX1.out.cell (i := 5) rfl
  have n0 := HX1.out.free 0
  have n1 := HX1.out.free 1
  have n2 := HX1.out.free 2
  have n3 := HX1.out.free 3
  have n4 := HX1.out.free 4
  have n5 := HX1.out.free 5
  have c0 := HX0.out.cell (i := 0) rfl
  have c4 := HX0.out.cell (i := 4) rfl
  by_cases hin : ok = true ∧ k = 5
  · obtain ⟨rfl, rfl⟩ := hin
    have hks : ks[r]? = some key := by simpa using hok
    have hrl : r < l.length := by have := hkl rfl; have := (List.getElem?_eq_some_iff.1 hks).1; omega
    have hrl' : (r : Int) < l.length := by omega
    have hge' : ¬ (l.length : Int) ≤ r := by omega
    obtain ⟨t, ht⟩ := get_some hrl
    obtain ⟨eb, eo, k2, b2, i2, s2, l2, ks2, la2, lc2, ka2, kc2, rfl, rfl, heb, ⟨g0, g1, g2, g3, g4, g5⟩, hVt⟩ := (HL.out.below HBW.out hB).at ht
    have hwt2 : wtV (.mk k2 b2 i2 s2 l2 ks2) ≤ 1048576 := by have h1 := wtVs_get ht; simp only [wtV] at hwt h1 ⊢; omega
    have HGV : Hid (getV (.mk 5 b i s l ks) key = some (.mk k2 b2 i2 s2 l2 ks2)) := Lib.hid (by
      show (if (5 : Int) = 5 then getL ks l key else none) = _
      rw [if_pos rfl]
      refine getL_some hks ht (fun j x hj hx e => ?_)
      have h1 := HLT.out j x hj hx
      rw [e] at h1
      have h2 := (swo_at (fun z : ByteArray => z)).irrefl key
      rw [h2] at h1
      cases h1)
    have HCP := Lib.hid (copy_any _ _ B W1 hVt (Nat.le_trans hB HBW.out.size) hwt2)
    clear hVt ht hok hks hwt hwt2 hkl
    go_wp2_with fail
    refine HCP.out.mono ?_
    rintro e w7 ⟨cs, bs, rfl, hb7, ho7, hn7, hr7⟩
    have ho := ho7
    unfold IsO at ho
    obtain ⟨la7, lc7, ka7, kc7, b71, b72, rfl, -, -, -, -⟩ := ho
    have HX17 := Lib.hid (HX1.out.below hb7 HX1.out.lt)
    clear z0 z1 z2 z3 z4 z5 n0 n1 n2 n3 n4 n5
    have z0 := HX17.out.cell (i := 0) rfl
    have z1 := HX17.out.cell (i := 1) rfl
    have z2 := HX17.out.cell (i := 2) rfl
    have z3 := HX17.out.cell (i := 3) rfl
    have z4 := HX17.out.cell (i := 4) rfl
    have z5 := HX17.out.cell (i := 5) rfl
    have n0 := HX17.out.free 0
    have n1 := HX17.out.free 1
    have n2 := HX17.out.free 2
    have n3 := HX17.out.free 3
    have n4 := HX17.out.free 4
    have n5 := HX17.out.free 5
    obtain ⟨q0, q1, q2, q3, q4, q5⟩ := six_cells HX17.out (.int .i64 k2) (.bool b2) (.int .i64 i2) (.string s2) (.slice la7 l2.length lc7) (.slice ka7 ks2.length kc7)
    have HO7 := Lib.hid ho7
    have HR7 := Lib.hid (show _ ∧ _ from ⟨hn7, hr7⟩)
    have HB7 := Lib.hid hb7
    clear ho7 hn7 hr7 hb7 g0 g1 g2 g3 g4 g5 c0 c4
    go_wp2_with fail
    refine bodyPost_ret (by simp [results, Try.results15, go_sem, q0, q1, q2, q3, q4, q5]; rfl) rfl ?_
    have hw6 : w.heap.size + 1 < W1.heap.size := HX1.out.lt
    refine ⟨set6_below (HBW.out.trans (HB7.out.mono HBW.out.size)) (w.heap.size + 1) 0 (by omega) _ _ _ _ _ _, .inr ⟨_, _, bs, HGV.out, rfl, ?_, HR7.out.1, fun b hb => ?_⟩⟩
    · refine IsO.same _ _ _ HO7.out fun b hb => ?_
      exact set6_other w7 (w.heap.size + 1) 0 _ _ _ _ _ _ b (by have := (HR7.out.2 b hb).1; omega)
    · have h1 := HR7.out.2 b hb
      refine ⟨by have := HBW.out.size; omega, ?_⟩
      show b < (set6 w7 (w.heap.size + 1) 0 _ _ _ _ _ _).heap.size
      rw [set6_size]
      exact h1.2
  · have HGV : Hid (getV (.mk k b i s l ks) key = none) := Lib.hid (by
      show (if k = 5 then getL ks l key else none) = _
      by_cases hk5 : k = 5
      · rw [if_pos hk5]
        refine getL_none (fun j x hx e => ?_)
        subst e
        have hno : ¬ ks[r]? = some x := by
          cases ok with
          | true => exact absurd ⟨rfl, hk5⟩ hin
          | false => simpa using hok
        have hirr := (swo_at (fun z : ByteArray => z)).irrefl x
        have hsk := HSK.out
        rcases Nat.lt_trichotomy j r with h | h | h
        · rw [HLT.out j x h hx] at hirr; cases hirr
        · subst h; exact hno hx
        · obtain ⟨y, hy⟩ : ∃ y, ks[r]? = some y := get_some (by have := (List.getElem?_eq_some_iff.1 hx).1; omega)
          have h1 := hsk r j y x h hy hx
          have h2 := HGE.out r y (Nat.le_refl _) hy
          rw [h1] at h2
          cases h2
      · rw [if_neg hk5])
    have hno : (ok = false) ∨ (ok = true ∧ ¬ k = 5) := by cases ok <;> simp_all
    clear hin hok hkl
    obtain ⟨q0, q1, q2, q3, q4, q5⟩ := six_cells HX1.out (.int .i64 0) (.bool false) (.int .i64 0) (.string ⟨#[]⟩) (.slice none 0 0) (.slice none 0 0)
    have hEND : GetP (getV (.mk k b i s l ks) key) w (.returned (.tuple #[.agg zeroC.toArray, .bool false])) (set6 W1 (w.heap.size + 1) 0 (.int .i64 0) (.bool false) (.int .i64 0) (.string ⟨#[]⟩) (.slice none 0 0) (.slice none 0 0)) :=
      ⟨set6_below HBW.out (w.heap.size + 1) 0 (by omega) _ _ _ _ _ _, .inl ⟨HGV.out, rfl⟩⟩
    have HEND := Lib.hid hEND
    clear hEND HGV
    rcases hno with rfl | ⟨rfl, hk5⟩
    all_goals
      go_wp2_with fail
      refine bodyPost_ret (by simp [results, Try.results15, go_sem, q0, q1, q2, q3, q4, q5]; rfl) rfl ?_
      exact HEND.out
end Go.Proofs.Ytdkgjbjlpofieaa
