/- Rows of texts in memory, the order of texts, and slices.BinarySearch of texts. Conditions: none. -/
import Derived.Test.YtaonfacbmolklaaRow
import Derived.Test.YtaonfacbmolklaaExt
import Derived.Sort.Statements
import Derived.Test.YtaonfacbmolklaaProg
namespace Go.Proofs.Ytaonfacbmolklaa
open Go.RowKit Go.Sort
set_option linter.unusedSimpArgs false
set_option linter.unusedVariables false

/-- A row of texts. -/
def StrRow (B : Nat) (w : World) (a : Option Addr) (ks : List ByteArray) : Prop := Cells B w a (ks.map Value.string)
theorem get_some {α : Type} {l : List α} {j : Nat} (h : j < l.length) : ∃ x, l[j]? = some x := ⟨l[j], List.getElem?_eq_getElem h⟩

theorem ba_list (s : ByteArray) : s.toList = s.data.toList := by
  have h0 : ∀ l : List UInt8, (ByteArray.mk l.toArray).toList = l := fun l => by simp
  have h := h0 s.data.toList
  rwa [show (⟨s.data.toList.toArray⟩ : ByteArray) = s from by apply ByteArray.ext; simp] at h
theorem ba_beq (x y : ByteArray) : (x.toList == y.toList) = decide (x = y) := by
  rw [ba_list, ba_list, Bool.eq_iff_iff, beq_iff_eq, decide_eq_true_eq]
  constructor
  · intro h; apply ByteArray.ext; exact Array.ext' h
  · rintro rfl; rfl
theorem StrRow.get {B : Nat} {w : World} {a : Option Addr} {ks : List ByteArray} (h : StrRow B w a ks) {j : Nat} {x : ByteArray} (hx : ks[j]? = some x) : ∃ b off, a = some ⟨b, off, none⟩ ∧ b < B ∧ w.cell? ⟨b, off + j, none⟩ = some (.string x) := by
  rcases h with h0 | ⟨b, off, h1, h2, h3⟩
  · rw [List.map_eq_nil_iff] at h0; rw [h0] at hx; simp at hx
  · exact ⟨b, off, h1, h2, h3 j _ (by rw [List.getElem?_map, hx]; rfl)⟩

theorem bl_tri : ∀ x y : List UInt8, (Op.bytesLess x y = true ∧ Op.bytesLess y x = false ∧ x ≠ y) ∨ (x = y ∧ Op.bytesLess x y = false ∧ Op.bytesLess y x = false) ∨ (Op.bytesLess y x = true ∧ Op.bytesLess x y = false ∧ x ≠ y)
  | [], [] => .inr (.inl ⟨rfl, rfl, rfl⟩)
  | [], b :: y => .inl ⟨rfl, rfl, by simp⟩
  | a :: x, [] => .inr (.inr ⟨rfl, rfl, by simp⟩)
  | a :: x, b :: y => by
    have hs : ∀ (c d : UInt8) u v, Op.bytesLess (c :: u) (d :: v) = (decide (c < d) || (c == d && Op.bytesLess u v)) := fun _ _ _ _ => rfl
    rw [hs, hs]
    by_cases h1 : a < b
    · have h2 : ¬ b < a := by rw [UInt8.lt_iff_toNat_lt] at h1 ⊢; omega
      have h3 : a ≠ b := by intro e; subst e; exact h2 h1
      have h4 : (b == a) = false := beq_eq_false_iff_ne.2 (Ne.symm h3)
      exact .inl ⟨by simp [h1], by simp [h2, h4], fun e => h3 (List.cons.inj e).1⟩
    · by_cases h2 : b < a
      · have h3 : a ≠ b := by intro e; subst e; exact h1 h2
        have h4 : (a == b) = false := beq_eq_false_iff_ne.2 h3
        exact .inr (.inr ⟨by simp [h2], by simp [h1, h4], fun e => h3 (List.cons.inj e).1⟩)
      · have h3 : a = b := by rw [UInt8.lt_iff_toNat_lt] at h1 h2; exact UInt8.toNat_inj.1 (by omega)
        subst h3
        rcases bl_tri x y with ⟨p, q, r⟩ | ⟨p, q, r⟩ | ⟨p, q, r⟩
        · exact .inl ⟨by simp [p], by simp [h1, q], fun e => r (List.cons.inj e).2⟩
        · exact .inr (.inl ⟨by rw [p], by simp [h1, q], by simp [h1, r]⟩)
        · exact .inr (.inr ⟨by simp [p], by simp [h1, q], fun e => r (List.cons.inj e).2⟩)

def ltS (x y : ByteArray) : Bool := Op.bytesLess x.toList y.toList
theorem bl_trans : ∀ x y z : List UInt8, Op.bytesLess x y = true → Op.bytesLess y z = true → Op.bytesLess x z = true
  | [], y, [], _, h => by cases y <;> simp [Op.bytesLess] at h
  | [], y, c :: z, _, _ => rfl
  | a :: x, [], z, h, _ => by simp [Op.bytesLess] at h
  | a :: x, b :: y, [], _, h => by simp [Op.bytesLess] at h
  | a :: x, b :: y, c :: z, h1, h2 => by
    have hs : ∀ (c d : UInt8) u v, Op.bytesLess (c :: u) (d :: v) = (decide (c < d) || (c == d && Op.bytesLess u v)) := fun _ _ _ _ => rfl
    rw [hs] at h1 h2 ⊢
    simp only [Bool.or_eq_true, Bool.and_eq_true, decide_eq_true_eq, beq_iff_eq] at h1 h2 ⊢
    rcases h1 with h1 | ⟨rfl, h1⟩
    · rcases h2 with h2 | ⟨rfl, h2⟩
      · exact .inl (by rw [UInt8.lt_iff_toNat_lt] at *; omega)
      · exact .inl h1
    · rcases h2 with h2 | ⟨rfl, h2⟩
      · exact .inl h2
      · exact .inr ⟨rfl, bl_trans x y z h1 h2⟩
theorem swo_at {α : Type} (f : α → ByteArray) : SWO (fun i j => ltS (f i) (f j)) where
  irrefl x := by rcases bl_tri (f x).toList (f x).toList with ⟨h, h', _⟩ | ⟨_, h, _⟩ | ⟨h, h', _⟩ <;> (unfold ltS; simp_all)
  trans x y z h1 h2 := bl_trans _ _ _ h1 h2
  ntrans x y z h1 h2 := by
    unfold ltS at *
    rcases bl_tri (f x).toList (f y).toList with ⟨h, _⟩ | ⟨h, _⟩ | ⟨h, _⟩
    · rw [h] at h1; cases h1
    · rw [h]; exact h2
    · rcases bl_tri (f y).toList (f z).toList with ⟨k, _⟩ | ⟨k, _⟩ | ⟨k, _⟩
      · rw [k] at h2; cases h2
      · rw [← k]; exact h1
      · have h3 := bl_trans _ _ _ k h
        rcases bl_tri (f x).toList (f z).toList with ⟨g, g2, _⟩ | ⟨_, g, _⟩ | ⟨_, g, _⟩
        · rw [h3] at g2; cases g2
        · exact g
        · exact g

theorem nanS_any (a : ByteArray) (w : World) : Calls Try.prog 55 #[.string a] w fun e w' => e = .returned (.bool false) ∧ w = w' := by
  go_enter Try.func55, Try.ntmps55
  go_wp2_with fail
  go_ret
  exact ⟨by simp, rfl⟩

theorem nanSl_any (a : ByteArray) (w : World) : Calls Try.prog 49 #[.string a] w fun e w' => e = .returned (.bool false) ∧ w = w' := by
  go_enter Try.func49, Try.ntmps49
  go_wp2_with fail
  go_ret
  exact ⟨by simp, rfl⟩
theorem lessS_any (a b : ByteArray) (w : World) : Calls Try.prog 48 #[.string a, .string b] w fun e w' => e = .returned (.bool (ltS a b)) ∧ w = w' := by
  have H1 := Lib.hid (nanS_any a w)
  have H2 := Lib.hid (nanS_any b w)
  go_enter Try.func48, Try.ntmps48
  go_wp2_with fail
  refine H1.out.mono ?_
  rintro e w1 ⟨rfl, rfl⟩
  go_wp2_with fail
  go_ret
  exact ⟨by rfl, rfl⟩
/-- Each text is less than those behind it. -/
def SortedS (ks : List ByteArray) : Prop := ∀ (i j : Nat) x y, i < j → ks[i]? = some x → ks[j]? = some y → ltS x y = true
def FoundP (ks : List ByteArray) (key : ByteArray) (w : World) (e : Ending) (w' : World) : Prop :=
  w = w' ∧ ∃ r : Nat, e = .returned (.tuple #[.int .i64 r, .bool (decide (ks[r]? = some key))]) ∧ r ≤ ks.length ∧ (∀ (i : Nat) x, i < r → ks[i]? = some x → ltS x key = true) ∧ (∀ (i : Nat) x, r ≤ i → ks[i]? = some x → ltS x key = false)
set_option maxRecDepth 100000 in
set_option maxHeartbeats 2000000 in
theorem bsearch_any (ks : List ByteArray) (key : ByteArray) (ka : Option Addr) (kc B : Nat) (w : World) (hK : StrRow B w ka ks) (hl : ks.length ≤ 1099511627776) (hs : SortedS ks) :
    Calls Try.prog 42 #[.slice ka ks.length kc, .string key] w (FoundP ks key w) := by
  obtain ⟨n, hn⟩ : ∃ n, ks.length = n := ⟨_, rfl⟩
  rw [hn] at hl ⊢
  have HN := Lib.hid hn
  have HK := Lib.hid hK
  have HS := Lib.hid hs
  clear hn hK hs
  go_enter Try.func42, Try.ntmps42
  go_wp2_with fail
  go_loop [7, 8] (fun lv hv => ∃ (lo hi : Nat), lv = .int .i64 lo ∧ hv = .int .i64 hi ∧ lo ≤ hi ∧ hi ≤ n ∧ Hid (∀ (i : Nat) x, i < lo → ks[i]? = some x → ltS x key = true) ∧ Hid (∀ (i : Nat) x, hi ≤ i → ks[i]? = some x → ltS x key = false)) (fun lv hv => (intOf hv).toNat - (intOf lv).toNat)
  case atStart => exact ⟨0, n, rfl, rfl, Nat.zero_le _, Nat.le_refl _, Lib.hid (fun _ _ h => absurd h (Nat.not_lt_zero _)), Lib.hid (fun i x h hx => by have := (List.getElem?_eq_some_iff.1 hx).1; have := HN.out; omega)⟩
  case round =>
    obtain ⟨lo, hi, rfl, rfl, hlo, hhi, HLT, HGE⟩ := hrel
    by_cases hlt : lo < hi
    · have hlt' : (lo : Int) < hi := by omega
      obtain ⟨m, hm⟩ : ∃ m, (lo + hi) / 2 = m := ⟨_, rfl⟩
      have hmn : m < n := by omega
      have hmI : ((lo : Int) + hi) / 2 = m := by omega
      obtain ⟨x, hx⟩ : ∃ x, ks[m]? = some x := get_some (by have := HN.out; omega)
      obtain ⟨b, off, rfl, hb, hc⟩ := HK.out.get hx
      have HX := Lib.hid hx
      clear hx
      have HC := Lib.hid (lessS_any x key w)
      go_wp2_with fail
      refine HC.out.mono ?_
      rintro e w1 ⟨rfl, rfl⟩
      cases hb2 : ltS x key with
      | true =>
        have HLS := Lib.hid hb2
        clear hb2
        go_wp2_with fail
        go_round
        case rel =>
          refine ⟨m + 1, hi, by go_num, rfl, by omega, by omega, Lib.hid (fun i y hi2 hy => ?_), HGE⟩
          by_cases him : i = m
          · subst him
            rw [HX.out] at hy
            cases hy
            exact HLS.out
          · exact bl_trans _ _ _ (HS.out i m y x (by omega) hy HX.out) HLS.out
        case measure => simp [intOf]; omega
      | false =>
        have HLS := Lib.hid hb2
        clear hb2
        go_wp2_with fail
        go_round
        case rel =>
          refine ⟨lo, m, rfl, rfl, by omega, by omega, HLT, Lib.hid (fun i y hi2 hy => ?_)⟩
          by_cases him : i = m
          · subst him
            rw [HX.out] at hy
            cases hy
            exact HLS.out
          · exact (swo_at (fun z : ByteArray => z)).ntrans y x key (by
              rcases bl_tri x.toList y.toList with ⟨_, h, _⟩ | ⟨_, _, h⟩ | ⟨h, h', _⟩
              · exact h
              · exact h
              · have := HS.out m i x y (by omega) HX.out hy
                unfold ltS at this
                rw [h'] at this
                cases this) HLS.out
        case measure => simp [intOf]; omega
    · have hlt' : ¬ (lo : Int) < hi := by omega
      have hlh : lo = hi := by omega
      have HFP : ∀ ok : Bool, decide (ks[lo]? = some key) = ok → FoundP ks key w (.returned (.tuple #[.int .i64 lo, .bool ok])) w := fun ok hok => ⟨rfl, lo, by rw [hok], by have := HN.out; omega, HLT.out, by have := HGE.out; rwa [← hlh] at this⟩
      have HF := Lib.hid HFP
      clear HFP hlh
      by_cases hln : lo < n
      · have hln' : (lo : Int) < n := by omega
        obtain ⟨x, hx⟩ : ∃ x, ks[lo]? = some x := get_some (by have := HN.out; omega)
        obtain ⟨b, off, rfl, hb, hc⟩ := HK.out.get hx
        have HX := Lib.hid hx
        clear hx
        have hbe := ba_beq x key
        by_cases hxk : x = key
        · have h4 : (x.toList == key.toList) = true := by rw [hbe]; simpa using hxk
          have HXK := Lib.hid hxk
          clear hbe hxk
          go_wp2_with fail
          go_ret2
          exact HF.out true (by rw [HX.out, HXK.out]; simp)
        · have h4 : (x.toList == key.toList) = false := by rw [hbe]; simpa using hxk
          have HXK := Lib.hid hxk
          have HC := Lib.hid (nanSl_any x w)
          clear hbe hxk
          go_wp2_with fail
          refine HC.out.mono ?_
          rintro e w1 ⟨rfl, rfl⟩
          go_wp2_with fail
          go_ret2
          exact HF.out false (by rw [HX.out]; simpa using HXK.out)
      · have hln' : ¬ (lo : Int) < n := by omega
        go_wp2_with fail
        go_ret2
        exact HF.out false (by rw [List.getElem?_eq_none (by have := HN.out; omega)]; simp)


theorem wp_region_at {P : Program} {id : Nat} {Q : Exit → Act → World → Prop} {a : Act} {B : Nat} {w : World} (u : Ext B w) {l : List Oper} (hm : P.follows .mixedOrders = true) (hB : Region.lexB .any l.toArray = true)
    (h : wpQuiet P l.toArray (fun w' => ∃ u : Ext B w, w' = u.w) (fun a' => ∀ w', (∃ u : Ext B w, w' = u.w) → Q .normal a' w') l a) : (Code.region id l.toArray true).wp P Q a u.w :=
  wp_region_quiet (C := fun w' => ∃ u : Ext B w, w' = u.w) hm hB ⟨⟨u.w.drew, u.below.drew⟩, rfl⟩ (by simpa using h)
theorem Ext.start (B : Nat) (w : World) : ∃ u : Ext B w, w = u.w := ⟨⟨w, Below.refl _ _⟩, rfl⟩
theorem ext_still {P : Program} {B : Nat} {w : World} {f : FuncId} {args : Array Value} {v : Value} (u : Ext B w) (h : Calls P f args u.w fun e w' => e = .returned v ∧ u.w = w') : Calls P f args u.w fun e w'' => e = .returned v ∧ ∃ u' : Ext B w, w'' = u'.w :=
  h.mono fun _ _ ⟨he, hw⟩ => ⟨he, u, hw.symm⟩
/-- What stands behind a region that appends: the act and the world are found by the first order walked. -/
def Mid (A : Nat → Nat → Act) (F : Nat → Nat → World → World) (R : Nat → Nat → World → Prop) : Exit → Act → World → Prop
  | .normal, a, w => ∃ g c w1, R g c w1 ∧ a = A g c ∧ w = F g c w1
  | _, _, _ => False
theorem wp_mid {P : Program} {c : Code} {Q : Exit → Act → World → Prop} {a : Act} {w : World} (A : Nat → Nat → Act) (F : Nat → Nat → World → World) (R : Nat → Nat → World → Prop)
    (h : c.wp P (Mid A F R) a w) (k : ∀ g c w1, R g c w1 → Q .normal (A g c) (F g c w1)) : c.wp P Q a w := by
  refine Code.wp_mono ?_ h
  intro e a w h
  cases e with
  | normal =>
    obtain ⟨g, c, w1, hr, rfl, rfl⟩ := h
    exact k g c w1 hr
  | _ => exact h.elim
end Go.Proofs.Ytaonfacbmolklaa
