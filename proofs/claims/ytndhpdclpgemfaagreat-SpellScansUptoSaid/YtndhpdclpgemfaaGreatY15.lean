/- Parts P11, P12, S23 of this seat (pruned, scripts that are alike kept once as default arguments: q1, q2, ..). Conditions: each says its own. -/
import Derived.Lib.Join
import Derived.Test.YtndhpdclpgemfaaGreatY1
import Derived.Test.YtndhpdclpgemfaaGreatY11
import Derived.Test.YtndhpdclpgemfaaGreatY14
namespace Go.Proofs.YtndhpdclpgemfaaGreat
set_option maxRecDepth 100000
open Go.RowKit
set_option linter.unusedSimpArgs false
set_option linter.unusedVariables false
theorem decF_acc (f : Nat) : ∀ (m : Nat) (acc : List UInt8), m < 10 ^ f → decF f m acc = decF f m [] ++ acc := by
 induction f with
 | zero => intro m acc h; simp [decF]
 | succ f ih =>
  intro m acc h
  unfold decF
  split
  ·rfl
  ·have hm : m / 10 < 10 ^ f := by rw [Nat.pow_succ] at h; omega
   rw [ih _ (digB (m % 10) :: acc) hm, ih _ [digB (m % 10)] hm, List.append_assoc]; rfl
theorem decF_fuel (f : Nat) : ∀ (g m : Nat) (acc : List UInt8), f ≤ g → 1 ≤ f → m < 10 ^ f → decF g m acc = decF f m acc := by
 induction f with
 | zero => intro g m acc _ h; omega
 | succ f ih =>
  intro g m acc hg _ h
  obtain ⟨g, rfl⟩ : ∃ g', g = g' + 1 := ⟨g - 1, by omega⟩
  unfold decF
  split
  ·rfl
  ·have hm : m / 10 < 10 ^ f := by rw [Nat.pow_succ] at h; omega
   rcases Nat.eq_zero_or_pos f with h0 | h0
   ·subst h0; simp at hm; omega
   ·exact ih g _ _ (by omega) h0 hm
theorem decF_len (f : Nat) : ∀ (m : Nat) (acc : List UInt8), (decF f m acc).length ≤ f + acc.length := by
 induction f with
 | zero => intro m acc; simp [decF]
 | succ f ih =>
  intro m acc
  unfold decF
  split
  ·simp; omega
  ·have := ih (m / 10) (digB (m % 10) :: acc); simp at this; omega
theorem decN_len (m : Nat) : (decN m).length ≤ 19 := decF_len 19 m []
theorem decN_small {m : Nat} (h : m < 10) : decN m = [digB m] := by unfold decN decF; rw [if_pos h]
theorem decN_step {m : Nat} (h : ¬ m < 10) (hm : m < 10 ^ 19) : decN m = decN (m / 10) ++ [digB (m % 10)] := by
 have h1 : m / 10 < 10 ^ 18 := by omega
 unfold decN
 rw [show (19 : Nat) = 18 + 1 from rfl, decF, if_neg h, decF_acc 18 _ _ h1, decF_fuel 18 (18 + 1) _ _ (by omega) (by omega) h1]
theorem convOne (w : World) (b : UInt8) : (convert 72 9 (.slice (some ⟨w.heap.size, 0, none⟩) 1 1)).run Tryz.prog (w.alloc (.cells #[.int .u8 b.toNat] 5)) = .ok (.string ⟨#[b]⟩) (w.alloc (.cells #[.int .u8 b.toNat] 5)) := by
 have h := Block.new w [.int .u8 b.toNat] 5
 have hc := run_convert_bytes_back (P := Tryz.prog) (w.alloc (.cells #[.int .u8 b.toNat] 5)) 72 9 5 ⟨w.heap.size, 0, none⟩ 1 [b] Tryz.underlying72 Tryz.underlying5 Tryz.underlying9 (fun j hj => by
  rw [addr_add]
  have : j = 0 := by simpa using hj
  subst this
  exact h.cell rfl)
 exact hc
theorem str_ret {a b : ByteArray} (h : a = b) : Ending.returned (.string a) = .returned (.string b) := by rw [h]
theorem ba_append (a b : List UInt8) : (⟨a.toArray⟩ : ByteArray) ++ (⟨b.toArray⟩ : ByteArray) = ⟨(a ++ b).toArray⟩ := by
 apply ByteArray.ext; simp
set_option maxHeartbeats 1000000 in
theorem rtext_small (n : Int) (w : World) (h0 : 0 ≤ n) (hlt : n < 10) : Calls Tryz.prog 125 #[.int .i64 n] w fun e w' => e = .returned (.string ⟨(decN n.toNat).toArray⟩) ∧ Below w.heap.size w w' := by
 have hl : (n == -9223372036854775808) = false := beq_eq_false_iff_ne.2 (by omega)
 obtain ⟨d, hd, hd2⟩ : ∃ d : UInt8, 48 + n % 10 = (d.toNat : Int) ∧ d = digB (n.toNat % 10) := ⟨_, by rw [digB_nat (by omega)]; omega, rfl⟩
 have HD2 : Hid (⟨#[d]⟩ = (⟨(decN n.toNat).toArray⟩ : ByteArray)) := Lib.hid (by rw [decN_small (by omega), hd2, Nat.mod_eq_of_lt (by omega)])
 have hcv := convOne w d
 clear hd2
 go_enter Tryz.func125, Tryz.ntmps125
 go_wp2_with fail
 go_ret
 exact ⟨str_ret HD2.out, (Below.refl _ _).alloc (Nat.le_refl _) _⟩
set_option maxHeartbeats 1000000 in
theorem rtext_nat (f : Nat) : ∀ (n : Int) (w : World), 0 ≤ n → n ≤ 9223372036854775807 → n.toNat < 10 ^ (f + 1) → f ≤ 18 → Calls Tryz.prog 125 #[.int .i64 n] w fun e w' => e = .returned (.string ⟨(decN n.toNat).toArray⟩) ∧ Below w.heap.size w w' := by
 induction f with
 | zero =>
  intro n w h0 _ h _
  exact rtext_small n w h0 (by simp at h; omega)
 | succ f ih =>
  intro n w h0 hub hn hf
  by_cases hlt : n < 10
  ·exact rtext_small n w h0 hlt
  ·have hl : (n == -9223372036854775808) = false := beq_eq_false_iff_ne.2 (by omega)
   obtain ⟨d, hd, hd2⟩ : ∃ d : UInt8, 48 + n % 10 = (d.toNat : Int) ∧ d = digB (n.toNat % 10) := ⟨_, by rw [digB_nat (by omega)]; omega, rfl⟩
   have HD2 : Hid (decN n.toNat = decN (n / 10).toNat ++ [d]) := Lib.hid (by
    have h19 : n.toNat < 10 ^ 19 := Nat.lt_of_lt_of_le hn (Nat.pow_le_pow_right (by omega) (by omega))
    rw [decN_step (by omega) h19, hd2, show n.toNat / 10 = (n / 10).toNat from by omega])
   have hcv := convOne w d
   have IH := Lib.hid (ih (n / 10) (w.alloc (.cells #[.int .u8 d.toNat] 5)) (by omega) (by omega) (by rw [Nat.pow_succ] at hn; omega) (by omega))
   clear hd2 ih hn
   go_enter Tryz.func125, Tryz.ntmps125
   go_wp2_with fail
   refine IH.out.mono ?_; rintro e w1 ⟨rfl, hb⟩
   have hadd := fun (wx : World) => run_string_add_sum (P := Tryz.prog) wx ⟨(decN (n / 10).toNat).toArray⟩ ⟨#[d]⟩ (by
    have := decN_len (n / 10).toNat
    show (decN (n / 10).toNat).toArray.size + 1 ≤ _
    simp only [List.size_toArray]; omega)
   have HB := Lib.hid hb
   clear hb
   go_wp2_with fail
   go_ret
   refine ⟨?_, ((Below.refl _ _).alloc (Nat.le_refl _) _).trans (HB.out.mono (by simp))⟩
   rw [HD2.out, ← ba_append]; rfl
set_option maxHeartbeats 1000000 in
theorem rtext_any (n : Int) (w : World) (hn : In64 n) : Calls Tryz.prog 125 #[.int .i64 n] w fun e w' => e = .returned (.string ⟨(textOf n).toArray⟩) ∧ Below w.heap.size w w' := by
 by_cases h0 : 0 ≤ n
 ·rw [show textOf n = decN n.toNat from by unfold textOf; rw [if_neg (by omega), List.nil_append, show n.natAbs = n.toNat from by omega]]
  exact rtext_nat 18 n w h0 hn.2 (by unfold In64 at hn; omega) (by omega)
 ·by_cases hl : n = -9223372036854775808
  ·have HT : Hid (textOf n = [45, 57, 50, 50, 51, 51, 55, 50, 48, 51, 54, 56, 53, 52, 55, 55, 53, 56, 48, 56]) := Lib.hid (by rw [hl]; decide)
   have hl' : (n == -9223372036854775808) = true := beq_iff_eq.2 hl
   clear hl hn h0
   go_enter Tryz.func125, Tryz.ntmps125
   go_wp2_with fail
   go_ret
   refine ⟨?_, Below.refl _ _⟩
   rw [HT.out]; rfl
  ·have hl' : (n == -9223372036854775808) = false := beq_eq_false_iff_ne.2 hl
   have hw : wrap64 (-n) = -n := by unfold In64 at hn; unfold wrap64; omega
   have hneg : n < 0 := by omega
   have HI := Lib.hid (rtext_nat 18 (-n) w (by omega) (by unfold In64 at hn; omega) (by unfold In64 at hn; omega) (by omega))
   have HT : Hid (textOf n = [45] ++ decN (-n).toNat) := Lib.hid (by unfold textOf; rw [if_pos hneg, show n.natAbs = (-n).toNat from by omega])
   clear hl hn h0
   go_enter Tryz.func125, Tryz.ntmps125
   go_wp2_with fail
   refine HI.out.mono ?_; rintro e w1 ⟨rfl, hb⟩
   have hadd := fun (wx : World) => run_string_add_sum (P := Tryz.prog) wx ⟨#[45]⟩ ⟨(decN (-n).toNat).toArray⟩ (by
    have := decN_len (-n).toNat
    show 1 + (decN (-n).toNat).toArray.size ≤ _
    simp only [List.size_toArray]; omega)
   go_wp2_with fail
   go_ret
   refine ⟨?_, hb⟩
   rw [HT.out, ← ba_append]; rfl
theorem digB_of {c : UInt8} (h : isDig c = true) : digB (c.toNat - 48) = c := by
 have h1 := (isDig_iff c rfl).1 h
 apply UInt8.toNat_inj.1
 have := digB_nat (d := c.toNat - 48) (by omega)
 omega
theorem valOf_pos {c : UInt8} {t : List UInt8} (hc : isDig c = true) (h : c ≠ 48) : 0 < valOf (c :: t) := by
 have h1 := valOf_mono (c :: t) 1
 have h2 : valOf ((c :: t).take 1) = c.toNat - 48 := by simp [valOf]
 have h3 := (isDig_iff c rfl).1 hc
 have h4 : c.toNat ≠ 48 := fun h5 => h (UInt8.toNat_inj.1 (by rw [h5]; rfl))
 omega
theorem text_digits (n : Nat) : ∀ l : List UInt8, l.length = n → l.all isDig = true → l ≠ [] → ¬ (l.head? = some 48 ∧ 1 < l.length) → valOf l < 10 ^ 19 → decN (valOf l) = l := by
 induction n with
 | zero => intro l h _ h0; exact absurd (List.length_eq_zero_iff.1 h) h0
 | succ n ih =>
  intro l hl ha h0 hz hv
  obtain ⟨t, c, rfl⟩ : ∃ t c, l = t ++ [c] := ⟨l.dropLast, l.getLast h0, (List.dropLast_concat_getLast h0).symm⟩
  rw [List.all_append, Bool.and_eq_true] at ha
  have hc : isDig c = true := by simpa using ha.2
  have hcb := (isDig_iff c rfl).1 hc
  rw [valOf_snoc] at hv ⊢
  cases t with
  | nil =>
   simp only [valOf, List.foldl_nil, Nat.zero_mul, Nat.zero_add, List.nil_append]
   rw [decN_small (by omega), digB_of hc]
  | cons d t =>
   have hd : isDig d = true := by have := ha.1; simp only [List.all_cons, Bool.and_eq_true] at this; exact this.1
   have hd48 : d ≠ 48 := fun h => hz ⟨by rw [h]; rfl, by simp⟩
   have hp := valOf_pos (t := t) hd hd48
   have he : (valOf (d :: t) * 10 + (c.toNat - 48)) / 10 = valOf (d :: t) := by omega
   have he2 : (valOf (d :: t) * 10 + (c.toNat - 48)) % 10 = c.toNat - 48 := by omega
   rw [decN_step (by omega) hv, he, he2, digB_of hc, ih (d :: t) (by simpa using hl) ha.1 (by simp) (by rintro ⟨h, _⟩; simp at h; exact hd48 h) (by omega)]
theorem chkE_cases (n : Int) : (In64 n ∧ chkE n = 0 ∧ chkV n = n) ∨ (chkE n = 4 ∧ chkV n = 0) := by
 rcases chk_cases n with h | h
 ·exact .inl ⟨h.1, h.2.2, h.2.1⟩
 ·exact .inr ⟨h.2.2, h.2.1⟩
theorem parseS_cases (b : Bool) (l : List UInt8) : (∃ e, parseS b l = (0, e) ∧ e ≠ 0) ∨ (∃ n, parseS b l = (n, 0) ∧ In64 n ∧ n = sgn b (valOf l) ∧ decN (valOf l) = l ∧ (b = true → n < 0) ∧ (b = false → l.head? ≠ some 45)) := by
 by_cases h : l = [] ∨ (l.head? = some 48 ∧ (1 < l.length ∨ b = true)) ∨ l.all isDig = false
 ·left; unfold parseS; rw [if_pos h]; exact ⟨1, rfl, by decide⟩
 ·have h0 : l ≠ [] := fun e => h (.inl e)
  have hz : ¬ (l.head? = some 48 ∧ (1 < l.length ∨ b = true)) := fun e => h (.inr (.inl e))
  have ha : l.all isDig = true := by cases hq : l.all isDig with | true => rfl | false => exact absurd (.inr (.inr hq)) h
  rw [parseS_val ha h0 hz]
  rcases chkE_cases (sgn b (valOf l)) with hk | hk
  ·right
   rw [hk.2.1, hk.2.2]
   refine ⟨_, rfl, hk.1, rfl, ?_, ?_, ?_⟩
   ·refine text_digits _ l rfl ha h0 (fun e => hz ⟨e.1, .inl e.2⟩) ?_
    have := hk.1
    unfold In64 sgn at this
    cases b <;> simp only [Bool.false_eq_true, if_false, if_true] at this <;> omega
   ·rintro rfl
    cases l with
    | nil => exact absurd rfl h0
    | cons c t =>
     have hc : isDig c = true := by simp only [List.all_cons, Bool.and_eq_true] at ha; exact ha.1
     have := valOf_pos (t := t) hc (fun e => hz ⟨by rw [e]; rfl, .inr rfl⟩)
     simp only [sgn, if_true]; omega
   ·intro _ h45
    cases l with
    | nil => exact absurd rfl h0
    | cons c t =>
     have hc : isDig c = true := by simp only [List.all_cons, Bool.and_eq_true] at ha; exact ha.1
     simp at h45
     rw [h45] at hc; exact absurd hc (by decide)
  ·left; rw [hk.1, hk.2]; exact ⟨4, rfl, by decide⟩
theorem parse_cases (l : List UInt8) : (∃ e, parseOf l = (0, e) ∧ e ≠ 0) ∨ (∃ n, parseOf l = (n, 0) ∧ In64 n ∧ textOf n = l) := by
 unfold parseOf
 by_cases h : l.head? = some 45
 ·rw [if_pos h]
  cases l with
  | nil => simp at h
  | cons c t =>
   simp at h; subst h
   rcases parseS_cases true t with hk | ⟨n, h1, h2, h3, h4, h5, _⟩
   ·exact .inl hk
   ·refine .inr ⟨n, h1, h2, ?_⟩
    unfold textOf
    rw [if_pos (h5 rfl), h3]
    rw [show (sgn true (valOf t)).natAbs = valOf t from by simp only [sgn, if_true]; omega, h4]; rfl
 ·rw [if_neg h]
  rcases parseS_cases false l with hk | ⟨n, h1, h2, h3, h4, _, h6⟩
  ·exact .inl hk
  ·refine .inr ⟨n, h1, h2, ?_⟩
   unfold textOf
   rw [if_neg (by rw [h3]; simp only [sgn, Bool.false_eq_true, if_false]; omega), h3]
   rw [show (sgn false (valOf l)).natAbs = valOf l from by simp only [sgn, Bool.false_eq_true, if_false]; omega, h4]; rfl
end Go.Proofs.YtndhpdclpgemfaaGreat
namespace Go.Proofs.YtndhpdclpgemfaaGreat
open Go.RowKit
set_option linter.unusedVariables false
def jn (xs : List (List UInt8)) : List UInt8 := Lib.join xs [44, 32]
theorem jn_nil : jn [] = [] := rfl
theorem jn_snoc (xs : List (List UInt8)) (x : List UInt8) : jn (xs ++ [x]) = if xs = [] then x else jn xs ++ [44, 32] ++ x := by
 cases xs with
 | nil => rw [if_pos rfl]; exact Lib.join_one x _
 | cons y ys =>
  rw [if_neg (by simp)]
  unfold jn
  rw [List.cons_append, Lib.join_cons, Lib.join_cons]
  unfold Lib.joinTail
  rw [List.map_append, List.flatten_append]
  simp
theorem jn_len' : ∀ (n : Nat) (xs : List (List UInt8)), xs.length = n → (jn xs).length ≤ (xs.map fun x => x.length + 2).sum := by
 intro n
 induction n with
 | zero => intro xs h; rw [List.length_eq_zero_iff.1 h]; simp [jn_nil]
 | succ n ih =>
  intro ys h
  have hne : ys ≠ [] := fun e => by rw [e] at h; simp at h
  obtain ⟨xs, x, rfl⟩ : ∃ xs x, ys = xs ++ [x] := ⟨ys.dropLast, ys.getLast hne, (List.dropLast_concat_getLast hne).symm⟩
  have ih := ih xs (by simpa using h)
  rw [jn_snoc, List.map_append, List.sum_append]
  split
  ·simp; omega
  ·simp only [List.length_append, List.length_cons, List.length_nil, List.map_cons, List.map_nil, List.sum_cons, List.sum_nil]
   omega
theorem jn_len (xs : List (List UInt8)) : (jn xs).length ≤ (xs.map fun x => x.length + 2).sum := jn_len' _ xs rfl
def withKeys (ks : List ByteArray) (es : List (List UInt8)) : List (List UInt8) := List.zipWith (fun k e => keyL k.data.toList ++ [58, 32] ++ e) ks es
mutual
def showV : Vt → List UInt8
  | .mk k b i s l ks =>
    if k = 1 then (if b then [116, 114, 117, 101] else [102, 97, 108, 115, 101]) else if k = 2 then textOf i else if k = 3 then 39 :: (quoteL s.data.toList ++ [39])
    else if k = 6 then [35, 110] ++ textOf i else if k = 7 then [35, 101] ++ textOf i
    else if k = 4 then [91] ++ jn (showVs l) ++ [93] else if k = 5 then [123] ++ jn (withKeys ks (showVs l)) ++ [125] else [110, 117, 108, 108]
def showVs : List Vt → List (List UInt8)
  | [] => []
  | t :: ts => showV t :: showVs ts
end
theorem showVs_map (l : List Vt) : showVs l = l.map showV := by
 induction l with
 | nil => simp [showVs]
 | cons t ts ih => simp [showVs, ih]
theorem textOf_len (n : Int) : (textOf n).length ≤ 20 := by
 have := decN_len n.natAbs
 unfold textOf
 rw [List.length_append]
 split
 ·simp; omega
 ·simp; omega
theorem keyL_len (l : List UInt8) : (keyL l).length ≤ 4 * l.length + 2 := by
 have := quoteL_len l
 unfold keyL
 split
 ·omega
 ·simp; omega
theorem Sq73 {P : Prop} (h : P := by
 intro ks
 induction ks with
 | nil => intro es; simp [withKeys]
 | cons k ks ih2 =>
  intro es
  cases es with
  | nil => simp [withKeys]
  | cons e es =>
   have a := ih2 es
   have b := keyL_len k.data.toList
   have c : k.data.toList.length = k.size := by simp
   unfold withKeys at a ⊢
   simp only [List.zipWith_cons_cons, List.map_cons, List.sum_cons, List.length_append, List.length_cons, List.length_nil]
   omega) : P := h
theorem showV_len (t : Vt) : (showV t).length + 2 ≤ 32 * wtV t := by
 refine t.down (p := fun t => (showV t).length + 2 ≤ 32 * wtV t) fun k b i s l ks ih => ?_
 have hs : s.data.toList.length = s.size := by simp
 have hq := quoteL_len s.data.toList
 have ht := textOf_len i
 have h1 : ((showVs l).map fun x => x.length + 2).sum ≤ 32 * wtVs l := by
  rw [showVs_map, wtVs_sum]
  clear hs hq ht
  induction l with
  | nil => simp
  | cons u us ih2 =>
   have a := ih 0 u rfl
   have b := ih2 (fun j t h => ih (j + 1) t (by simpa using h))
   simp only [List.map_cons, List.sum_cons] at b ⊢
   omega
 have h2 : ∀ (ks : List ByteArray) (es : List (List UInt8)), ((withKeys ks es).map fun x => x.length + 2).sum ≤ (es.map fun x => x.length + 2).sum + 32 * (ks.map fun k => k.size + 1).sum := by
  exact Sq73
 have h3 := h2 ks (showVs l)
 have h4 := jn_len (showVs l)
 have h5 := jn_len (withKeys ks (showVs l))
 simp only [wtV]
 unfold showV
 by_cases k1 : k = 1
 ·rw [if_pos k1]; cases b <;> simp <;> omega
 rw [if_neg k1]
 by_cases k2 : k = 2
 ·rw [if_pos k2]; omega
 rw [if_neg k2]
 by_cases k3 : k = 3
 ·rw [if_pos k3]; simp; omega
 rw [if_neg k3]
 by_cases k6 : k = 6
 ·rw [if_pos k6]; simp; omega
 rw [if_neg k6]
 by_cases k7 : k = 7
 ·rw [if_pos k7]; simp; omega
 rw [if_neg k7]
 by_cases k4 : k = 4
 ·rw [if_pos k4]; simp; omega
 rw [if_neg k4]
 by_cases k5 : k = 5
 ·rw [if_pos k5]; simp; omega
 rw [if_neg k5]
 simp; omega
theorem showVs_take {l : List Vt} {j : Nat} {t : Vt} (h : l[j]? = some t) : (showVs l).take (j + 1) = (showVs l).take j ++ [showV t] := by
 rw [showVs_map]
 exact take_succ_some (by rw [List.getElem?_map, h]; rfl)
theorem withKeys_take {ks : List ByteArray} {l : List Vt} {j : Nat} {t : Vt} {k : ByteArray} (h : l[j]? = some t) (hk : ks[j]? = some k) :
    (withKeys ks (showVs l)).take (j + 1) = (withKeys ks (showVs l)).take j ++ [keyL k.data.toList ++ [58, 32] ++ showV t] := by
 refine take_succ_some ?_
 unfold withKeys
 rw [List.getElem?_zipWith, hk, showVs_map, List.getElem?_map, h]
 rfl
theorem showVs_len (l : List Vt) : (showVs l).length = l.length := by rw [showVs_map, List.length_map]
theorem withKeys_len {ks : List ByteArray} {l : List Vt} (h : ks.length = l.length) : (withKeys ks (showVs l)).length = l.length := by
 unfold withKeys
 rw [List.length_zipWith, showVs_len, h, Nat.min_self]
def shPartsV (k : Int) (ks : List ByteArray) (l : List Vt) : List (List UInt8) := if k = 5 then withKeys ks (showVs l) else showVs l
theorem shPartsV_len {k : Int} {ks : List ByteArray} {l : List Vt} (h : k = 5 → ks.length = l.length) : (shPartsV k ks l).length = l.length := by
 unfold shPartsV
 split
 ·rename_i h5; exact withKeys_len (h h5)
 ·exact showVs_len l
theorem jn_parts_len (k : Int) (b : Bool) (i : Int) (s : ByteArray) (l : List Vt) (ks : List ByteArray) : ((shPartsV k ks l).map fun x => x.length + 2).sum ≤ 32 * wtV (.mk k b i s l ks) := by
 have h1 : ((showVs l).map fun x => x.length + 2).sum ≤ 32 * wtVs l := by
  rw [showVs_map, wtVs_sum]
  induction l with
  | nil => simp
  | cons u us ih2 =>
   have a := showV_len u
   simp only [List.map_cons, List.sum_cons] at ih2 ⊢
   omega
 have h2 : ∀ (ks : List ByteArray) (es : List (List UInt8)), ((withKeys ks es).map fun x => x.length + 2).sum ≤ (es.map fun x => x.length + 2).sum + 32 * (ks.map fun k => k.size + 1).sum := by
  exact Sq73
 have h3 := h2 ks (showVs l)
 simp only [wtV]
 unfold shPartsV
 split <;> omega
theorem sum_take (xs : List (List UInt8)) (j : Nat) : ((xs.take j).map fun x => x.length + 2).sum ≤ (xs.map fun x => x.length + 2).sum := by
 conv => rhs; rw [← List.take_append_drop j xs]
 rw [List.map_append, List.sum_append]
 omega
end Go.Proofs.YtndhpdclpgemfaaGreat
