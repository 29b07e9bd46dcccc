/- Layer 5: values as texts, in plain trees. Conditions: none. -/
import Derived.Test.YtangldmjgidgcaaMayP
import Derived.Test.YtangldmjgidgcaaText
import Derived.Test.YtangldmjgidgcaaS19
import Derived.Lib.Join
namespace Go.Proofs.Ytangldmjgidgcaa
open Go.RowKit
set_option linter.unusedVariables false

def jn (xs : List (List UInt8)) : List UInt8 := Lib.join xs [44, 32]
theorem jn_nil : jn [] = [] := rfl
theorem jn_snoc (xs : List (List UInt8)) (x : List UInt8) : jn (xs ++ [x]) = if xs = [] then x else jn xs ++ [44, 32] ++ x := by
  cases xs with
  | nil => rw [if_pos rfl]; exact Lib.join_one x _
  | cons y ys =>
    rw [if_neg (by simp)]
    unfold jn
    rw [List.cons_append, Lib.join_cons, Lib.join_cons]
    unfold Lib.joinTail
    rw [List.map_append, List.flatten_append]
    simp
theorem jn_len' : ∀ (n : Nat) (xs : List (List UInt8)), xs.length = n → (jn xs).length ≤ (xs.map fun x => x.length + 2).sum := by
  intro n
  induction n with
  | zero => intro xs h; rw [List.length_eq_zero_iff.1 h]; simp [jn_nil]
  | succ n ih =>
    intro ys h
    have hne : ys ≠ [] := fun e => by rw [e] at h; simp at h
    obtain ⟨xs, x, rfl⟩ : ∃ xs x, ys = xs ++ [x] := ⟨ys.dropLast, ys.getLast hne, (List.dropLast_concat_getLast hne).symm⟩
    have ih := ih xs (by simpa using h)
    rw [jn_snoc, List.map_append, List.sum_append]
    split
    · simp; omega
    · simp only [List.length_append, List.length_cons, List.length_nil, List.map_cons, List.map_nil, List.sum_cons, List.sum_nil]
      omega
theorem jn_len (xs : List (List UInt8)) : (jn xs).length ≤ (xs.map fun x => x.length + 2).sum := jn_len' _ xs rfl
def withKeys (ks : List ByteArray) (es : List (List UInt8)) : List (List UInt8) := List.zipWith (fun k e => keyL k.data.toList ++ [58, 32] ++ e) ks es
mutual
def showV : Vt → List UInt8
  | .mk k b i s l ks =>
    if k = 1 then (if b then [116, 114, 117, 101] else [102, 97, 108, 115, 101]) else if k = 2 then textOf i else if k = 3 then 39 :: (quoteL s.data.toList ++ [39])
    else if k = 6 then [35, 110] ++ textOf i else if k = 7 then [35, 101] ++ textOf i
    else if k = 4 then [91] ++ jn (showVs l) ++ [93] else if k = 5 then [123] ++ jn (withKeys ks (showVs l)) ++ [125] else [110, 117, 108, 108]
def showVs : List Vt → List (List UInt8)
  | [] => []
  | t :: ts => showV t :: showVs ts
end
theorem showVs_map (l : List Vt) : showVs l = l.map showV := by
  induction l with
  | nil => simp [showVs]
  | cons t ts ih => simp [showVs, ih]
theorem textOf_len (n : Int) : (textOf n).length ≤ 20 := by
  have := decT_len n.natAbs
  unfold textOf
  rw [List.length_append]
  split
  · simp; omega
  · simp; omega
theorem keyL_len (l : List UInt8) : (keyL l).length ≤ 4 * l.length + 2 := by
  have := quoteL_len l
  unfold keyL
  split
  · omega
  · simp; omega
/-- How long a value's text is. -/
theorem showV_len (t : Vt) : (showV t).length + 2 ≤ 32 * wtV t := by
  refine t.down (p := fun t => (showV t).length + 2 ≤ 32 * wtV t) fun k b i s l ks ih => ?_
  have hs : s.data.toList.length = s.size := by simp
  have hq := quoteL_len s.data.toList
  have ht := textOf_len i
  have h1 : ((showVs l).map fun x => x.length + 2).sum ≤ 32 * wtVs l := by
    rw [showVs_map, wtVs_sum]
    clear hs hq ht
    induction l with
    | nil => simp
    | cons u us ih2 =>
      have a := ih 0 u rfl
      have b := ih2 (fun j t h => ih (j + 1) t (by simpa using h))
      simp only [List.map_cons, List.sum_cons] at b ⊢
      omega
  have h2 : ∀ (ks : List ByteArray) (es : List (List UInt8)), ((withKeys ks es).map fun x => x.length + 2).sum ≤ (es.map fun x => x.length + 2).sum + 32 * (ks.map fun k => k.size + 1).sum := by
    intro ks
    induction ks with
    | nil => intro es; simp [withKeys]
    | cons k ks ih2 =>
      intro es
      cases es with
      | nil => simp [withKeys]
      | cons e es =>
        have a := ih2 es
        have b := keyL_len k.data.toList
        have c : k.data.toList.length = k.size := by simp
        unfold withKeys at a ⊢
        simp only [List.zipWith_cons_cons, List.map_cons, List.sum_cons, List.length_append, List.length_cons, List.length_nil]
        omega
  have h3 := h2 ks (showVs l)
  have h4 := jn_len (showVs l)
  have h5 := jn_len (withKeys ks (showVs l))
  simp only [wtV]
  unfold showV
  by_cases k1 : k = 1
  · rw [if_pos k1]; cases b <;> simp <;> omega
  rw [if_neg k1]
  by_cases k2 : k = 2
  · rw [if_pos k2]; omega
  rw [if_neg k2]
  by_cases k3 : k = 3
  · rw [if_pos k3]; simp; omega
  rw [if_neg k3]
  by_cases k6 : k = 6
  · rw [if_pos k6]; simp; omega
  rw [if_neg k6]
  by_cases k7 : k = 7
  · rw [if_pos k7]; simp; omega
  rw [if_neg k7]
  by_cases k4 : k = 4
  · rw [if_pos k4]; simp; omega
  rw [if_neg k4]
  by_cases k5 : k = 5
  · rw [if_pos k5]; simp; omega
  rw [if_neg k5]
  simp; omega
theorem showVs_take {l : List Vt} {j : Nat} {t : Vt} (h : l[j]? = some t) : (showVs l).take (j + 1) = (showVs l).take j ++ [showV t] := by
  rw [showVs_map]
  exact take_succ_some (by rw [List.getElem?_map, h]; rfl)
theorem withKeys_take {ks : List ByteArray} {l : List Vt} {j : Nat} {t : Vt} {k : ByteArray} (h : l[j]? = some t) (hk : ks[j]? = some k) :
    (withKeys ks (showVs l)).take (j + 1) = (withKeys ks (showVs l)).take j ++ [keyL k.data.toList ++ [58, 32] ++ showV t] := by
  refine take_succ_some ?_
  unfold withKeys
  rw [List.getElem?_zipWith, hk, showVs_map, List.getElem?_map, h]
  rfl
theorem showVs_len (l : List Vt) : (showVs l).length = l.length := by rw [showVs_map, List.length_map]
theorem withKeys_len {ks : List ByteArray} {l : List Vt} (h : ks.length = l.length) : (withKeys ks (showVs l)).length = l.length := by
  unfold withKeys
  rw [List.length_zipWith, showVs_len, h, Nat.min_self]
/-- The parts of a list, of a map. -/
def partsV (k : Int) (ks : List ByteArray) (l : List Vt) : List (List UInt8) := if k = 5 then withKeys ks (showVs l) else showVs l
theorem partsV_len {k : Int} {ks : List ByteArray} {l : List Vt} (h : k = 5 → ks.length = l.length) : (partsV k ks l).length = l.length := by
  unfold partsV
  split
  · rename_i h5; exact withKeys_len (h h5)
  · exact showVs_len l
theorem jn_parts_len (k : Int) (b : Bool) (i : Int) (s : ByteArray) (l : List Vt) (ks : List ByteArray) : ((partsV k ks l).map fun x => x.length + 2).sum ≤ 32 * wtV (.mk k b i s l ks) := by
  have h1 : ((showVs l).map fun x => x.length + 2).sum ≤ 32 * wtVs l := by
    rw [showVs_map, wtVs_sum]
    induction l with
    | nil => simp
    | cons u us ih2 =>
      have a := showV_len u
      simp only [List.map_cons, List.sum_cons] at ih2 ⊢
      omega
  have h2 : ∀ (ks : List ByteArray) (es : List (List UInt8)), ((withKeys ks es).map fun x => x.length + 2).sum ≤ (es.map fun x => x.length + 2).sum + 32 * (ks.map fun k => k.size + 1).sum := by
    intro ks
    induction ks with
    | nil => intro es; simp [withKeys]
    | cons k ks ih2 =>
      intro es
      cases es with
      | nil => simp [withKeys]
      | cons e es =>
        have a := ih2 es
        have b := keyL_len k.data.toList
        have c : k.data.toList.length = k.size := by simp
        unfold withKeys at a ⊢
        simp only [List.zipWith_cons_cons, List.map_cons, List.sum_cons, List.length_append, List.length_cons, List.length_nil]
        omega
  have h3 := h2 ks (showVs l)
  simp only [wtV]
  unfold partsV
  split <;> omega
theorem sum_take (xs : List (List UInt8)) (j : Nat) : ((xs.take j).map fun x => x.length + 2).sum ≤ (xs.map fun x => x.length + 2).sum := by
  conv => rhs; rw [← List.take_append_drop j xs]
  rw [List.map_append, List.sum_append]
  omega
end Go.Proofs.Ytangldmjgidgcaa
