/- Parts S23, L9, L12, L13, L14, L15, L10, L11, L16 of this seat (pruned, scripts that are alike kept once as default arguments: q1, q2, ..). Conditions: each says its own. -/
import Derived.Test.YtndhpdclpgemfaaGreatZ14
namespace Go.Proofs.YtndhpdclpgemfaaGreat
open Go.RowKit
set_option linter.unusedVariables false
def jn (xs : List (List UInt8)) : List UInt8 := Lib.join xs [44, 32]
theorem jn_nil : jn [] = [] := rfl
theorem jn_snoc (xs : List (List UInt8)) (x : List UInt8) : jn (xs ++ [x]) = if xs = [] then x else jn xs ++ [44, 32] ++ x := by
 cases xs with
 | nil => rw [if_pos rfl]; exact Lib.join_one x _
 | cons y ys =>
  rw [if_neg (by simp)]
  unfold jn
  rw [List.cons_append, Lib.join_cons, Lib.join_cons]
  unfold Lib.joinTail
  rw [List.map_append, List.flatten_append]
  simp
theorem jn_len' : ∀ (n : Nat) (xs : List (List UInt8)), xs.length = n → (jn xs).length ≤ (xs.map fun x => x.length + 2).sum := by
 intro n
 induction n with
 | zero => intro xs h; rw [List.length_eq_zero_iff.1 h]; simp [jn_nil]
 | succ n ih =>
  intro ys h
  have hne : ys ≠ [] := fun e => by rw [e] at h; simp at h
  obtain ⟨xs, x, rfl⟩ : ∃ xs x, ys = xs ++ [x] := ⟨ys.dropLast, ys.getLast hne, (List.dropLast_concat_getLast hne).symm⟩
  have ih := ih xs (by simpa using h)
  rw [jn_snoc, List.map_append, List.sum_append]
  split
  ·simp; omega
  ·simp only [List.length_append, List.length_cons, List.length_nil, List.map_cons, List.map_nil, List.sum_cons, List.sum_nil]
   omega
theorem jn_len (xs : List (List UInt8)) : (jn xs).length ≤ (xs.map fun x => x.length + 2).sum := jn_len' _ xs rfl
def withKeys (ks : List ByteArray) (es : List (List UInt8)) : List (List UInt8) := List.zipWith (fun k e => keyL k.data.toList ++ [58, 32] ++ e) ks es
mutual
def showV : Vt → List UInt8
  | .mk k b i s l ks =>
    if k = 1 then (if b then [116, 114, 117, 101] else [102, 97, 108, 115, 101]) else if k = 2 then textOf i else if k = 3 then 39 :: (quoteL s.data.toList ++ [39])
    else if k = 6 then [35, 110] ++ textOf i else if k = 7 then [35, 101] ++ textOf i
    else if k = 4 then [91] ++ jn (showVs l) ++ [93] else if k = 5 then [123] ++ jn (withKeys ks (showVs l)) ++ [125] else [110, 117, 108, 108]
def showVs : List Vt → List (List UInt8)
  | [] => []
  | t :: ts => showV t :: showVs ts
end
theorem showVs_map (l : List Vt) : showVs l = l.map showV := by
 induction l with
 | nil => simp [showVs]
 | cons t ts ih => simp [showVs, ih]
theorem textOf_len (n : Int) : (textOf n).length ≤ 20 := by
 have := decN_len n.natAbs
 unfold textOf
 rw [List.length_append]
 split
 ·simp; omega
 ·simp; omega
theorem keyL_len (l : List UInt8) : (keyL l).length ≤ 4 * l.length + 2 := by
 have := quoteL_len l
 unfold keyL
 split
 ·omega
 ·simp; omega
theorem Se351671 {P : Prop} (h : P := by
 intro ks
 induction ks with
 | nil => intro es; simp [withKeys]
 | cons k ks ih2 =>
  intro es
  cases es with
  | nil => simp [withKeys]
  | cons e es =>
   have a := ih2 es
   have b := keyL_len k.data.toList
   have c : k.data.toList.length = k.size := by simp
   unfold withKeys at a ⊢
   simp only [List.zipWith_cons_cons, List.map_cons, List.sum_cons, List.length_append, List.length_cons, List.length_nil]
   omega) : P := h
theorem showV_len (t : Vt) : (showV t).length + 2 ≤ 32 * wtV t := by
 refine t.down (p := fun t => (showV t).length + 2 ≤ 32 * wtV t) fun k b i s l ks ih => ?_
 have hs : s.data.toList.length = s.size := by simp
 have hq := quoteL_len s.data.toList
 have ht := textOf_len i
 have h1 : ((showVs l).map fun x => x.length + 2).sum ≤ 32 * wtVs l := by
  rw [showVs_map, wtVs_sum]
  clear hs hq ht
  induction l with
  | nil => simp
  | cons u us ih2 =>
   have a := ih 0 u rfl
   have b := ih2 (fun j t h => ih (j + 1) t (by simpa using h))
   simp only [List.map_cons, List.sum_cons] at b ⊢
   omega
 have h2 : ∀ (ks : List ByteArray) (es : List (List UInt8)), ((withKeys ks es).map fun x => x.length + 2).sum ≤ (es.map fun x => x.length + 2).sum + 32 * (ks.map fun k => k.size + 1).sum := by
  exact Se351671
 have h3 := h2 ks (showVs l)
 have h4 := jn_len (showVs l)
 have h5 := jn_len (withKeys ks (showVs l))
 simp only [wtV]
 unfold showV
 by_cases k1 : k = 1
 ·rw [if_pos k1]; cases b <;> simp <;> omega
 rw [if_neg k1]
 by_cases k2 : k = 2
 ·rw [if_pos k2]; omega
 rw [if_neg k2]
 by_cases k3 : k = 3
 ·rw [if_pos k3]; simp; omega
 rw [if_neg k3]
 by_cases k6 : k = 6
 ·rw [if_pos k6]; simp; omega
 rw [if_neg k6]
 by_cases k7 : k = 7
 ·rw [if_pos k7]; simp; omega
 rw [if_neg k7]
 by_cases k4 : k = 4
 ·rw [if_pos k4]; simp; omega
 rw [if_neg k4]
 by_cases k5 : k = 5
 ·rw [if_pos k5]; simp; omega
 rw [if_neg k5]
 simp; omega
theorem showVs_take {l : List Vt} {j : Nat} {t : Vt} (h : l[j]? = some t) : (showVs l).take (j + 1) = (showVs l).take j ++ [showV t] := by
 rw [showVs_map]
 exact take_succ_some (by rw [List.getElem?_map, h]; rfl)
theorem withKeys_take {ks : List ByteArray} {l : List Vt} {j : Nat} {t : Vt} {k : ByteArray} (h : l[j]? = some t) (hk : ks[j]? = some k) :
    (withKeys ks (showVs l)).take (j + 1) = (withKeys ks (showVs l)).take j ++ [keyL k.data.toList ++ [58, 32] ++ showV t] := by
 refine take_succ_some ?_
 unfold withKeys
 rw [List.getElem?_zipWith, hk, showVs_map, List.getElem?_map, h]
 rfl
theorem showVs_len (l : List Vt) : (showVs l).length = l.length := by rw [showVs_map, List.length_map]
theorem withKeys_len {ks : List ByteArray} {l : List Vt} (h : ks.length = l.length) : (withKeys ks (showVs l)).length = l.length := by
 unfold withKeys
 rw [List.length_zipWith, showVs_len, h, Nat.min_self]
def shPartsV (k : Int) (ks : List ByteArray) (l : List Vt) : List (List UInt8) := if k = 5 then withKeys ks (showVs l) else showVs l
theorem shPartsV_len {k : Int} {ks : List ByteArray} {l : List Vt} (h : k = 5 → ks.length = l.length) : (shPartsV k ks l).length = l.length := by
 unfold shPartsV
 split
 ·rename_i h5; exact withKeys_len (h h5)
 ·exact showVs_len l
theorem jn_parts_len (k : Int) (b : Bool) (i : Int) (s : ByteArray) (l : List Vt) (ks : List ByteArray) : ((shPartsV k ks l).map fun x => x.length + 2).sum ≤ 32 * wtV (.mk k b i s l ks) := by
 have h1 : ((showVs l).map fun x => x.length + 2).sum ≤ 32 * wtVs l := by
  rw [showVs_map, wtVs_sum]
  induction l with
  | nil => simp
  | cons u us ih2 =>
   have a := showV_len u
   simp only [List.map_cons, List.sum_cons] at ih2 ⊢
   omega
 have h2 : ∀ (ks : List ByteArray) (es : List (List UInt8)), ((withKeys ks es).map fun x => x.length + 2).sum ≤ (es.map fun x => x.length + 2).sum + 32 * (ks.map fun k => k.size + 1).sum := by
  exact Se351671
 have h3 := h2 ks (showVs l)
 simp only [wtV]
 unfold shPartsV
 split <;> omega
theorem sum_take (xs : List (List UInt8)) (j : Nat) : ((xs.take j).map fun x => x.length + 2).sum ≤ (xs.map fun x => x.length + 2).sum := by
 conv => rhs; rw [← List.take_append_drop j xs]
 rw [List.map_append, List.sum_append]
 omega
end Go.Proofs.YtndhpdclpgemfaaGreat
namespace Go.Proofs.YtndhpdclpgemfaaGreat
set_option maxRecDepth 100000
open Go.RowKit
set_option linter.unusedVariables false
def spanB (f : Nat → Bool) : List UInt8 → Nat
  | [] => 0
  | c :: r => if f c.toNat then spanB f r + 1 else 0
theorem spanB_le (f : Nat → Bool) : ∀ l, spanB f l ≤ l.length
  | [] => Nat.le_refl _
  | c :: r => by unfold spanB; have := spanB_le f r; split <;> simp <;> omega
theorem spanB_pos {f : Nat → Bool} {c : UInt8} (r : List UInt8) (h : f c.toNat = true) : spanB f (c :: r) = spanB f r + 1 := by rw [spanB, if_pos h]
theorem spanB_neg {f : Nat → Bool} {c : UInt8} (r : List UInt8) (h : f c.toNat = false) : spanB f (c :: r) = 0 := by rw [spanB, if_neg (by simp [h])]
theorem spanB_is (f : Nat → Bool) : ∀ (l : List UInt8) (n : Nat), n ≤ l.length → (∀ k, k < n → f (nb l k) = true) → (n < l.length → f (nb l n) = false) → spanB f l = n
  | [], n, h, _, _ => by simp at h; subst h; rfl
  | c :: r, 0, _, _, h2 => spanB_neg r (by have := h2 (by simp); simpa [nb] using this)
  | c :: r, n + 1, h, h1, h2 => by
    rw [spanB_pos r (by have := h1 0 (by omega); simpa [nb] using this)]
    rw [spanB_is f r n (by simpa using h) (fun k hk => by have := h1 (k + 1) (by omega); simpa [nb] using this) (fun hn => by have := h2 (by simpa using hn); simpa [nb] using this)]
def blankB (c : Nat) : Bool := decide (c = 32 ∨ c = 9 ∨ c = 10 ∨ c = 13)
structure Tok where
  k : Nat
  t : List UInt8
  n : Int
inductive One where
  | bad (e : Int)
  | tok (t : Tok) (len : Nat)
def oneL (r : List UInt8) : One :=
  if letter (nb r 0) then
    (if 64 < spanB nchar r then .bad 1
     else if wordB (r.take (spanB nchar r)) then .tok ⟨2, largeL (r.take (spanB nchar r)), 0⟩ (spanB nchar r)
     else .tok ⟨1, r.take (spanB nchar r), 0⟩ (spanB nchar r))
  else if digt (nb r 0) then
    (if (parseOf (r.take (spanB digt r))).2 = 0 then .tok ⟨3, [], (parseOf (r.take (spanB digt r))).1⟩ (spanB digt r) else .bad (parseOf (r.take (spanB digt r))).2)
  else if nb r 0 = 39 then (match qd (r.drop 1) with | none => .bad 1 | some (x, rest) => .tok ⟨4, x, 0⟩ (r.length - rest.length))
  else if signL r = [] then .bad 1 else .tok ⟨5, signL r, 0⟩ (signL r).length
inductive ScanR where
  | bad (place : Nat) (e : Int)
  | ok (l : List (Tok × Nat))
def scanN : Nat → List UInt8 → Nat → List (Tok × Nat) → ScanR
  | 0, _, p, _ => .bad p 8
  | f + 1, r, p, acc =>
    if r.drop (spanB blankB r) = [] then
      (if 4096 ≤ acc.length then .bad (p + spanB blankB r) 8 else .ok (acc ++ [(⟨6, [], 0⟩, p + spanB blankB r)]))
    else match oneL (r.drop (spanB blankB r)) with
      | .bad e => .bad (p + spanB blankB r) e
      | .tok t n => if 4096 ≤ acc.length then .bad (p + spanB blankB r) 8
        else scanN f ((r.drop (spanB blankB r)).drop n) (p + spanB blankB r + n) (acc ++ [(t, p + spanB blankB r)])
def scanL (s : List UInt8) : ScanR := if 16384 < s.length then .bad 0 8 else scanN (s.length + 1) s 0 []
theorem signL_pos {r : List UInt8} (h : signL r ≠ []) : 1 ≤ (signL r).length := by
 cases hs : signL r with
 | nil => exact absurd hs h
 | cons c l => simp
theorem signL_le (r : List UInt8) : (signL r).length ≤ r.length := by
 unfold signL
 split
 ·simp; omega
 ·split
  ·simp; omega
  ·simp
theorem oneL_len {r : List UInt8} {t : Tok} {n : Nat} (hr : r ≠ []) (h : oneL r = .tok t n) (hq : ∀ x rest, qd (r.drop 1) = some (x, rest) → rest.length < r.length) : 1 ≤ n ∧ n ≤ r.length := by
 obtain ⟨c, l, rfl⟩ : ∃ c l, r = c :: l := by cases r with | nil => exact absurd rfl hr | cons c l => exact ⟨c, l, rfl⟩
 have hc : nb (c :: l) 0 = c.toNat := by simp [nb]
 unfold oneL at h
 rw [hc] at h
 by_cases a : letter c.toNat = true
 ·have hn : nchar c.toNat = true := by unfold nchar; rw [a]; rfl
  rw [if_pos a] at h
  have hp := spanB_pos l hn
  have hle := spanB_le nchar (c :: l)
  split at h
  ·cases h
  ·split at h <;> (cases h; exact ⟨by omega, hle⟩)
 ·rw [if_neg a] at h
  by_cases b : digt c.toNat = true
  ·rw [if_pos b] at h
   have hp := spanB_pos l b
   have hle := spanB_le digt (c :: l)
   split at h
   ·cases h; exact ⟨by omega, hle⟩
   ·cases h
  ·rw [if_neg b] at h
   split at h
   ·split at h
    ·cases h
    ·rename_i x rest hqd
     have := hq x rest hqd
     cases h
     omega
   ·split at h
    ·cases h
    ·rename_i hne
     cases h
     exact ⟨signL_pos hne, signL_le _⟩
end Go.Proofs.YtndhpdclpgemfaaGreat
namespace Go.Proofs.YtndhpdclpgemfaaGreat
set_option maxRecDepth 100000
open Go.RowKit Go.Shelf
set_option linter.unusedSimpArgs false
set_option linter.unusedVariables false
def SpanTo (f : Nat → Bool) (l : List UInt8) (p j : Nat) : Prop := p ≤ j ∧ j ≤ l.length ∧ ∀ k, p ≤ k → k < j → f (nb l k) = true
theorem spanTo_zero {f : Nat → Bool} {l : List UInt8} {p : Nat} (hp : p ≤ l.length) : SpanTo f l p p := ⟨by omega, hp, fun k h1 h2 => by omega⟩
theorem spanTo_step {f : Nat → Bool} {l : List UInt8} {p j : Nat} (h : SpanTo f l p j) (hj : j < l.length) (hf : f (nb l j) = true) : SpanTo f l p (j + 1) :=
  ⟨by have := h.1; omega, by omega, fun k h1 h2 => by
    by_cases e : k = j
    · subst e; exact hf
    · exact h.2.2 k h1 (by omega)⟩
theorem spanTo_end {f : Nat → Bool} {l : List UInt8} {p j : Nat} (h : SpanTo f l p j) (he : j < l.length → f (nb l j) = false) : spanB f (l.drop p) = j - p := by
 have h1 := h.1
 have h2 := h.2.1
 refine spanB_is f _ _ (by rw [List.length_drop]; omega) (fun k hk => ?_) (fun hn => ?_)
 ·rw [nb_drop]; exact h.2.2 _ (by omega) (by omega)
 ·rw [List.length_drop] at hn
  rw [nb_drop, show p + (j - p) = j from by omega]; exact he (by omega)
theorem extract_drop (s : ByteArray) (p j : Nat) : (s.extract p j).data.toList = (s.data.toList.drop p).take (j - p) := by
 rw [Lib.extract_data]
theorem oneL_bad_name {r : List UInt8} (h : letter (nb r 0) = true) (h2 : 64 < spanB nchar r) : oneL r = .bad 1 := by
 unfold oneL; rw [if_pos h, if_pos h2]
theorem oneL_word {r : List UInt8} (h : letter (nb r 0) = true) (h2 : ¬ 64 < spanB nchar r) (h3 : wordB (r.take (spanB nchar r)) = true) : oneL r = .tok ⟨2, largeL (r.take (spanB nchar r)), 0⟩ (spanB nchar r) := by
 unfold oneL; rw [if_pos h, if_neg h2, if_pos h3]
theorem oneL_name {r : List UInt8} (h : letter (nb r 0) = true) (h2 : ¬ 64 < spanB nchar r) (h3 : wordB (r.take (spanB nchar r)) = false) : oneL r = .tok ⟨1, r.take (spanB nchar r), 0⟩ (spanB nchar r) := by
 unfold oneL; rw [if_pos h, if_neg h2, if_neg (by rw [h3]; decide)]
theorem oneL_num {r : List UInt8} (h : letter (nb r 0) = false) (h2 : digt (nb r 0) = true) (h3 : (parseOf (r.take (spanB digt r))).2 = 0) : oneL r = .tok ⟨3, [], (parseOf (r.take (spanB digt r))).1⟩ (spanB digt r) := by
 unfold oneL; rw [h, if_neg (by decide), h2, if_pos rfl, if_pos h3]
theorem oneL_numbad {r : List UInt8} (h : letter (nb r 0) = false) (h2 : digt (nb r 0) = true) (h3 : ¬ (parseOf (r.take (spanB digt r))).2 = 0) : oneL r = .bad (parseOf (r.take (spanB digt r))).2 := by
 unfold oneL; rw [h, if_neg (by decide), h2, if_pos rfl, if_neg h3]
theorem oneL_q {r : List UInt8} (h : nb r 0 = 39) : oneL r = match qd (r.drop 1) with | none => .bad 1 | some (x, rest) => .tok ⟨4, x, 0⟩ (r.length - rest.length) := by
 unfold oneL; rw [h, if_neg (by decide), if_neg (by decide), if_pos rfl]
 all_goals (generalize qd (r.drop 1) = o; cases o <;> rfl)
theorem oneL_sign {r : List UInt8} (h : letter (nb r 0) = false) (h2 : digt (nb r 0) = false) (h3 : ¬ nb r 0 = 39) : oneL r = if signL r = [] then .bad 1 else .tok ⟨5, signL r, 0⟩ (signL r).length := by
 unfold oneL; rw [h, if_neg (by decide), h2, if_neg (by decide), if_neg h3]
theorem own_heap {w w' : World} {B : Nat} {e : TypeId} {size : Nat} {v : Value} {n : Nat} {xs : List Value} (h : w.ownsRow B e size v n xs) (hk : ∀ k, v.ownBlock = some k → w'.heap[k]? = w.heap[k]?) : w'.ownsRow B e size v n xs := by
 refine ⟨h.1, ?_⟩
 rcases h.2 with h2 | ⟨g, cap, cur, rfl, hb, hg, rest⟩
 ·exact .inl h2
 ·exact .inr ⟨g, cap, cur, rfl, hb, (hk g rfl).trans hg, rest⟩
theorem own_set {w : World} {B : Nat} {e : TypeId} {size : Nat} {v : Value} {n : Nat} {xs : List Value} (h : w.ownsRow B e size v n xs) {a : Addr} (ha : ∀ k, v.ownBlock = some k → k ≠ a.block) (x : Value) : (w.setCell a x).ownsRow B e size v n xs :=
  own_heap h (fun k hk => Below.heap_setCell _ _ _ _ (ha k hk))
theorem own_form {w : World} {B : Nat} {e : TypeId} {size : Nat} {v : Value} {n : Nat} {xs : List Value} (h : w.ownsRow B e size v n xs) : ∃ a cap, v = .slice a n cap := by
 rcases h.2 with ⟨rfl, rfl⟩ | ⟨g, cap, cur, rfl, _⟩
 ·exact ⟨none, 0, rfl⟩
 ·exact ⟨_, _, rfl⟩
theorem heap_newN (w : World) (n : Nat) (o : Obj) (h : w.heap.size = n) : (w.alloc o).heap[n]? = some o := by subst h; exact heap_alloc_new w o
theorem Tryz.infoTok : (Tryz.prog.info? 51).map (fun i => (i.zero, i.size, i.bytes)) = some (some (.agg #[.int .i64 0, .string ⟨#[]⟩, .int .i64 0, .int .i64 0]), 4, 40) := by kernel_rfl
def tokC (x : Tok × Nat) : List Value := [.int .i64 x.1.k, .string (strOf x.1.t), .int .i64 x.1.n, .int .i64 x.2]
def tokCells (l : List (Tok × Nat)) : List Value := l.flatMap tokC
theorem tokCells_snoc (l : List (Tok × Nat)) (x : Tok × Nat) : tokCells (l ++ [x]) = tokCells l ++ tokC x := by simp [tokCells]
def ScanE (r : ScanR) (B : Nat) (e : Ending) (w' : World) : Prop :=
  match r with
  | .bad p x => e = .returned (.tuple #[.slice none 0 0, .int .i64 p, .int .i64 x])
  | .ok l => ∃ v, e = .returned (.tuple #[v, .int .i64 0, .int .i64 0]) ∧ w'.ownsRow B 51 4 v l.length (tokCells l)
def ScanP (r : ScanR) (w : World) (e : Ending) (w' : World) : Prop := ScanE r w.heap.size e w' ∧ Below w.heap.size w w'
theorem scanN_at (f : Nat) (L : List UInt8) (p j : Nat) (acc : List (Tok × Nat)) (hj : p ≤ j) (h : spanB blankB (L.drop p) = j - p) :
    scanN (f + 1) (L.drop p) p acc = if L.drop j = [] then (if 4096 ≤ acc.length then .bad j 8 else .ok (acc ++ [(⟨6, [], 0⟩, j)]))
      else match oneL (L.drop j) with
        | .bad e => .bad j e
        | .tok t n => if 4096 ≤ acc.length then .bad j 8 else scanN f (L.drop (j + n)) (j + n) (acc ++ [(t, j)]) := by
 rw [scanN, h, List.drop_drop, show p + (j - p) = j from by omega]
 by_cases hd : L.drop j = []
 ·rw [if_pos hd, if_pos hd]
 ·rw [if_neg hd, if_neg hd]
  cases oneL (L.drop j) with
  | bad e => rfl
  | tok t n => simp only [List.drop_drop]
theorem oneL_size {r : List UInt8} {t : Tok} {n : Nat} (hr : r ≠ []) (h : oneL r = .tok t n) : 1 ≤ n ∧ n ≤ r.length :=
  oneL_len hr h (fun x rest hq => by
    obtain ⟨j, hj, _, hr2⟩ := qd_last _ _ rfl _ _ hq
    have : 0 < r.length := List.length_pos_iff.2 hr
    rw [hr2, List.length_drop, List.length_drop]; omega)
theorem oneL_ne {r : List UInt8} {e : Int} (h : oneL r = .bad e) : e ≠ 0 := by
 unfold oneL at h
 split at h
 ·split at h
  ·cases h; decide
  ·split at h <;> cases h
 ·split at h
  ·split at h
   ·cases h
   ·rename_i hp
    cases h; exact hp
  ·split at h
   ·split at h
    ·cases h; decide
    ·cases h
   ·split at h
    ·cases h; decide
    ·cases h
end Go.Proofs.YtndhpdclpgemfaaGreat
namespace Go.Proofs.YtndhpdclpgemfaaGreat
set_option maxRecDepth 100000
open Go.RowKit
set_option linter.unusedSimpArgs false
set_option linter.unusedVariables false
theorem blank_any (c : Nat) (hc : c < 256) (w : World) :
    Calls Tryz.prog 50 #[.int .u8 c] w fun e w' => e = .returned (.bool (blankB c)) ∧ w' = w := by
 unfold blankB
 by_cases a : c = 32
 ·subst a
  go_enter Tryz.func50, Tryz.ntmps50
  go_wp2_with fail
  go_ret
  exact ⟨rfl, rfl⟩
 ·by_cases b : c = 9
  ·subst b
   go_enter Tryz.func50, Tryz.ntmps50
   go_wp2_with fail
   go_ret
   exact ⟨rfl, rfl⟩
  ·by_cases d : c = 10
   ·subst d
    go_enter Tryz.func50, Tryz.ntmps50
    go_wp2_with fail
    go_ret
    exact ⟨rfl, rfl⟩
   ·by_cases e : c = 13
    ·subst e
     go_enter Tryz.func50, Tryz.ntmps50
     go_wp2_with fail
     go_ret
     exact ⟨rfl, rfl⟩
    ·have h1 : ((c : Int) == 32) = false := beq_eq_false_iff_ne.2 (by omega)
     have h2 : ((c : Int) == 9) = false := beq_eq_false_iff_ne.2 (by omega)
     have h3 : ((c : Int) == 10) = false := beq_eq_false_iff_ne.2 (by omega)
     have h4 : ((c : Int) == 13) = false := beq_eq_false_iff_ne.2 (by omega)
     have HR : Hid (decide (c = 32 ∨ c = 9 ∨ c = 10 ∨ c = 13) = false) := Lib.hid (decide_eq_false (by omega))
     go_enter Tryz.func50, Tryz.ntmps50
     go_wp2_with fail
     go_ret
     exact ⟨(by rw [HR.out]; rfl), rfl⟩
set_option maxRecDepth 20000 in
theorem pletter_any (c : Nat) (hc : c < 256) (w : World) :
    Calls Tryz.prog 41 #[.int .u8 c] w fun e w' => e = .returned (.bool (letter c)) ∧ w = w' := by
 by_cases a : 97 ≤ c
 ·have a' : (97 : Int) ≤ c := by omega
  by_cases b : c ≤ 122
  ·have b' : (c : Int) ≤ 122 := by omega
   have HE : Hid (letter c = true) := Lib.hid (decide_eq_true (by omega))
   rw [HE.out]
   go_enter Tryz.func41, Tryz.ntmps41
   go_wp2_with fail
   go_ret
   exact ⟨rfl, rfl⟩
  ·have b' : ¬ (c : Int) ≤ 122 := by omega
   have u1 : (65 : Int) ≤ c := by omega
   have u2 : ¬ (c : Int) ≤ 90 := by omega
   have hq : ((c : Int) == 95) = false := by simp; omega
   have HE : Hid (letter c = false) := Lib.hid (decide_eq_false (by omega))
   rw [HE.out]
   go_enter Tryz.func41, Tryz.ntmps41
   go_wp2_with fail
   go_ret
   exact ⟨rfl, rfl⟩
 ·have a' : ¬ (97 : Int) ≤ c := by omega
  by_cases b : 65 ≤ c
  ·have b' : (65 : Int) ≤ c := by omega
   by_cases d : c ≤ 90
   ·have d' : (c : Int) ≤ 90 := by omega
    have HE : Hid (letter c = true) := Lib.hid (decide_eq_true (by omega))
    rw [HE.out]
    go_enter Tryz.func41, Tryz.ntmps41
    go_wp2_with fail
    go_ret
    exact ⟨rfl, rfl⟩
   ·have d' : ¬ (c : Int) ≤ 90 := by omega
    by_cases e : c = 95
    ·have e' : ((c : Int) == 95) = true := by simp; omega
     have HE : Hid (letter c = true) := Lib.hid (decide_eq_true (by omega))
     rw [HE.out]
     go_enter Tryz.func41, Tryz.ntmps41
     go_wp2_with fail
     go_ret
     exact ⟨rfl, rfl⟩
    ·have e' : ((c : Int) == 95) = false := by simp; omega
     have HE : Hid (letter c = false) := Lib.hid (decide_eq_false (by omega))
     rw [HE.out]
     go_enter Tryz.func41, Tryz.ntmps41
     go_wp2_with fail
     go_ret
     exact ⟨rfl, rfl⟩
  ·have b' : ¬ (65 : Int) ≤ c := by omega
   have hq : ((c : Int) == 95) = false := by simp; omega
   have HE : Hid (letter c = false) := Lib.hid (decide_eq_false (by omega))
   rw [HE.out]
   go_enter Tryz.func41, Tryz.ntmps41
   go_wp2_with fail
   go_ret
   exact ⟨rfl, rfl⟩
set_option maxRecDepth 20000 in
theorem pdigit_any (c : Nat) (hc : c < 256) (w : World) :
    Calls Tryz.prog 43 #[.int .u8 c] w fun e w' => e = .returned (.bool (digt c)) ∧ w = w' := by
 by_cases a : 48 ≤ c
 ·have a' : (48 : Int) ≤ c := by omega
  by_cases b : c ≤ 57
  ·have b' : (c : Int) ≤ 57 := by omega
   have HE : Hid (digt c = true) := Lib.hid (decide_eq_true (by omega))
   rw [HE.out]
   go_enter Tryz.func43, Tryz.ntmps43
   go_wp2_with fail
   go_ret
   exact ⟨rfl, rfl⟩
  ·have b' : ¬ (c : Int) ≤ 57 := by omega
   have HE : Hid (digt c = false) := Lib.hid (decide_eq_false (by omega))
   rw [HE.out]
   go_enter Tryz.func43, Tryz.ntmps43
   go_wp2_with fail
   go_ret
   exact ⟨rfl, rfl⟩
 ·have a' : ¬ (48 : Int) ≤ c := by omega
  have HE : Hid (digt c = false) := Lib.hid (decide_eq_false (by omega))
  rw [HE.out]
  go_enter Tryz.func43, Tryz.ntmps43
  go_wp2_with fail
  go_ret
  exact ⟨rfl, rfl⟩
theorem nchar_any (c : Nat) (hc : c < 256) (w : World) :
    Calls Tryz.prog 98 #[.int .u8 c] w fun e w' => e = .returned (.bool (nchar c)) ∧ w' = w := by
 obtain ⟨R, hR⟩ := nam (nchar c)
 have HR := Lib.hid hR
 rw [hR]
 clear hR
 have hl := pletter_any c hc w
 have hd := pdigit_any c hc w
 cases ha : letter c with
 | true =>
  rw [ha] at hl
  have hr : R = true := by rw [← HR.out]; unfold nchar; rw [ha]; rfl
  subst hr
  clear ha
  go_enter Tryz.func98, Tryz.ntmps98
  go_wp2_with fail
  refine hl.mono ?_
  rintro e w1 ⟨rfl, rfl⟩
  go_wp2_with fail
  go_ret
  exact ⟨rfl, rfl⟩
 | false =>
  rw [ha] at hl
  have hr : R = digt c := by rw [← HR.out]; unfold nchar; rw [ha]; rfl
  rw [← hr] at hd
  clear ha hr
  go_enter Tryz.func98, Tryz.ntmps98
  go_wp2_with fail
  refine hl.mono ?_
  rintro e w1 ⟨rfl, rfl⟩
  go_wp2_with fail
  refine hd.mono ?_
  rintro e w1 ⟨rfl, rfl⟩
  go_wp2_with fail
  go_ret
  exact ⟨rfl, rfl⟩
theorem isq_any (c : Nat) (hc : c < 256) (w : World) :
    Calls Tryz.prog 45 #[.int .u8 c] w fun e w' => e = .returned (.bool (decide (c = 39))) ∧ w' = w := by
 by_cases a : c = 39
 ·subst a
  go_enter Tryz.func45, Tryz.ntmps45
  go_wp2_with fail
  go_ret
  exact ⟨rfl, rfl⟩
 ·have h1 : ((c : Int) == 39) = false := beq_eq_false_iff_ne.2 (by omega)
  have HR : Hid (decide (c = 39) = false) := Lib.hid (decide_eq_false a)
  go_enter Tryz.func45, Tryz.ntmps45
  go_wp2_with fail
  go_ret
  exact ⟨(by rw [HR.out]; rfl), rfl⟩
theorem isany_any (c : Nat) (w : World) :
    Calls Tryz.prog 47 #[.int .u8 c] w fun e w' => e = .returned (.bool true) ∧ w' = w := by
 go_enter Tryz.func47, Tryz.ntmps47
 go_wp2_with fail
 go_ret
 exact ⟨rfl, rfl⟩
def tokT (k : Int) (s : List UInt8) (n : Int) : List UInt8 := if k = 3 then textOf n else if k = 4 then 39 :: (quoteL s ++ [39]) else s
end Go.Proofs.YtndhpdclpgemfaaGreat
namespace Go.Proofs.YtndhpdclpgemfaaGreat
set_option maxRecDepth 100000
open Go.RowKit Go.Shelf
set_option linter.unusedSimpArgs false
set_option linter.unusedVariables false
def Sc (w : World) (B b : Nat) (s : ByteArray) (p : Nat) (v : Value) (acc : List (Tok × Nat)) : Prop :=
  B ≤ b ∧ Block w b [.string s, .int .i64 p, v] 98 ∧ w.ownsRow B 51 4 v acc.length (tokCells acc) ∧ (∀ k, v.ownBlock = some k → k ≠ b)
theorem Sc.drewN {w : World} {B b : Nat} {s : ByteArray} {p : Nat} {v : Value} {acc : List (Tok × Nat)} (h : Sc w B b s p v acc) (n : Nat) : Sc (w.drewN n) B b s p v acc := h
theorem pdigit_any' (c : Nat) (hc : c < 256) (w : World) : Calls Tryz.prog 43 #[.int .u8 c] w fun e w' => e = .returned (.bool (digt c)) ∧ w' = w := (pdigit_any c hc w).mono fun _ _ ⟨h, k⟩ => ⟨h, k.symm⟩
theorem pletter_any' (c : Nat) (hc : c < 256) (w : World) : Calls Tryz.prog 41 #[.int .u8 c] w fun e w' => e = .returned (.bool (letter c)) ∧ w' = w := (pletter_any c hc w).mono fun _ _ ⟨h, k⟩ => ⟨h, k.symm⟩
def WhileP (n : Nat) (w : World) (e : Ending) (w' : World) : Prop := e = .returned (.int .i64 n) ∧ ∃ m, w' = w.drewN m
theorem Se973194 {P : Prop} (h : P := by
 have HLN : Hid (s.data.toList.length = s.size) := Lib.hid (by simp)
 have HB := Lib.hid hb
 clear hb
 go_enter Tryz.func49, Tryz.ntmps49
 go_wp2_with fail
 first
 | (guard_hyp z973194a; go_loopw [5] (fun k wr => ∃ n : Nat, k = .int .i64 n ∧ Hid (SpanTo blankB s.data.toList p (p + n)) ∧ Hid (∃ m, wr = w.drewN m)) (fun k _ => s.size - (intOf k).toNat))
 | (guard_hyp z973194c; go_loopw [5] (fun k wr => ∃ n : Nat, k = .int .i64 n ∧ Hid (SpanTo nchar s.data.toList p (p + n)) ∧ Hid (∃ m, wr = w.drewN m)) (fun k _ => s.size - (intOf k).toNat))
 | (go_loopw [5] (fun k wr => ∃ n : Nat, k = .int .i64 n ∧ Hid (SpanTo digt s.data.toList p (p + n)) ∧ Hid (∃ m, wr = w.drewN m)) (fun k _ => s.size - (intOf k).toNat))
 case atStart => exact ⟨0, rfl, Lib.hid (spanTo_zero (by rw [HLN.out]; exact hp)), Lib.hid ⟨0, rfl⟩⟩
 case round =>
  obtain ⟨n, rfl, hd, HM⟩ := hrel
  have hnl : p + n ≤ s.size := by have := hd.out.2.1; rw [HLN.out] at this; exact this
  have HBR : Hid (Block wr b [.string s, .int .i64 p, v] 98) := Lib.hid (by obtain ⟨m, hm⟩ := HM.out; rw [hm]; exact HB.out)
  have c0 := HBR.out.cell (i := 0) rfl
  have c1 := HBR.out.cell (i := 1) rfl
  have s1 : IntKind.i64.wrap ((p : Int) + n) = (p : Int) + n := IntWalk.i64_in _ (by omega)
  have s2 : (0 : Int) ≤ (p : Int) + n := by omega
  have s3 : ((p : Int) + n).toNat = p + n := by omega
  by_cases hq : p + n < s.size
  ·have hq' : (p : Int) + n < s.size := by omega
   have hc : s[p + n].toNat < 256 := by have := s[p + n].toNat_lt; omega
   have X : Hid (s[p + n].toNat = nb s.data.toList (p + n)) := Lib.hid (nb_get s (p + n) hq)
   first
   |(
    guard_hyp z973194a
    have HT := Lib.hid (fun w => blank_any s[p + n].toNat hc w)
    cases ht : blankB s[p + n].toNat with
    | true =>
     rw [ht] at HT
     have HU := Lib.hid (spanTo_step hd.out (by rw [HLN.out]; exact hq) (by rw [← X.out]; exact ht))
     clear ht
     go_wp2_with fail
     go_quiet ((go_at_call 50; exact Calls.quiet_of_same (HT.out _)))
     clear s1
     go_wp2_with fail
     go_roundw
     case rel => exact ⟨n + 1, by go_num, HU, Lib.hid (by obtain ⟨m, hm⟩ := HM.out; exact ⟨_, by rw [hm, World.drewN_drewN]⟩)⟩
     case measure => simp [intOf]; omega
    | false =>
     rw [ht] at HT
     have HSP := Lib.hid (spanTo_end hd.out (fun _ => by rw [← X.out]; exact ht))
     clear ht
     go_wp2_with fail
     go_quiet ((go_at_call 50; exact Calls.quiet_of_same (HT.out _)))
     clear s1
     go_wp2_with fail
     go_ret
     exact ⟨by rw [HSP.out, show p + n - p = n from by omega]; rfl, by obtain ⟨m, hm⟩ := HM.out; exact ⟨_, by rw [hm, World.drewN_drewN]⟩⟩)
   |(
    guard_hyp z973194b
    have HT := Lib.hid (fun w => pdigit_any' s[p + n].toNat hc w)
    cases ht : digt s[p + n].toNat with
    | true =>
     rw [ht] at HT
     have HU := Lib.hid (spanTo_step hd.out (by rw [HLN.out]; exact hq) (by rw [← X.out]; exact ht))
     clear ht
     go_wp2_with fail
     go_quiet ((go_at_call 43; exact Calls.quiet_of_same (HT.out _)))
     clear s1
     go_wp2_with fail
     go_roundw
     case rel => exact ⟨n + 1, by go_num, HU, Lib.hid (by obtain ⟨m, hm⟩ := HM.out; exact ⟨_, by rw [hm, World.drewN_drewN]⟩)⟩
     case measure => simp [intOf]; omega
    | false =>
     rw [ht] at HT
     have HSP := Lib.hid (spanTo_end hd.out (fun _ => by rw [← X.out]; exact ht))
     clear ht
     go_wp2_with fail
     go_quiet ((go_at_call 43; exact Calls.quiet_of_same (HT.out _)))
     clear s1
     go_wp2_with fail
     go_ret
     exact ⟨by rw [HSP.out, show p + n - p = n from by omega]; rfl, by obtain ⟨m, hm⟩ := HM.out; exact ⟨_, by rw [hm, World.drewN_drewN]⟩⟩)
   |(
    have HT := Lib.hid (fun w => nchar_any s[p + n].toNat hc w)
    cases ht : nchar s[p + n].toNat with
    | true =>
     rw [ht] at HT
     have HU := Lib.hid (spanTo_step hd.out (by rw [HLN.out]; exact hq) (by rw [← X.out]; exact ht))
     clear ht
     go_wp2_with fail
     go_quiet ((go_at_call 98; exact Calls.quiet_of_same (HT.out _)))
     clear s1
     go_wp2_with fail
     go_roundw
     case rel => exact ⟨n + 1, by go_num, HU, Lib.hid (by obtain ⟨m, hm⟩ := HM.out; exact ⟨_, by rw [hm, World.drewN_drewN]⟩)⟩
     case measure => simp [intOf]; omega
    | false =>
     rw [ht] at HT
     have HSP := Lib.hid (spanTo_end hd.out (fun _ => by rw [← X.out]; exact ht))
     clear ht
     go_wp2_with fail
     go_quiet ((go_at_call 98; exact Calls.quiet_of_same (HT.out _)))
     clear s1
     go_wp2_with fail
     go_ret
     exact ⟨by rw [HSP.out, show p + n - p = n from by omega]; rfl, by obtain ⟨m, hm⟩ := HM.out; exact ⟨_, by rw [hm, World.drewN_drewN]⟩⟩)
  ·have hqd : decide ((p : Int) + n < s.size) = false := decide_eq_false (by omega)
   have HSP := Lib.hid (spanTo_end hd.out (fun h => by rw [HLN.out] at h; omega))
   go_wp2_with fail
   go_quiet (fail)
   clear s1
   go_wp2_with fail
   go_ret
   exact ⟨by rw [HSP.out, show p + n - p = n from by omega]; rfl, by obtain ⟨m, hm⟩ := HM.out; exact ⟨_, by rw [hm, World.drewN_drewN]⟩⟩) : P := h
set_option maxRecDepth 1000000 in
set_option maxHeartbeats 4000000 in
theorem while_name (s : ByteArray) (p b : Nat) (w : World) (v : Value) (hs : s.size ≤ 1099511627776) (hp : p ≤ s.size) (hb : Block w b [.string s, .int .i64 p, v] 98) :
    Calls Tryz.prog 49 #[.pointer (some ⟨b, 0, none⟩), .func (.func 98) #[] #[]] w (WhileP (spanB nchar (s.data.toList.drop p)) w) := by
 have z973194c := trivial
 exact Se973194
set_option maxRecDepth 1000000 in
set_option maxHeartbeats 4000000 in
theorem while_digit (s : ByteArray) (p b : Nat) (w : World) (v : Value) (hs : s.size ≤ 1099511627776) (hp : p ≤ s.size) (hb : Block w b [.string s, .int .i64 p, v] 98) :
    Calls Tryz.prog 49 #[.pointer (some ⟨b, 0, none⟩), .func (.func 43) #[] #[]] w (WhileP (spanB digt (s.data.toList.drop p)) w) := by
 have z973194b := trivial
 exact Se973194
set_option maxRecDepth 1000000 in
set_option maxHeartbeats 4000000 in
theorem while_blank (s : ByteArray) (p b : Nat) (w : World) (v : Value) (hs : s.size ≤ 1099511627776) (hp : p ≤ s.size) (hb : Block w b [.string s, .int .i64 p, v] 98) :
    Calls Tryz.prog 49 #[.pointer (some ⟨b, 0, none⟩), .func (.func 50) #[] #[]] w (WhileP (spanB blankB (s.data.toList.drop p)) w) := by
 have z973194a := trivial
 exact Se973194
end Go.Proofs.YtndhpdclpgemfaaGreat
