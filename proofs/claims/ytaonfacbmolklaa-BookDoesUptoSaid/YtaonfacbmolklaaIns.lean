/- slices.Insert of one text into a row that the call owns. Conditions: at most 2^40 texts. -/
import Derived.Test.YtaonfacbmolklaaStr
import Derived.Test.YtaonfacbmolklaaInsL
namespace Go.Proofs.Ytaonfacbmolklaa
open Go.RowKit Go.Lib
set_option linter.unusedSimpArgs false
set_option linter.unusedVariables false

theorem Block.setCells {b : Nat} {t : TypeId} : ∀ (vs : List Value) (o : Nat) (w : World) (cur : List Value), Block w b cur t →
    ∃ cur', Block (w.setCells b o vs) b cur' t ∧ cur'.length = cur.length ∧ ∀ q, cur'[q]? = if o ≤ q ∧ q < o + vs.length ∧ q < cur.length then vs[q - o]? else cur[q]? := by
  intro vs
  induction vs with
  | nil => intro o w cur h; exact ⟨cur, h, rfl, fun q => by rw [if_neg (by simp; omega)]⟩
  | cons v r ih =>
    intro o w cur h
    obtain ⟨cur', h1, h2, h3⟩ := ih (o + 1) _ _ (h.set o v)
    refine ⟨cur', h1, by rw [h2, List.length_set], fun q => ?_⟩
    rw [h3 q, List.length_set, List.length_cons]
    by_cases hq : o + 1 ≤ q ∧ q < o + 1 + r.length ∧ q < cur.length
    · rw [if_pos hq, if_pos (by omega), show q - o = (q - (o + 1)) + 1 from by omega, List.getElem?_cons_succ]
    · rw [if_neg hq]
      by_cases hqo : q = o
      · subst hqo
        by_cases hc : q < cur.length
        · rw [if_pos (by omega), Nat.sub_self, List.getElem?_set_self hc]; rfl
        · rw [if_neg (by omega), List.getElem?_eq_none (by simp; omega), List.getElem?_eq_none (by omega)]
      · rw [if_neg (by omega), List.getElem?_set_ne (Ne.symm hqo)]
theorem setCells_size (b : Nat) : ∀ (vs : List Value) (o : Nat) (w : World), (w.setCells b o vs).heap.size = w.heap.size := by
  intro vs
  induction vs with
  | nil => intro o w; rfl
  | cons v r ih => intro o w; show ((w.setCell ⟨b, o, none⟩ v).setCells b (o + 1) r).heap.size = _; rw [ih]; simp [World.setCell]
theorem setCells_other (b : Nat) : ∀ (vs : List Value) (o : Nat) (w : World) (k : Nat), k ≠ b → (w.setCells b o vs).heap[k]? = w.heap[k]? := by
  intro vs
  induction vs with
  | nil => intro o w k _; rfl
  | cons v r ih => intro o w k hk; show ((w.setCell ⟨b, o, none⟩ v).setCells b (o + 1) r).heap[k]? = _; rw [ih _ _ _ hk, Below.heap_setCell _ _ _ _ hk]
theorem setCells_rest (b : Nat) : ∀ (vs : List Value) (o : Nat) (w : World), (w.setCells b o vs).os = w.os ∧ (w.setCells b o vs).tape = w.tape ∧ (w.setCells b o vs).output = w.output := by
  intro vs
  induction vs with
  | nil => intro o w; exact ⟨rfl, rfl, rfl⟩
  | cons v r ih => intro o w; exact ih (o + 1) (w.setCell ⟨b, o, none⟩ v)
theorem own_of_block {w : World} {B b n : Nat} {cur : List Value} {e : TypeId} {xs : List Value} (h : Block w b cur e) (hB : B ≤ b) (hn : n ≤ cur.length) (hm : cur.length ≤ maxLen) (hx : cur.take n = xs) (hl : xs.length = n) : w.ownsRow B e 1 (.slice (some ⟨b, 0, none⟩) n cur.length) n xs :=
  ⟨by simpa using hl, .inr ⟨b, cur.length, cur.toArray, rfl, hB, h, hn, hm, by simp, by simpa using hx⟩⟩
theorem shape_block {w : World} {b : Nat} {cur : List Value} {t : TypeId} (h : Block w b cur t) : w.shape? b = some (t, cur.length) := by
  unfold Block at h
  unfold World.shape?
  rw [h]
  rfl
/-- A text put in at a place. -/
def putAt (ks : List ByteArray) (i : Nat) (x : ByteArray) : List ByteArray := ks.take i ++ x :: ks.drop i
theorem putAt_len {ks : List ByteArray} {i : Nat} (x : ByteArray) (hi : i ≤ ks.length) : (putAt ks i x).length = ks.length + 1 := by
  simp [putAt]; omega
theorem putAt_get {ks : List ByteArray} {i : Nat} (x : ByteArray) (hi : i ≤ ks.length) (q : Nat) : (putAt ks i x)[q]? = if q < i then ks[q]? else if q = i then some x else ks[q - 1]? := by
  unfold putAt
  have hl : (ks.take i).length = i := by simp; omega
  by_cases h1 : q < i
  · rw [if_pos h1, List.getElem?_append_left (by omega), List.getElem?_take_of_lt h1]
  · rw [if_neg h1, List.getElem?_append_right (by omega), hl]
    by_cases h2 : q = i
    · subst h2; rw [if_pos rfl, Nat.sub_self]; rfl
    · rw [if_neg h2, show q - i = (q - i - 1) + 1 from by omega, List.getElem?_cons_succ, List.getElem?_drop]
      congr 1; omega
def InsP (ks : List ByteArray) (i : Nat) (x : ByteArray) (v : Value) (B : Nat) (w : World) (e : Ending) (w' : World) : Prop :=
  ∃ g c, e = .returned (.slice (some ⟨g, 0, none⟩) (ks.length + 1) c) ∧ w'.ownsRow B 9 1 (.slice (some ⟨g, 0, none⟩) (ks.length + 1) c) (ks.length + 1) ((putAt ks i x).map Value.string) ∧ w.grownBy w' v.ownBlock ∧ (v.ownBlock = some g ∨ g = w.heap.size)
theorem row_take {cur : List Value} {ks : List ByteArray} {i : Nat} {x : ByteArray} (hi : i ≤ ks.length) (h : ∀ q, q < ks.length + 1 → cur[q]? = (putAt ks i x)[q]?.map Value.string) : cur.take (ks.length + 1) = (putAt ks i x).map Value.string := by
  apply List.ext_getElem?
  intro q
  rw [List.getElem?_map]
  by_cases hq : q < ks.length + 1
  · rw [List.getElem?_take_of_lt hq, h q hq]
  · rw [List.getElem?_eq_none (by simp; omega), List.getElem?_eq_none (by rw [putAt_len x hi]; omega)]; rfl
theorem zc_len (k : Nat) : (Builtin.zeroCells (Value.string ⟨#[]⟩).cells k).size = k := by
  rw [size_zeroCells]; simp [Value.cells]
/-- A row made anew, whose first cells are these. -/
theorem own_alloc {w0 : World} {B n cap : Nat} {arr : Array Value} {e : TypeId} {xs : List Value} (hB : B ≤ w0.heap.size) (hs : arr.size = cap) (hm : cap ≤ maxLen) (hn : n ≤ cap) (hx : arr.toList.take n = xs) (hl : xs.length = n) :
    (w0.alloc (.cells arr e)).ownsRow B e 1 (.slice (some ⟨w0.heap.size, 0, none⟩) n cap) n xs := by
  have hb := Block.new w0 arr.toList e
  have h2 := own_of_block (B := B) (n := n) (xs := xs) hb hB (by simp [hs]; omega) (by simp [hs]; omega) hx hl
  simpa [hs] using h2
set_option maxHeartbeats 4000000 in
theorem insert_any (ks : List ByteArray) (i : Nat) (x : ByteArray) (v : Value) (B vb : Nat) (w : World) (hown : w.ownsRow B 9 1 v ks.length (ks.map Value.string)) (hi : i ≤ ks.length) (hx : Block w vb [.string x] 9) (hne : v.ownBlock ≠ some vb) (hl : ks.length ≤ 1099511627776) (hBw : B ≤ w.heap.size) :
    Calls Try.prog 43 #[v, .int .i64 i, .slice (some ⟨vb, 0, none⟩) 1 1] w (InsP ks i x v B w) := by
  have hvs : ∀ (j : Nat) u, ([Value.string x] : List Value)[j]? = some u → w.cell? ⟨vb, 0 + j, none⟩ = some u := fun j u hu => by rw [Nat.zero_add]; exact hx.cell hu
  have hv1 : ∀ u ∈ ([Value.string x] : List Value), u.oneCell' = true := fun u hu => by simp at hu; subst hu; rfl
  have hk1 : ∀ u ∈ ks.map Value.string, u.oneCell' = true := fun u hu => by simp at hu; obtain ⟨q, _, rfl⟩ := hu; rfl
  have hgm : ∀ q, (ks.map Value.string)[q]? = ks[q]?.map Value.string := fun q => List.getElem?_map
  have hML : maxLen = 9223372036854775807 := rfl
  rcases hown.2 with ⟨rfl, h0⟩ | ⟨g, cap, cur, rfl, hB, hg, hn, hm, hs, ht⟩
  · -- the nil row
    have hks : ks = [] := List.eq_nil_of_length_eq_zero h0
    subst hks
    obtain rfl : i = 0 := by simpa using hi
    have h := Any2.slices_Insert_string_end_grow layNm222 none 0 0 vb 0 1 1 [] [.string x] w (by omega) (by omega) (by omega) (by omega) rfl rfl (fun _ => rfl) (fun a ha => by cases ha) hvs hv1
    rw [show layNm222_ren.t 9 = 9 from rfl] at h
    refine Calls.mono h ?_
    rintro e w' ⟨rfl, rfl⟩
    have hge := grownCap_ge w (0 + 1) 0 9
    have hle := grownCap_le_maxLen w (0 + 1) 0 9 (by omega)
    refine ⟨w.heap.size, grownCap w (0 + 1) 0 9, rfl, ?_, ?_, .inr rfl⟩
    · exact own_alloc (w0 := w.drew) (n := 1) hBw (by simp only [Array.size_append, zc_len, List.size_toArray, List.nil_append, List.length_cons, List.length_nil]; omega) hle (by omega) (by simp [putAt]) (by simp [putAt])
    · exact ⟨rfl, rfl, rfl, by show w.heap.size ≤ (w.heap.push _).size; simp, fun k hk _ => Below.heap_alloc w.drew _ _ hk⟩
  · have hblk : Block w g cur.toList 9 := by unfold Block; simpa using hg
    have hgw : g < w.heap.size := hblk.lt
    have hgv : vb ≠ g := fun e => hne (by rw [e]; rfl)
    have hcl : cur.toList.length = cap := by simpa using hs
    have ht' : ∀ q, q < ks.length → cur.toList[q]? = ks[q]?.map Value.string := fun q hq => by
      have h1 := congrArg (fun l => l[q]?) ht
      simp only [Nat.mul_one] at h1
      rw [List.getElem?_take_of_lt hq, hgm] at h1
      exact h1
    have hcs : ∀ (j : Nat) u, (ks.map Value.string)[j]? = some u → w.cell? ⟨g, 0 + j, none⟩ = some u := fun j u hu => by
      rw [Nat.zero_add]
      have hj : j < ks.length := by have := (List.getElem?_eq_some_iff.1 hu).1; simpa using this
      exact hblk.cell (by rw [ht' j hj, ← hgm]; exact hu)
    have hsome : ∀ j, j < cap → (w.cell? ⟨g, 0 + j, none⟩).isSome = true := fun j hj => by
      obtain ⟨u, hu⟩ : ∃ u, cur.toList[j]? = some u := get_some (by omega)
      rw [Nat.zero_add, hblk.cell hu]; rfl
    have hkl : (ks.map Value.string).length = ks.length := by simp
    have hkb : ∀ w' : World, (∀ k, k ≠ g → w'.heap[k]? = w.heap[k]?) → w'.os = w.os → w'.tape = w.tape → w'.output = w.output → w.heap.size ≤ w'.heap.size → w.grownBy w' (Value.slice (some ⟨g, 0, none⟩) ks.length cap).ownBlock := fun w' h1 h2 h3 h4 h5 =>
      ⟨h2, h3, h4, h5, fun k _ hk => h1 k (fun e => hk (by rw [e]; rfl))⟩
    by_cases hroom : ks.length + 1 ≤ cap
    · by_cases hin : i < ks.length
      · have h := Any2.slices_Insert_string_shift layNm222 g 0 ks.length cap i vb 0 1 1 (ks.map Value.string) [.string x] w hin (by omega) hroom (by omega) hgv hkl rfl hcs (fun j hj => hsome j (by omega)) (fun j _ => hblk.free _) hvs hk1 hv1
          9 9 1 cap (shape_block hx) (by rw [shape_block hblk, hcl]) (by omega) (hx.free _) (hx.free _)
        refine Calls.mono h ?_
        rintro e w' ⟨rfl, rfl⟩
        obtain ⟨c1, b1, l1, g1⟩ := Block.setCells ((ks.map Value.string).drop i) (0 + (i + 1)) w.drew cur.toList hblk
        obtain ⟨c2, b2, l2, g2⟩ := Block.setCells [.string x] (0 + i) _ c1 b1
        refine ⟨g, cap, rfl, ?_, ?_, .inl rfl⟩
        · have h2 := own_of_block (B := B) (n := ks.length + 1) (xs := (putAt ks i x).map Value.string) b2 hB (by omega) (by omega) (row_take hi (fun q hq => ?_)) (by rw [List.length_map, putAt_len x hi])
          · rw [l2, l1, hcl] at h2
            exact h2
          · rw [g2 q, g1 q, l1, putAt_get x hi, List.length_drop, hkl]
            simp only [List.length_cons, List.length_nil, Nat.zero_add]
            by_cases h1 : q < i
            · rw [if_neg (by omega), if_neg (by omega), if_pos h1, ht' q (by omega)]
            · by_cases h2 : q = i
              · subst h2
                rw [if_pos (by omega), if_neg (by omega), if_pos rfl, Nat.sub_self]; rfl
              · rw [if_neg (by omega), if_pos (by omega), if_neg h1, if_neg h2, List.getElem?_drop, hgm]
                congr 2; omega
        · obtain ⟨r1, r2, r3⟩ := setCells_rest g ((ks.map Value.string).drop i) (0 + (i + 1)) w.drew
          obtain ⟨s1, s2, s3⟩ := setCells_rest g [.string x] (0 + i) (w.drew.setCells g (0 + (i + 1)) ((ks.map Value.string).drop i))
          exact hkb _ (fun k hk => by rw [setCells_other _ _ _ _ _ hk, setCells_other _ _ _ _ _ hk]; rfl) (s1.trans r1) (s2.trans r2) (s3.trans r3) (by rw [setCells_size, setCells_size]; exact Nat.le_refl _)
      · obtain rfl : i = ks.length := by omega
        have h := Any2.slices_Insert_string_end_room layNm222 g 0 ks.length cap vb 0 1 1 [.string x] w (by omega) hroom (by omega) rfl (fun j hj => by rw [Nat.zero_add]; have := hsome (ks.length + j) (by omega); rwa [Nat.zero_add] at this) (fun j _ => hblk.free _) hvs hv1
        refine Calls.mono h ?_
        rintro e w' ⟨rfl, rfl⟩
        obtain ⟨c2, b2, l2, g2⟩ := Block.setCells [.string x] (0 + ks.length) w cur.toList hblk
        refine ⟨g, cap, rfl, ?_, ?_, .inl rfl⟩
        · have h2 := own_of_block (B := B) (n := ks.length + 1) (xs := (putAt ks ks.length x).map Value.string) b2 hB (by omega) (by omega) (row_take hi (fun q hq => ?_)) (by rw [List.length_map, putAt_len x hi])
          · rw [l2, hcl] at h2
            exact h2
          · rw [g2 q, putAt_get x hi]
            simp only [List.length_cons, List.length_nil, Nat.zero_add]
            by_cases h1 : q < ks.length
            · rw [if_neg (by omega), if_pos h1, ht' q h1]
            · have h2 : q = ks.length := by omega
              subst h2
              rw [if_pos (by omega), if_neg h1, if_pos rfl, Nat.sub_self]; rfl
        · obtain ⟨s1, s2, s3⟩ := setCells_rest g [.string x] (0 + ks.length) w
          exact hkb _ (fun k hk => setCells_other _ _ _ _ _ hk) s1 s2 s3 (by rw [setCells_size]; exact Nat.le_refl _)
    · have hcap : cap = ks.length := by omega
      subst hcap
      have hge := grownCap_ge w (ks.length + 1) ks.length 9
      have hle := grownCap_le_maxLen w (ks.length + 1) ks.length 9 (by omega)
      by_cases hin : i < ks.length
      · have h := Any2.slices_Insert_string_grow layNm222 g 0 ks.length ks.length i vb 0 1 1 (ks.map Value.string) [.string x] w hin (by omega) (by omega) (by omega) (by omega) hkl rfl hcs hvs hk1 hv1
        rw [show layNm222_ren.t 9 = 9 from rfl] at h
        refine Calls.mono h ?_
        rintro e w' ⟨rfl, rfl⟩
        obtain ⟨arr, harr⟩ : ∃ arr, (((ks.map Value.string).take i).toArray ++ Builtin.zeroCells (Value.string ⟨#[]⟩).cells (ks.length + 1 - i) ++ Builtin.zeroCells (Value.string ⟨#[]⟩).cells (grownCap w (ks.length + 1) ks.length 9 - (ks.length + 1)) : Array Value) = arr := ⟨_, rfl⟩
        have hal : arr.toList.length = grownCap w (ks.length + 1) ks.length 9 := by
          rw [← harr]; simp only [Array.length_toList, Array.size_append, zc_len]; simp; omega
        have hag : ∀ q, q < i → arr.toList[q]? = ks[q]?.map Value.string := fun q hq => by
          rw [← harr, Array.toList_append, Array.toList_append, List.getElem?_append_left (by simp; omega), List.getElem?_append_left (by simp; omega)]
          simp only [List.toList_toArray]
          rw [List.getElem?_take_of_lt hq, hgm]
        have hb0 := Block.new w arr.toList 9
        obtain ⟨c1, b1, l1, g1⟩ := Block.setCells [.string x] i (w.alloc (.cells arr 9)).drew arr.toList hb0
        obtain ⟨c2, b2, l2, g2⟩ := Block.setCells ((ks.map Value.string).drop i) (i + 1) _ c1 b1.drew
        refine ⟨w.heap.size, grownCap w (ks.length + 1) ks.length 9, rfl, ?_, ?_, .inr rfl⟩
        · have h2 := own_of_block (B := B) (n := ks.length + 1) (xs := (putAt ks i x).map Value.string) b2 hBw (by omega) (by omega) (row_take hi (fun q hq => ?_)) (by rw [List.length_map, putAt_len x hi])
          · rw [l2, l1, hal] at h2
            rw [harr]
            exact h2
          · rw [g2 q, g1 q, l1, hal, putAt_get x hi, List.length_drop, hkl]
            simp only [List.length_cons, List.length_nil, Nat.zero_add]
            by_cases h1 : q < i
            · rw [if_neg (by omega), if_neg (by omega), if_pos h1, hag q h1]
            · by_cases h2 : q = i
              · subst h2
                rw [if_neg (by omega), if_pos (by omega), if_neg h1, if_pos rfl, Nat.sub_self]; rfl
              · rw [if_pos (by omega), if_neg h1, if_neg h2, List.getElem?_drop, hgm]
                congr 2; omega
        · rw [harr]
          obtain ⟨r1, r2, r3⟩ := setCells_rest w.heap.size [.string x] i (w.alloc (.cells arr 9)).drew
          obtain ⟨s1, s2, s3⟩ := setCells_rest w.heap.size ((ks.map Value.string).drop i) (i + 1) ((w.alloc (.cells arr 9)).drew.setCells w.heap.size i [.string x]).drew
          refine ⟨s1.trans r1, s2.trans r2, s3.trans r3, ?_, fun k hk _ => ?_⟩
          · rw [setCells_size]
            show w.heap.size ≤ ((w.alloc (.cells arr 9)).drew.setCells w.heap.size i [.string x]).heap.size
            rw [setCells_size]
            show w.heap.size ≤ (w.heap.push _).size
            simp
          · rw [setCells_other _ _ _ _ _ (by omega)]
            show ((w.alloc (.cells arr 9)).drew.setCells w.heap.size i [.string x]).heap[k]? = _
            rw [setCells_other _ _ _ _ _ (by omega)]
            exact Below.heap_alloc w _ _ hk
      · obtain rfl : i = ks.length := by omega
        have h := Any2.slices_Insert_string_end_grow layNm222 (some ⟨g, 0, none⟩) ks.length ks.length vb 0 1 1 (ks.map Value.string) [.string x] w (by omega) (by omega) (by omega) (by omega) hkl rfl (fun h => by cases h) (fun a ha => by cases ha; intro j u hu; rw [addr_add]; exact hcs j u hu) hvs hv1
        rw [show layNm222_ren.t 9 = 9 from rfl] at h
        refine Calls.mono h ?_
        rintro e w' ⟨rfl, rfl⟩
        refine ⟨w.heap.size, grownCap w (ks.length + 1) ks.length 9, rfl, ?_, ?_, .inr rfl⟩
        · refine own_alloc (w0 := w.drew) (n := ks.length + 1) hBw (by simp only [Array.size_append, zc_len, List.size_toArray, List.length_append, List.length_map, List.length_cons, List.length_nil]; omega) hle (by omega) ?_ (by rw [List.length_map, putAt_len x (Nat.le_refl _)])
          rw [Array.toList_append, List.take_left' (by simp)]
          simp [putAt]
        · exact ⟨rfl, rfl, rfl, by show w.heap.size ≤ (w.heap.push _).size; simp, fun k hk _ => Below.heap_alloc w.drew _ _ hk⟩
end Go.Proofs.Ytaonfacbmolklaa
