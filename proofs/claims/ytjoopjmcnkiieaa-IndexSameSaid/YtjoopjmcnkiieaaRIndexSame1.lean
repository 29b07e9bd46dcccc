/- The texts Ky, Sm of this seat, one behind the other. Conditions: each says its own. -/
import Derived.Test.YtjoopjmcnkiieaaM7

/- Keys that came in. Conditions: none. -/
namespace Go.Proofs.Ytjoopjmcnkiieaa
open Go.RowKit Go.Lib Go.Maps
set_option linter.unusedSimpArgs false
set_option linter.unusedVariables false

theorem mem_insF {key : ByteArray} {x : Int} {l : List (ByteArray × Int)} {e : ByteArray × Int} : e ∈ insF key x l ↔ e = (key, x) ∨ (e ∈ l ∧ e.1 ≠ key) := by
  unfold insF
  rw [List.mem_append, List.mem_cons, List.mem_filter, List.mem_filter]
  constructor
  · rintro (⟨h1, h2⟩ | h | ⟨h1, h2⟩)
    · exact .inr ⟨h1, ltS_ne h2⟩
    · exact .inl h
    · exact .inr ⟨h1, (ltS_ne h2).symm⟩
  · rintro (h | ⟨h1, h2⟩)
    · exact .inr (.inl h)
    · rcases ltS_tri e.1 key with h3 | h3 | h3
      · exact .inl ⟨h1, h3⟩
      · exact absurd h3 h2
      · exact .inr (.inr ⟨h1, h3⟩)
/-- A key that came in. -/
structure Key25 where
  k : ByteArray
  hk : k.size ≤ maxLen
def Key25.cells (o : Key25) : List Value := [.string o.k]
theorem keysOpen {H : Type} {enc : TypeId × Value → H} {w : World} {base : Nat} {spare : Nat → Bool} {held : Bool} {fuel : Nat} {a : Option Addr} {len cap : Nat} {x : DataW H × List MemPlace}
    (h : DataW.trod enc Try.prog w base spare held fuel 27 [.slice a len cap] = some x) : ∃ os : List Key25, os.length = len ∧ len ≤ cap ∧ cap ≤ maxLen ∧ (a = none → cap = 0) ∧ (∀ o ∈ os, (Key25.cells o).length = 1) ∧ Cells w.heap.size w a (os.flatMap Key25.cells) := by
  have h1 := Try.underlying27
  have h2 : Try.prog.cellsOf 9 = 1 := by kernel_rfl
  refine open_rows Key25.cells 1 h1 h2 (fun n cs y hl hy => ?_) h
  obtain ⟨s, rfl, _, hs⟩ := DataW.trod_string Try.underlying9 hy
  exact ⟨⟨s, hs⟩, rfl⟩
theorem key_cell {W : World} {a0 : Option Addr} {os : List Key25} (hrow : Cells W.heap.size W a0 (os.flatMap Key25.cells)) : ∀ {j : Nat} {o : Key25}, os[j]? = some o →
    ∃ b off, a0 = some ⟨b, off, none⟩ ∧ ∀ u, Below W.heap.size W u → u.cell? ⟨b, off + j, none⟩ = some (.string o.k) := by
  intro j o ho
  obtain ⟨b, off, rfl, hb, hc⟩ := Cells.elem (size := 1) hrow (fun _ _ => rfl) (by omega) ho
  refine ⟨b, off, rfl, fun u hu => ?_⟩
  rw [hu.cell hb, show off + j = off + (j * 1 + 0) from by omega]; exact hc 0 _ rfl
end Go.Proofs.Ytjoopjmcnkiieaa

/- IndexSame: in which order keys are put plays no part. Conditions: the keys can be read. -/
namespace Go.Proofs.Ytjoopjmcnkiieaa
open Go.RowKit Go.Lib Go.Maps
set_option linter.unusedSimpArgs false
set_option linter.unusedVariables false

/- The plain law. -/
theorem pair_insF {key : ByteArray} {x : Int} {l : List (ByteArray × Int)} (h : l.Pairwise ltP) : (insF key x l).Pairwise ltP := by
  unfold insF
  refine List.pairwise_append.2 ⟨h.sublist List.filter_sublist, List.pairwise_cons.2 ⟨fun e he => (List.mem_filter.1 he).2, h.sublist List.filter_sublist⟩, fun e he e2 he2 => ?_⟩
  have h1 : ltS e.1 key = true := (List.mem_filter.1 he).2
  rcases List.mem_cons.1 he2 with rfl | he2
  · exact h1
  · exact ltS_trans h1 (List.mem_filter.1 he2).2
theorem sorted_ext : ∀ {l m : List (ByteArray × Int)}, l.Pairwise ltP → m.Pairwise ltP → (∀ e, e ∈ l ↔ e ∈ m) → l = m := by
  intro l
  induction l with
  | nil =>
    intro m _ _ h
    cases m with
    | nil => rfl
    | cons y m => exact absurd ((h y).2 List.mem_cons_self) (by simp)
  | cons x l ih =>
    intro m hl hm h
    cases m with
    | nil => exact absurd ((h x).1 List.mem_cons_self) (by simp)
    | cons y m =>
      rw [List.pairwise_cons] at hl hm
      have hxy : x = y := by
        rcases List.mem_cons.1 ((h x).1 List.mem_cons_self) with h1 | h1
        · exact h1
        · rcases List.mem_cons.1 ((h y).2 List.mem_cons_self) with h2 | h2
          · exact h2.symm
          · have h3 := hl.1 y h2
            have h4 := hm.1 x h1
            have := ltS_trans h3 h4
            rw [ltS_irrefl] at this; cases this
      subst hxy
      rw [ih hl.2 hm.2 (fun e => ?_)]
      constructor
      · intro he
        rcases List.mem_cons.1 ((h e).1 (List.mem_cons_of_mem _ he)) with rfl | h1
        · have := hl.1 e he; unfold ltP at this; rw [ltS_irrefl] at this; cases this
        · exact h1
      · intro he
        rcases List.mem_cons.1 ((h e).2 (List.mem_cons_of_mem _ he)) with rfl | h1
        · have := hm.1 e he; unfold ltP at this; rw [ltS_irrefl] at this; cases this
        · exact h1
/-- Keys put with one value. -/
def putS (x : Int) (ks : List ByteArray) : List (ByteArray × Int) := ks.foldl (fun l k => insF k x l) []
theorem putS_snoc (x : Int) (ks : List ByteArray) (k : ByteArray) : putS x (ks ++ [k]) = insF k x (putS x ks) := by unfold putS; rw [List.foldl_append]; rfl
theorem putS_facts (x : Int) (ks : List ByteArray) : (putS x ks).Pairwise ltP ∧ (∀ e, e ∈ putS x ks ↔ e.2 = x ∧ e.1 ∈ ks) ∧ (putS x ks).length ≤ ks.length := by
  have h : ∀ ks : List ByteArray, (putS x ks.reverse).Pairwise ltP ∧ (∀ e, e ∈ putS x ks.reverse ↔ e.2 = x ∧ e.1 ∈ ks) ∧ (putS x ks.reverse).length ≤ ks.length := by
    intro ks
    induction ks with
    | nil => exact ⟨List.Pairwise.nil, fun e => by simp [putS], Nat.le_refl _⟩
    | cons k ks ih =>
      rw [List.reverse_cons, putS_snoc]
      refine ⟨pair_insF ih.1, fun e => ?_, by have := insF_len_le k x _ ih.1; have := ih.2.2; simp; omega⟩
      rw [mem_insF, ih.2.1 e, List.mem_cons]
      constructor
      · rintro (rfl | ⟨⟨h1, h2⟩, h3⟩)
        · exact ⟨rfl, .inl rfl⟩
        · exact ⟨h1, .inr h2⟩
      · rintro ⟨h1, h2⟩
        by_cases h3 : e.1 = k
        · exact .inl (by cases e; simp only at h1 h3; rw [h1, h3])
        · rcases h2 with h2 | h2
          · exact absurd h2 h3
          · exact .inr ⟨⟨h1, h2⟩, h3⟩
  have := h ks.reverse
  rw [List.reverse_reverse] at this
  simpa using this
theorem putS_reverse (x : Int) (ks : List ByteArray) : putS x ks.reverse = putS x ks :=
  sorted_ext (putS_facts x _).1 (putS_facts x _).1 (fun e => by rw [(putS_facts x _).2.1, (putS_facts x _).2.1, List.mem_reverse])
/-- Two trees. -/
def TT (w : World) (o ta tb : Nat) (la : List (ByteArray × Int)) (Ha : List ByteArray) (lb : List (ByteArray × Int)) (Hb : List ByteArray) (u : World) : Prop :=
  ∃ F G, IsTree u o ta F la Ha ∧ IsTree u o tb G lb Hb ∧ Base w [] F G u
section
variable {w u : World} {o ta tb : Nat} {la lb : List (ByteArray × Int)} {Ha Hb : List ByteArray} {key a b : ByteArray} {x : Int}
theorem TT.bel (h : TT w o ta tb la Ha lb Hb u) : Below w.heap.size w u := by obtain ⟨F, G, _, _, hB⟩ := h; exact hB.bel
theorem TT.same {u' : World} (h : TT w o ta tb la Ha lb Hb u) (hb : Below u.heap.size u u') : TT w o ta tb la Ha lb Hb u' := by
  obtain ⟨F, G, h1, h2, hB⟩ := h
  exact ⟨F, G, h1.frame (F := F) (G := fun _ => 0) (G' := fun _ => 0) (Fr.of_below hb (fun _ => by omega) (fun _ _ => rfl)) (fun k => by have := hB.one k; omega), h2.frame (F := G) (G := fun _ => 0) (G' := fun _ => 0) (Fr.of_below hb (fun _ => by omega) (fun _ _ => rfl)) (fun k => by have := hB.one k; omega), hB.same hb⟩
theorem TT.putA (h : TT w o ta tb la Ha lb Hb u) (ho3 : 3 ≤ o) (ho2 : o ≤ 64) (hl : la.length ≤ 1000000) (hH : Ha.length ≤ 1000000) (hkey : key.size ≤ maxLen) :
    Calls Try.prog 15 #[.pointer (some ⟨ta, 0, none⟩), .string key, .int .i64 x] u fun e w' => e = .returned (.bool (hasF key la)) ∧ TT w o ta tb (insF key x la) (key :: Ha) lb Hb w' := by
  obtain ⟨F, G, h1, h2, hB⟩ := h
  refine (tput_any ho3 ho2 h1 hl hH hkey).mono ?_
  rintro e w' ⟨rfl, F', hf, ht⟩
  exact ⟨rfl, F', G, ht, h2.frame hf (fun k => by have := hB.one k; omega), hB.left hf h2.hi⟩
theorem TT.putB (h : TT w o ta tb la Ha lb Hb u) (ho3 : 3 ≤ o) (ho2 : o ≤ 64) (hl : lb.length ≤ 1000000) (hH : Hb.length ≤ 1000000) (hkey : key.size ≤ maxLen) :
    Calls Try.prog 15 #[.pointer (some ⟨tb, 0, none⟩), .string key, .int .i64 x] u fun e w' => e = .returned (.bool (hasF key lb)) ∧ TT w o ta tb la Ha (insF key x lb) (key :: Hb) w' := by
  obtain ⟨F, G, h1, h2, hB⟩ := h
  refine (tput_any ho3 ho2 h2 hl hH hkey).mono ?_
  rintro e w' ⟨rfl, G', hf, ht⟩
  exact ⟨rfl, F, G', h1.frame hf (fun k => by have := hB.one k; omega), ht, hB.right hf h1.hi⟩
theorem TT.allA {most : Nat} (h : TT w o ta tb la Ha lb Hb u) (ho2 : o ≤ 64) (hmost : most ≤ 1000000) (hl : la.length ≤ 1000000) :
    Calls Try.prog 16 #[.pointer (some ⟨ta, 0, none⟩), .string a, .string b, .int .i64 most] u fun e w' => AllP (part a b la) most u e w' ∧ TT w o ta tb la Ha lb Hb w' := by
  have h0 := h
  obtain ⟨F, G, h1, h2, hB⟩ := h
  exact (all_any ho2 h1 hmost hl).mono (fun e w' ha => ⟨ha, h0.same ha.1⟩)
theorem TT.allB {most : Nat} (h : TT w o ta tb la Ha lb Hb u) (ho2 : o ≤ 64) (hmost : most ≤ 1000000) (hl : lb.length ≤ 1000000) :
    Calls Try.prog 16 #[.pointer (some ⟨tb, 0, none⟩), .string a, .string b, .int .i64 most] u fun e w' => AllP (part a b lb) most u e w' ∧ TT w o ta tb la Ha lb Hb w' := by
  have h0 := h
  obtain ⟨F, G, h1, h2, hB⟩ := h
  exact (all_any ho2 h2 hmost hl).mono (fun e w' ha => ⟨ha, h0.same ha.1⟩)
theorem TT.lenA (h : TT w o ta tb la Ha lb Hb u) : Calls Try.prog 17 #[.pointer (some ⟨ta, 0, none⟩)] u fun e w' => e = .returned (.int .i64 la.length) ∧ u = w' := by
  obtain ⟨F, G, h1, h2, hB⟩ := h
  exact tlen_any h1
theorem TT.lenB (h : TT w o ta tb la Ha lb Hb u) : Calls Try.prog 17 #[.pointer (some ⟨tb, 0, none⟩)] u fun e w' => e = .returned (.int .i64 lb.length) ∧ u = w' := by
  obtain ⟨F, G, h1, h2, hB⟩ := h
  exact tlen_any h2
end
theorem ot_more {w u : World} {o ta : Nat} {la : List (ByteArray × Int)} {Ha : List ByteArray} (ho3 : 3 ≤ o) (ho2 : o ≤ 64) (h : OT w o ta la Ha u) :
    Calls Try.prog 13 #[.int .i64 o] u fun e w' => ∃ tb, e = .returned (.tuple #[.pointer (some ⟨tb, 0, none⟩), .int .i64 0]) ∧ TT w o ta tb la Ha [] [] w' := by
  obtain ⟨F, h1, hB⟩ := h
  refine (new_any ho3 ho2 u).mono ?_
  rintro e w' ⟨tb, G, rfl, ht, hb, hlow⟩
  have hB2 := hB.same hb
  have h1' := h1.frame (F := F) (G := fun _ => 0) (G' := fun _ => 0) (Fr.of_below hb (fun _ => by omega) (fun _ _ => rfl)) (fun k => by have := hB.one k; omega)
  refine ⟨tb, rfl, F, G, h1', ht, ⟨hB2.bel, fun k => ?_, fun k hk => ?_, fun b hb => by cases hb⟩⟩
  · by_cases hk : k < u.heap.size
    · have := hlow k hk; have := hB.one k; omega
    · have := h1.hi k (by omega); have := ht.one k; omega
  · have := hB.low k hk
    have := hlow k (Nat.lt_of_lt_of_le hk hB.bel.size)
    omega
/-- Both under way. -/
structure SameAt (W : World) (o ta tb : Nat) (os : List Key25) (i : Nat) (u : World) : Prop where
  t : ∃ Ha Hb : List ByteArray, TT W o ta tb (putS 7 ((os.map (·.k)).take i)) Ha (putS 7 ((os.map (·.k)).reverse.take i)) Hb u ∧ Ha.length = i ∧ Hb.length = i
set_option maxRecDepth 100000 in
set_option maxHeartbeats 16000000 in
theorem same_any (n : Int) (a0 : Option Addr) (cap0 : Nat) (os : List Key25) (a b : ByteArray) (W : World) (hrow : Cells W.heap.size W a0 (os.flatMap Key25.cells)) :
    Calls Try.prog 4 #[.int .i64 n, .slice a0 os.length cap0, .string a, .string b] W fun e w' => e = .returned (.bool true) ∧ Below W.heap.size W w' := by
  obtain ⟨Q, hQ⟩ : ∃ Q, (fun (e : Ending) (w' : World) => e = .returned (.bool true) ∧ Below W.heap.size W w') = Q := ⟨_, rfl⟩
  have HQ : Hid (∀ u, Below W.heap.size W u → Q (.returned (.bool true)) u) := Lib.hid (fun u hb => by rw [← hQ]; exact ⟨rfl, hb⟩)
  rw [hQ]
  have HO := Lib.hid (order_any n)
  obtain ⟨ho3, ho2⟩ := ordN_ok n
  generalize ordN n = o at *
  have HN := Lib.hid (ot_new ho3 ho2 W)
  have HN2 := Lib.hid (fun u la Ha ta (h : OT W o ta la Ha u) => ot_more ho3 ho2 h)
  have HROW := Lib.hid hrow
  have HW := Lib.hid works_any
  have HWE : Hid (∀ u, Below W.heap.size W u → Calls Try.prog 12 #[] u fun e w' => e = .returned (.bool true) ∧ Below W.heap.size W w') := Lib.hid (fun u hb => (HW.out u).mono (by rintro e w' ⟨rfl, h2⟩; exact ⟨rfl, hb.trans (h2.mono hb.size)⟩))
  obtain ⟨ln, hln⟩ : ∃ ln, os.length = ln := ⟨_, rfl⟩
  rw [hln]
  have HLN := Lib.hid hln
  clear hQ hrow HW hln
  by_cases hbig : 400 < ln
  · have hbig' : (400 : Int) < ln := by omega
    go_enter Try.func4, Try.ntmps4
    go_wp2_with (first
      | (go_at_call 14; refine (HO.out _).mono ?_; rintro e w1 ⟨rfl, rfl⟩)
      | (go_at_call 13; refine HN.out.mono ?_; clear HN; rintro e w1 ⟨ta, rfl, h1⟩; have H1 := Lib.hid h1; clear h1)
      | (go_at_call 13; refine (HN2.out _ _ _ _ H1.out).mono ?_; clear HN2; rintro e w2 ⟨tb, rfl, h2⟩; have H2 := Lib.hid h2; clear h2)
      | (go_at_call 12; refine (HWE.out _ H2.out.bel).mono ?_; clear HWE; rintro e w3 ⟨rfl, h3⟩; have H3 := Lib.hid h3; clear h3))
    exact HQ.out _ H3.out
  · have hbig' : ¬ (400 : Int) < ln := by omega
    have hl4 : ln ≤ 400 := by omega
    go_enter Try.func4, Try.ntmps4
    go_wp2_with (first
      | (go_at_call 14; refine (HO.out _).mono ?_; rintro e w1 ⟨rfl, rfl⟩)
      | (go_at_call 13; refine HN.out.mono ?_; clear HN; rintro e w1 ⟨ta, rfl, h1⟩; have H1 := Lib.hid h1; clear h1)
      | (go_at_call 13; refine (HN2.out _ _ _ _ H1.out).mono ?_; clear HN2; rintro e w2 ⟨tb, rfl, h2⟩; have H2 := Lib.hid h2; clear h2))
    have H0 : Hid (SameAt W o ta tb os 0 w2) := Lib.hid ⟨[], [], by rw [List.take_zero, List.take_zero]; exact H2.out, rfl, rfl⟩
    clear H1 H2
    go_loopw [13] (fun iv wr => ∃ i : Nat, iv = .int .i64 i ∧ i ≤ ln ∧ Hid (SameAt W o ta tb os i wr)) (fun iv _ => ln - (intOf iv).toNat)
    case atStart => exact ⟨0, rfl, by omega, H0⟩
    case round =>
      clear H0
      obtain ⟨i, rfl, hi, HS⟩ := hrel
      have hi0 : (0 : Int) ≤ i := by omega
      obtain ⟨Ha, Hb, hT, hHa, hHb⟩ := HS.out.t
      have HT := Lib.hid hT
      by_cases hlt : i < ln
      · have hlt' : (i : Int) < ln := by omega
        obtain ⟨k1, hk1⟩ : ∃ k, os[i]? = some k := get_some (by have := HLN.out; omega)
        obtain ⟨r, hr⟩ : ∃ r, ln - 1 - i = r := ⟨_, rfl⟩
        obtain ⟨k2, hk2⟩ : ∃ k, os[r]? = some k := get_some (by have := HLN.out; omega)
        obtain ⟨bb, off, rfl, hc1⟩ := key_cell HROW.out hk1
        obtain ⟨_, _, e9, hc2⟩ := key_cell HROW.out hk2
        injection e9 with e9
        injection e9 with e9 e10
        subst e9 e10
        have c1 := hc1 wr HT.out.bel
        have HC2 := Lib.hid hc2
        have HS1 : Hid ((os.map (·.k)).take (i + 1) = (os.map (·.k)).take i ++ [k1.k]) := Lib.hid (take_succ_some (by rw [List.getElem?_map, hk1]; rfl))
        have HS2 : Hid ((os.map (·.k)).reverse.take (i + 1) = (os.map (·.k)).reverse.take i ++ [k2.k]) := Lib.hid (take_succ_some (by
          rw [List.getElem?_reverse (by simp; have := HLN.out; omega), List.length_map, List.getElem?_map, show os.length - 1 - i = r from by have := HLN.out; omega, hk2]; rfl))
        have hw1 : IntKind.i64.wrap ((ln : Int) - 1) = (ln : Int) - 1 := IntWalk.i64_in _ (by omega)
        have hw2 : IntKind.i64.wrap ((ln : Int) - 1 - i) = (r : Int) := by rw [IntWalk.i64_in _ (by omega)]; omega
        have hw3 : ((ln : Int) - 1 - i) = (r : Int) := by omega
        have hj1 : IntKind.i64.wrap ((i : Int) + 1) = (i : Int) + 1 := IntWalk.i64_in _ (by omega)
        have hr0 : (0 : Int) ≤ r := by omega
        have hrl : (r : Int) < ln := by omega
        have HPA := Lib.hid (TT.putA (key := k1.k) (x := 7) HT.out ho3 ho2 (by have := (putS_facts 7 ((os.map (·.k)).take i)).2.2; rw [List.length_take] at this; omega) (by omega) k1.hk)
        have HPB := Lib.hid (fun u (h : TT W o ta tb (insF k1.k 7 (putS 7 ((os.map (·.k)).take i))) (k1.k :: Ha) (putS 7 ((os.map (·.k)).reverse.take i)) Hb u) => TT.putB (key := k2.k) (x := 7) h ho3 ho2 (by have := (putS_facts 7 ((os.map (·.k)).reverse.take i)).2.2; rw [List.length_take] at this; omega) (by omega) k2.hk)
        have HHL : Hid (Ha.length = i ∧ Hb.length = i) := Lib.hid ⟨hHa, hHb⟩
        clear hk1 hk2 hc1 hc2 hT hHa hHb HS hr
        go_wp2_with (first
          | (go_at_call 15; refine HPA.out.mono ?_; clear HPA; rintro e w3 ⟨rfl, h3⟩; have H3 := Lib.hid h3; have c2 := HC2.out _ h3.bel; clear h3)
          | (go_at_call 15; refine (HPB.out _ H3.out).mono ?_; clear HPB; rintro e w4 ⟨rfl, h4⟩; have H4 := Lib.hid h4; clear h4))
        have H5 : Hid (SameAt W o ta tb os (i + 1) w4) := Lib.hid ⟨_, _, by rw [HS1.out, HS2.out, putS_snoc, putS_snoc]; exact H4.out, by simp [HHL.out.1], by simp [HHL.out.2]⟩
        go_roundw
        case rel => exact ⟨i + 1, by go_num, by omega, H5⟩
        case measure => simp [intOf]; omega
      · have hlt' : ¬ (i : Int) < ln := by omega
        obtain rfl : i = ln := by omega
        have hfull : (os.map (·.k)).take i = os.map (·.k) := List.take_of_length_le (by rw [List.length_map]; have := HLN.out; omega)
        have hfull2 : (os.map (·.k)).reverse.take i = (os.map (·.k)).reverse := List.take_of_length_le (by rw [List.length_reverse, List.length_map]; have := HLN.out; omega)
        rw [hfull, hfull2, putS_reverse] at hT
        obtain ⟨l, hl⟩ : ∃ l, putS 7 (os.map (·.k)) = l := ⟨_, rfl⟩
        have hll : l.length ≤ i := by rw [← hl]; have := (putS_facts 7 (os.map (·.k))).2.2; rw [List.length_map] at this; have := HLN.out; omega
        rw [hl] at hT
        have HT2 := Lib.hid hT
        obtain ⟨q, hq⟩ : ∃ q, part a b l = q := ⟨_, rfl⟩
        have hql : q.length ≤ i := by rw [← hq]; exact Nat.le_trans (List.length_filter_le _ _) hll
        have HAA : Hid (∀ u, TT W o ta tb l Ha l Hb u → Calls Try.prog 16 #[.pointer (some ⟨ta, 0, none⟩), .string a, .string b, .int .i64 i] u fun e w' => (∃ g c, e = .returned (.tuple #[.slice g q.length c, .bool true]) ∧ Arr w' 9 (.slice g q.length c) (keysOf q)) ∧ TT W o ta tb l Ha l Hb w' ∧ Below u.heap.size u w') := Lib.hid (fun u h => by
          have := TT.allA (a := a) (b := b) (most := i) h ho2 (by omega) (by omega)
          rw [hq] at this
          refine this.mono ?_
          rintro e w' ⟨⟨hb, h1⟩, h2⟩
          refine ⟨?_, h2, hb⟩
          rcases h1 with ⟨_, v, rfl, hr⟩ | ⟨h3, _⟩
          · obtain ⟨g, c, rfl⟩ := own_form' hr
            exact ⟨g, c, rfl, Arr.of_own hr⟩
          · omega)
        have HAB : Hid (∀ u, TT W o ta tb l Ha l Hb u → Calls Try.prog 16 #[.pointer (some ⟨tb, 0, none⟩), .string a, .string b, .int .i64 i] u fun e w' => (∃ g c, e = .returned (.tuple #[.slice g q.length c, .bool true]) ∧ Arr w' 9 (.slice g q.length c) (keysOf q)) ∧ TT W o ta tb l Ha l Hb w' ∧ Below u.heap.size u w') := Lib.hid (fun u h => by
          have := TT.allB (a := a) (b := b) (most := i) h ho2 (by omega) (by omega)
          rw [hq] at this
          refine this.mono ?_
          rintro e w' ⟨⟨hb, h1⟩, h2⟩
          refine ⟨?_, h2, hb⟩
          rcases h1 with ⟨_, v, rfl, hr⟩ | ⟨h3, _⟩
          · obtain ⟨g, c, rfl⟩ := own_form' hr
            exact ⟨g, c, rfl, Arr.of_own hr⟩
          · omega)
        obtain ⟨m, hm⟩ : ∃ m, q.length = m := ⟨_, rfl⟩
        have HM := Lib.hid hm
        rw [hm] at HAA HAB hql
        obtain ⟨ll, hll2⟩ : ∃ ll, l.length = ll := ⟨_, rfl⟩
        have HLA : Hid (∀ u, TT W o ta tb l Ha l Hb u → Calls Try.prog 17 #[.pointer (some ⟨ta, 0, none⟩)] u fun e w' => e = .returned (.int .i64 ll) ∧ u = w') := Lib.hid (fun u h => by have := TT.lenA h; rw [hll2] at this; exact this)
        have HLB : Hid (∀ u, TT W o ta tb l Ha l Hb u → Calls Try.prog 17 #[.pointer (some ⟨tb, 0, none⟩)] u fun e w' => e = .returned (.int .i64 ll) ∧ u = w') := Lib.hid (fun u h => by have := TT.lenB h; rw [hll2] at this; exact this)
        clear hfull hfull2 hT hHa hHb HS hl hll hq hm hll2 HT
        go_wp2_with (first
          | (go_at_call 16; refine (HAA.out _ HT2.out).mono ?_; clear HAA; rintro e w3 ⟨⟨g1, c1, rfl, r1⟩, h3, hb3⟩; have H3 := Lib.hid h3; have HR1 := Lib.hid r1; clear h3 hb3 r1)
          | (go_at_call 16; refine (HAB.out _ H3.out).mono ?_; clear HAB; rintro e w4 ⟨⟨g2, c2, rfl, r2⟩, h4, hb4⟩; have H4 := Lib.hid h4; have HR2 := Lib.hid r2; have HR3 := Lib.hid (HR1.out.of_heap (fun k e => hb4.block k (HR1.out.lt k e))); clear h4 hb4 r2))
        go_loopw [18] (fun iv wr => ∃ j : Nat, iv = .int .i64 j ∧ j ≤ m ∧ Hid (TT W o ta tb l Ha l Hb wr ∧ Arr wr 9 (.slice g1 m c1) (keysOf q) ∧ Arr wr 9 (.slice g2 m c2) (keysOf q))) (fun iv _ => m - (intOf iv).toNat)
        case atStart => exact ⟨0, rfl, Nat.zero_le _, Lib.hid ⟨H4.out, HR3.out, HR2.out⟩⟩
        case round =>
          clear H4 HR1 HR2 HR3 H3 HT2
          obtain ⟨j, rfl, hj, HX⟩ := hrel
          have hj0 : (0 : Int) ≤ j := by omega
          by_cases hjm : j < m
          · have hjm' : (j : Int) < m := by omega
            obtain ⟨y, hy⟩ : ∃ y, q[j]? = some y := get_some (by have := HM.out; omega)
            obtain ⟨b1, rfl, _, kc1, _⟩ := HX.out.2.1.cell (i := j) (x := .string y.1) (by unfold keysOf; rw [List.getElem?_map, hy]; rfl)
            obtain ⟨b2, rfl, _, kc2, _⟩ := HX.out.2.2.cell (i := j) (x := .string y.1) (by unfold keysOf; rw [List.getElem?_map, hy]; rfl)
            have hj1 : IntKind.i64.wrap ((j : Int) + 1) = (j : Int) + 1 := IntWalk.i64_in _ (by omega)
            clear hy
            go_wp2_with fail
            refine wp_region_noPanic ?_
            refine wp_region_J (S := fun u : World => u.cell? ⟨b1, j, none⟩ = some (.string y.1) ∧ u.cell? ⟨b2, j, none⟩ = some (.string y.1)) (fun _ => false) (by kernel_rfl) ?_
            have hHeld : (fun u : World => u.cell? ⟨b1, j, none⟩ = some (.string y.1) ∧ u.cell? ⟨b2, j, none⟩ = some (.string y.1)) wr.drew := ⟨kc1, kc2⟩
            refine wpAnyJ_take0 (i := 0) (v := ?_) rfl (by kernel_rfl) (by kernel_rfl) (by kernel_rfl) (fun _ _ _ h => h) (Or.inl ⟨by rfl, ?_⟩) ?_
            rotate_left
            focus ((intro w hSw; clear hSw; go_simp); try with_reducible rfl)
            (try simp only [Act.put, List.getElem_toArray, List.getElem_cons_zero, List.getElem_cons_succ, List.setIfInBounds_toArray, List.set_cons_zero, List.set_cons_succ])
            refine wpAnyJ_take0 (i := 1) (v := ?_) rfl (by kernel_rfl) (by kernel_rfl) (by kernel_rfl) (fun _ _ _ h => h) (Or.inl ⟨by rfl, ?_⟩) ?_
            rotate_left
            focus ((intro w hSw; clear hSw; go_simp); try with_reducible rfl)
            (try simp only [Act.put, List.getElem_toArray, List.getElem_cons_zero, List.getElem_cons_succ, List.setIfInBounds_toArray, List.set_cons_zero, List.set_cons_succ])
            refine wpAnyJ_take0 (i := 2) (v := ?_) rfl (by kernel_rfl) (by kernel_rfl) (by kernel_rfl) (fun _ _ _ h => h) (Or.inl ⟨by rfl, ?_⟩) ?_
            rotate_left
            focus ((intro w hSw; clear hSw; go_simp); try with_reducible rfl)
            (try simp only [Act.put, List.getElem_toArray, List.getElem_cons_zero, List.getElem_cons_succ, List.setIfInBounds_toArray, List.set_cons_zero, List.set_cons_succ])
            refine wpAnyJ_take (i := 3) (v := ?_) rfl (by kernel_rfl) (by kernel_rfl) (by kernel_rfl) (by kernel_rfl) (fun _ _ _ h => h) (Or.inl ⟨by rfl, ?_⟩) (by assumption) ?_
            rotate_left
            focus ((intro w hSw; (try dsimp only at hSw); go_simp); try with_reducible rfl)
            (try simp only [Act.put, List.getElem_toArray, List.getElem_cons_zero, List.getElem_cons_succ, List.setIfInBounds_toArray, List.set_cons_zero, List.set_cons_succ])
            refine wpAnyJ_take0 (i := 4) (v := ?_) rfl (by kernel_rfl) (by kernel_rfl) (by kernel_rfl) (fun _ _ _ h => h) (Or.inl ⟨by rfl, ?_⟩) ?_
            rotate_left
            focus ((intro w hSw; clear hSw; go_simp); try with_reducible rfl)
            (try simp only [Act.put, List.getElem_toArray, List.getElem_cons_zero, List.getElem_cons_succ, List.setIfInBounds_toArray, List.set_cons_zero, List.set_cons_succ])
            refine wpAnyJ_take0 (i := 5) (v := ?_) rfl (by kernel_rfl) (by kernel_rfl) (by kernel_rfl) (fun _ _ _ h => h) (Or.inl ⟨by rfl, ?_⟩) ?_
            rotate_left
            focus ((intro w hSw; clear hSw; go_simp); try with_reducible rfl)
            (try simp only [Act.put, List.getElem_toArray, List.getElem_cons_zero, List.getElem_cons_succ, List.setIfInBounds_toArray, List.set_cons_zero, List.set_cons_succ])
            refine wpAnyJ_take0 (i := 6) (v := ?_) rfl (by kernel_rfl) (by kernel_rfl) (by kernel_rfl) (fun _ _ _ h => h) (Or.inl ⟨by rfl, ?_⟩) ?_
            rotate_left
            focus ((intro w hSw; clear hSw; go_simp); try with_reducible rfl)
            (try simp only [Act.put, List.getElem_toArray, List.getElem_cons_zero, List.getElem_cons_succ, List.setIfInBounds_toArray, List.set_cons_zero, List.set_cons_succ])
            refine wpAnyJ_take (i := 7) (v := ?_) rfl (by kernel_rfl) (by kernel_rfl) (by kernel_rfl) (by kernel_rfl) (fun _ _ _ h => h) (Or.inl ⟨by rfl, ?_⟩) (by assumption) ?_
            rotate_left
            focus ((intro w hSw; (try dsimp only at hSw); go_simp); try with_reducible rfl)
            (try simp only [Act.put, List.getElem_toArray, List.getElem_cons_zero, List.getElem_cons_succ, List.setIfInBounds_toArray, List.set_cons_zero, List.set_cons_succ])
            refine wpAnyJ_take0 (i := 8) (v := ?_) rfl (by kernel_rfl) (by kernel_rfl) (by kernel_rfl) (fun _ _ _ h => h) (Or.inl ⟨by rfl, ?_⟩) ?_
            rotate_left
            focus ((intro w hSw; clear hSw; go_simp); try with_reducible rfl)
            (try simp only [Act.put, List.getElem_toArray, List.getElem_cons_zero, List.getElem_cons_succ, List.setIfInBounds_toArray, List.set_cons_zero, List.set_cons_succ])
            refine wpAnyJ_done (by kernel_rfl) ?_ _
            refine NoPanic.normal ?_
            go_wp2_with fail
            go_roundw
            case rel => exact ⟨j + 1, by go_num, by omega, Lib.hid ⟨HX.out.1.same (Below.refl _ _).drew, HX.out.2.1.of_heap (fun _ _ => rfl), HX.out.2.2.of_heap (fun _ _ => rfl)⟩⟩
            case measure => simp [intOf]; omega
          · have hjm' : ¬ (j : Int) < m := by omega
            go_wp2_with (first
              | (go_at_call 17; refine (HLA.out _ HX.out.1).mono ?_; clear HLA; rintro e w5 ⟨rfl, rfl⟩)
              | (go_at_call 17; refine (HLB.out _ HX.out.1).mono ?_; clear HLB; rintro e w6 ⟨rfl, rfl⟩)
              | (go_at_call 12; refine (HWE.out _ HX.out.1.bel).mono ?_; clear HWE; rintro e w7 ⟨rfl, h7⟩; have H7 := Lib.hid h7; clear h7))
            exact HQ.out _ H7.out
end Go.Proofs.Ytjoopjmcnkiieaa
