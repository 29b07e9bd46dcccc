/- Layer 3: sort.SliceStable of the places of texts, at any number of places, as value.Map calls it. Conditions: the texts and the places lie in memory. -/
import Derived.Test.YtdkgjbjlpofieaaStab
import Derived.Test.YtdkgjbjlpofieaaSymW
namespace Go.Proofs.Ytdkgjbjlpofieaa
open Go.RowKit Go.Shelf Go.Lib Go.Sort
set_option linter.unusedSimpArgs false
set_option linter.unusedVariables false
set_option maxRecDepth 100000

theorem kept_sortWorld {α : Type} [Inhabited α] (enc : α → Value) (w : World) (blk off m : Nat) (d : Array α) (os : Array Obj) : Kept [blk] w (sortWorld enc w blk off m d os) := by
  refine ⟨rfl, rfl, rfl, by unfold sortWorld; simp, fun k hk hn => ?_⟩
  unfold sortWorld grow putRow mapBlock
  show ((w.heap.modify blk _) ++ os)[k]? = _
  rw [Array.getElem?_append_left (by simpa using hk), Array.getElem?_modify, if_neg (by intro e; subst e; simp at hn)]
theorem ins_any {α : Type} [Inhabited α] {enc : α → Value} {lt : α → α → Bool} {g : Nat} {lb : Array Value} {sf : Nat} {sb : Array Value} {blk off N : Nat} {w0 : World} (H : SC enc lt g lb sf sb blk off N w0) : InsSaid enc lt g lb sf sb blk off N w0 := by
  intro dk w a b hw hs hab hb
  have hN := H.sml
  have h := Any.insertionSort_func_w (({ laysGt8 with } : LaysGt.n29 Try.prog laysGt8_ren).elder) enc lt g lb sf sb blk off a b dk w H.eg (by rw [hs]; exact hw.lessReads H.les H.blt hs) (by rw [hs]; exact H.sws) (H.holds hw hs) (hw.lt H.blt) hab (by omega) (by omega)
  refine Calls.mono h ?_
  rintro e w' ⟨rfl, n, os, rfl⟩
  obtain ⟨p1, p2⟩ := insertionSort_holds H.swo dk a b hab (by omega)
  exact ⟨rfl, _, p1, p2, ⟨hw.on H.blt n _ os p1.1, kept_sortWorld _ _ _ _ _ _ _⟩⟩
set_option maxHeartbeats 4000000 in
theorem stable_big (n : Nat) (h2 : 2 ≤ n) (hn20 : n ≤ 1048576) : StableSaid n := by
  intro ks ka kc B nb ab blk w hn hK hB hnb hab hne hae hcn hca hW
  haveI : Inhabited (Fin n) := ⟨⟨0, by omega⟩⟩
  obtain ⟨d, hd, hdv⟩ : ∃ d : Array (Fin n), d.size = n ∧ d.toList.map (fun x => x.val) = List.range n := ⟨Array.ofFn id, by simp, by
    apply List.ext_getElem?
    intro k
    by_cases hk : k < n
    · simp [hk]
    · simp [hk]⟩
  have hdg : ∀ t, t < n → encF n d[t]! = Value.int .i64 (t : Int) := fun t ht => by
    have h := congrArg (fun l => l[t]?) hdv
    simp only [List.getElem?_map, List.getElem?_range ht, Array.getElem?_toList, Array.getElem?_eq_getElem (show t < d.size by omega), Option.map_some] at h
    rw [getElem!_pos d t (by omega)]
    unfold encF
    injection h with h
    rw [h]
  have hH : Holds (encF n) w blk 0 d := fun j hj => ⟨by rw [Nat.zero_add, hdg j (by omega)]; exact hW.cell (by rw [List.getElem?_map, List.getElem?_range (by omega)]; rfl), hW.free _⟩
  have hless := less_reads n ks ka kc B nb ab blk w d hd hn hK hB hnb hab hne hae hcn hca hH hW.lt (by omega)
  have hsb : sliceBound Try.prog 3 siE 2 (some ⟨blk, 0, none⟩) n n = #[.slice (some ⟨blk, 0, none⟩) n n, typeHandle Try.prog 3] := by
    unfold sliceBound; rw [if_neg (swapperK_gt _ _ _ h2)]
  have hsw : SwapSwaps Try.prog 67 #[.slice (some ⟨blk, 0, none⟩) n n, typeHandle Try.prog 3] (encF n) blk 0 n :=
    swapSwaps_of_literal true 67 (fun args W => run_callFunc_extern Try.func67 (by kernel_rfl) (by kernel_rfl) (by kernel_rfl) (e := Extern.ReflectliteSwapper.swap true) (by kernel_rfl) args W) 3 siE (by kernel_rfl) (by kernel_rfl) (fun _ => by kernel_rfl) (encF n) (fun _ => rfl) blk 0 n n
  have H : SC (encF n) (ltF n ks) 31 #[.pointer (some ⟨nb, 0, none⟩), .pointer (some ⟨ab, 0, none⟩)] 67 #[.slice (some ⟨blk, 0, none⟩) n n, typeHandle Try.prog 3] blk 0 n w :=
    ⟨hW.lt, ⟨d, hd, hH⟩, hless, hsw, enters_of Try.func31 (by kernel_rfl) rfl, by omega, swo_at (fun i : Fin n => ks.getD i.val ⟨#[]⟩)⟩
  have hst : SW (encF n) w blk 0 d (stableWorld Try.prog laysGt8_ren 46 (some ⟨blk, 0, none⟩) n n w) := ((SW.start hH).alloc _).alloc _
  have hS := Any.sort_SliceStable_of_stable laysGt8 46 3 siT siE (by kernel_rfl) (by kernel_rfl) (by kernel_rfl) (by kernel_rfl) 2 (fun _ => by kernel_rfl) (some ⟨blk, 0, none⟩) n n (by omega) 67 (by rw [siK _ (by omega)]; kernel_rfl) (.func 31) #[] #[.pointer (some ⟨nb, 0, none⟩), .pointer (some ⟨ab, 0, none⟩)] w
    (fun w' => ∃ (d' : Array (Fin n)) (m : Nat) (os : Array Obj), PermIn 0 n d d' ∧ SortedIn (ltF n ks) 0 n d' ∧ w' = sortWorld (encF n) w blk 0 m d' os) (by
      rw [hsb]
      refine Calls.mono (stable_any H (ins_any H) d _ hst hd) ?_
      rintro e w' ⟨rfl, d', hp, hs, hk⟩
      obtain ⟨m, os, rfl⟩ := hk.sw
      exact ⟨rfl, d', m, os, hp, hs, rfl⟩)
  refine Calls.mono hS ?_
  rintro e w' ⟨rfl, d', m, os, hP, hSo, rfl⟩
  exact sorted_of n ks blk m w d d' os hd hdv hW hP hSo
theorem grow_block {w : World} {b : Nat} {cur : List Value} {t : TypeId} (h : Block w b cur t) (os : Array Obj) : Block (Sort.grow w os) b cur t := by
  have hlt := h.lt
  unfold Block at h ⊢
  show (w.heap ++ os)[b]? = _
  rw [Array.getElem?_append_left hlt]; exact h
theorem grow_kept (w : World) (blk : Nat) (os : Array Obj) : Kept [blk] w (Sort.grow w os) := by
  refine ⟨rfl, rfl, rfl, by show w.heap.size ≤ (w.heap ++ os).size; simp, fun k hk _ => ?_⟩
  show (w.heap ++ os)[k]? = _
  rw [Array.getElem?_append_left hk]
theorem stable_none : StableSaid 0 := by
  intro ks ka kc B nb ab blk w hn hK hB hnb hab hne hae hcn hca hW
  refine Calls.mono (Any.sort_SliceStable_tiny laysGt8 46 3 siT siE (by kernel_rfl) (by kernel_rfl) (by kernel_rfl) (by kernel_rfl) 2 (fun _ => by kernel_rfl) (some ⟨blk, 0, none⟩) 0 0 (by omega) 63 (by kernel_rfl) (.func 31) #[] #[.pointer (some ⟨nb, 0, none⟩), .pointer (some ⟨ab, 0, none⟩)] w) ?_
  rintro e w' ⟨rfl, os, rfl⟩
  exact ⟨rfl, [], List.Perm.refl _, fun i j h1 h2 => by omega, grow_block hW os, grow_kept w blk os⟩
theorem stable_one : StableSaid 1 := by
  intro ks ka kc B nb ab blk w hn hK hB hnb hab hne hae hcn hca hW
  refine Calls.mono (Any.sort_SliceStable_tiny laysGt8 46 3 siT siE (by kernel_rfl) (by kernel_rfl) (by kernel_rfl) (by kernel_rfl) 2 (fun _ => by kernel_rfl) (some ⟨blk, 0, none⟩) 1 1 (by omega) 64 (by kernel_rfl) (.func 31) #[] #[.pointer (some ⟨nb, 0, none⟩), .pointer (some ⟨ab, 0, none⟩)] w) ?_
  rintro e w' ⟨rfl, os, rfl⟩
  exact ⟨rfl, [0], List.Perm.refl _, fun i j h1 h2 => by omega, grow_block hW os, grow_kept w blk os⟩
theorem stable_all (n : Nat) (hn : n ≤ 1048576) : StableSaid n := by
  rcases Nat.lt_or_ge n 2 with h | h
  · have : n = 0 ∨ n = 1 := by omega
    rcases this with rfl | rfl
    · exact stable_none
    · exact stable_one
  · exact stable_big n h hn
end Go.Proofs.Ytdkgjbjlpofieaa
