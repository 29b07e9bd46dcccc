/- Layer 3: sort.SliceStable of the places of texts, at 20 places or fewer, as value.Map calls it. Conditions: the texts and the places lie in memory. -/
import Derived.Test.YtdkgjbjlpofieaaCopy
import Derived.Test.YtdkgjbjlpofieaaStabL
import Derived.Deep.QuietTactic
namespace Go.Proofs.Ytdkgjbjlpofieaa
open Go.RowKit Go.Shelf Go.Lib Go.Sort
set_option linter.unusedSimpArgs false
set_option linter.unusedVariables false

def ltS (x y : ByteArray) : Bool := Op.bytesLess x.toList y.toList
theorem bl_trans : ∀ x y z : List UInt8, Op.bytesLess x y = true → Op.bytesLess y z = true → Op.bytesLess x z = true
  | [], y, [], _, h => by cases y <;> simp [Op.bytesLess] at h
  | [], y, c :: z, _, _ => rfl
  | a :: x, [], z, h, _ => by simp [Op.bytesLess] at h
  | a :: x, b :: y, [], _, h => by simp [Op.bytesLess] at h
  | a :: x, b :: y, c :: z, h1, h2 => by
    have hs : ∀ (c d : UInt8) u v, Op.bytesLess (c :: u) (d :: v) = (decide (c < d) || (c == d && Op.bytesLess u v)) := fun _ _ _ _ => rfl
    rw [hs] at h1 h2 ⊢
    simp only [Bool.or_eq_true, Bool.and_eq_true, decide_eq_true_eq, beq_iff_eq] at h1 h2 ⊢
    rcases h1 with h1 | ⟨rfl, h1⟩
    · rcases h2 with h2 | ⟨rfl, h2⟩
      · exact .inl (by rw [UInt8.lt_iff_toNat_lt] at *; omega)
      · exact .inl h1
    · rcases h2 with h2 | ⟨rfl, h2⟩
      · exact .inl h2
      · exact .inr ⟨rfl, bl_trans x y z h1 h2⟩
theorem swo_at {α : Type} (f : α → ByteArray) : SWO (fun i j => ltS (f i) (f j)) where
  irrefl x := by rcases bl_tri (f x).toList (f x).toList with ⟨h, h', _⟩ | ⟨_, h, _⟩ | ⟨h, h', _⟩ <;> (unfold ltS; simp_all)
  trans x y z h1 h2 := bl_trans _ _ _ h1 h2
  ntrans x y z h1 h2 := by
    unfold ltS at *
    rcases bl_tri (f x).toList (f y).toList with ⟨h, _⟩ | ⟨h, _⟩ | ⟨h, _⟩
    · rw [h] at h1; cases h1
    · rw [h]; exact h2
    · rcases bl_tri (f y).toList (f z).toList with ⟨k, _⟩ | ⟨k, _⟩ | ⟨k, _⟩
      · rw [k] at h2; cases h2
      · rw [← k]; exact h1
      · have h3 := bl_trans _ _ _ k h
        rcases bl_tri (f x).toList (f z).toList with ⟨g, g2, _⟩ | ⟨_, g, _⟩ | ⟨_, g, _⟩
        · rw [h3] at g2; cases g2
        · exact g
        · exact g
set_option maxHeartbeats 2000000 in
/-- The closure that value.Map sorts by. -/
theorem less_any (n : Nat) (ks : List ByteArray) (ka : Option Addr) (kc B nb ab blk p q : Nat) (w : World) (i j : Nat) (x y : ByteArray) (hK : StrRow B w ka ks) (hn : ks.length = n)
    (hcn : w.cell? ⟨nb, 0, none⟩ = some (.slice ka n kc)) (hca : w.cell? ⟨ab, 0, none⟩ = some (.slice (some ⟨blk, 0, none⟩) n n)) (hi : i < n) (hj : j < n) (hp : p < n) (hq : q < n) (hn62 : n ≤ 1099511627776)
    (hci : w.cell? ⟨blk, i, none⟩ = some (.int .i64 p)) (hcj : w.cell? ⟨blk, j, none⟩ = some (.int .i64 q)) (hx : ks[p]? = some x) (hy : ks[q]? = some y) :
    Calls Try.prog 31 #[.int .i64 i, .int .i64 j, .pointer (some ⟨nb, 0, none⟩), .pointer (some ⟨ab, 0, none⟩)] w fun e w' => e = .returned (.bool (ltS x y)) ∧ ∃ m, w' = w.drewN m := by
  obtain ⟨b, off, rfl, hb, hcp⟩ := hK.get hx
  obtain ⟨b', off', hbb, hb', hcq⟩ := hK.get hy
  injection hbb with hbb
  injection hbb with e1 e2
  subst e1 e2
  have hi' : (i : Int) < n := by omega
  have hj' : (j : Int) < n := by omega
  have hp' : (p : Int) < n := by omega
  have hq' : (q : Int) < n := by omega
  clear hK hx hy
  go_enter Try.func31, Try.ntmps31
  go_wp2
  go_quiet (fail)
  go_wp2
  go_ret
  exact ⟨rfl, nq, rfl⟩

/-- What the sort leaves: the places in an order in which no text is less than one ahead of it. -/
def SortedP (n : Nat) (ks : List ByteArray) (blk : Nat) (w : World) (e : Ending) (w' : World) : Prop :=
  e = .returned (.tuple #[]) ∧ ∃ L : List Nat, L.Perm (List.range n) ∧ (∀ (i j : Nat), i < j → j < n → ltS (ks.getD (L.getD j 0) ⟨#[]⟩) (ks.getD (L.getD i 0) ⟨#[]⟩) = false) ∧
    Block w' blk (L.map fun x : Nat => Value.int .i64 (x : Int)) 3 ∧ Kept [blk] w w'
def StableSaid (n : Nat) : Prop := ∀ (ks : List ByteArray) (ka : Option Addr) (kc B nb ab blk : Nat) (w : World), ks.length = n → StrRow B w ka ks → B ≤ blk → nb < w.heap.size → ab < w.heap.size → nb ≠ blk → ab ≠ blk →
    w.cell? ⟨nb, 0, none⟩ = some (.slice ka n kc) → w.cell? ⟨ab, 0, none⟩ = some (.slice (some ⟨blk, 0, none⟩) n n) → Block w blk ((List.range n).map fun x : Nat => Value.int .i64 (x : Int)) 3 →
    Calls Try.prog 30 #[.iface 46 (.slice (some ⟨blk, 0, none⟩) n n), .func (.func 31) #[] #[.pointer (some ⟨nb, 0, none⟩), .pointer (some ⟨ab, 0, none⟩)]] w (SortedP n ks blk w)
noncomputable def siT : TypeInfo := (Try.prog.info? 46).get (by kernel_rfl)
noncomputable def siE : TypeInfo := (Try.prog.info? 3).get (by kernel_rfl)
theorem siK (n : Nat) (h2 : 2 ≤ n) : Lib.swapperK n siE 2 = 5 := by
  have a : siE.hasPointers = false := by kernel_rfl
  have b : siE.bytes = 8 := by kernel_rfl
  have c : (n == 0) = false := by simp; omega
  have d : (n == 1) = false := by simp; omega
  simp [Lib.swapperK, a, b, c, d]
/-- The texts' order at places. -/
def ltF (n : Nat) (ks : List ByteArray) (i j : Fin n) : Bool := ltS (ks.getD i.val ⟨#[]⟩) (ks.getD j.val ⟨#[]⟩)
def encF (n : Nat) (i : Fin n) : Value := .int .i64 ((i.val : Nat) : Int)
theorem other_sortWorld {n : Nat} [Inhabited (Fin n)] (w : World) (blk m : Nat) (dk : Array (Fin n)) (os : Array Obj) (a : Addr) (h1 : a.block < w.heap.size) (h2 : a.block ≠ blk) : (sortWorld (encF n) w blk 0 m dk os).cell? a = w.cell? a := by
  unfold sortWorld
  rw [cell?_grow _ _ _ (by simpa using h1), cell?_putRow_other _ _ _ _ _ _ (.inl h2), cell?_ahead]
/-- The closure, in every world that the sort passes through. -/
theorem less_reads (n : Nat) [Inhabited (Fin n)] (ks : List ByteArray) (ka : Option Addr) (kc B nb ab blk : Nat) (w : World) (d : Array (Fin n)) (hd : d.size = n) (hn : ks.length = n) (hK : StrRow B w ka ks) (hB : B ≤ blk) (hnb : nb < w.heap.size) (hab : ab < w.heap.size) (hne : nb ≠ blk) (hae : ab ≠ blk)
    (hcn : w.cell? ⟨nb, 0, none⟩ = some (.slice ka n kc)) (hca : w.cell? ⟨ab, 0, none⟩ = some (.slice (some ⟨blk, 0, none⟩) n n)) (hH : Holds (encF n) w blk 0 d) (hblk : blk < w.heap.size) (hn62 : n ≤ 1099511627776) :
    LessReads Try.prog 31 #[.pointer (some ⟨nb, 0, none⟩), .pointer (some ⟨ab, 0, none⟩)] (encF n) (ltF n ks) blk 0 n w := by
  intro m os dk hs i j hi hj
  have hcell : ∀ t, t < n → (sortWorld (encF n) w blk 0 m dk os).cell? ⟨blk, t, none⟩ = some (encF n dk[t]!) := fun t ht => by
    have := cell?_putRow (encF n) (Sort.ahead w m) blk 0 d dk (holds_ahead _ _ _ _ _ _ hH) (by omega) t (by omega)
    unfold sortWorld
    rw [cell?_grow _ _ _ (by simpa using hblk)]
    rwa [Nat.zero_add] at this
  have hg : ∀ p : Fin n, ks[p.val]? = some (ks.getD p.val ⟨#[]⟩) := fun p => by
    have h := p.isLt
    rw [List.getD_eq_getElem?_getD, List.getElem?_eq_getElem (by omega)]
    rfl
  have hK' : StrRow B (sortWorld (encF n) w blk 0 m dk os) ka ks := by
    rcases hK with h | ⟨b, off, h1, h2, h3⟩
    · exact .inl h
    · exact .inr ⟨b, off, h1, h2, fun i v hi => by rw [other_sortWorld _ _ _ _ _ _ (by show b < _; omega) (by show b ≠ _; omega)]; exact h3 i v hi⟩
  exact less_any n ks ka kc B nb ab blk _ _ _ i j _ _ hK' hn (by rw [other_sortWorld _ _ _ _ _ _ hnb hne]; exact hcn) (by rw [other_sortWorld _ _ _ _ _ _ hab hae]; exact hca) hi hj (dk[i]!).isLt (dk[j]!).isLt hn62 (hcell i hi) (hcell j hj) (hg _) (hg _)
/-- What the sort's world is, in plain words. -/
theorem sorted_of (n : Nat) [Inhabited (Fin n)] (ks : List ByteArray) (blk m : Nat) (w : World) (d d' : Array (Fin n)) (os : Array Obj) (hd : d.size = n) (hdv : d.toList.map (fun x => x.val) = List.range n) (hW : Block w blk ((List.range n).map fun x : Nat => Value.int .i64 (x : Int)) 3)
    (hP : PermIn 0 n d d') (hS : SortedIn (ltF n ks) 0 n d') : SortedP n ks blk w (.returned (.tuple #[])) (sortWorld (encF n) w blk 0 m d' os) := by
  obtain ⟨h1, h2, h3⟩ := hP
  have hd' : d'.size = n := by omega
  have he : ∀ x : Array (Fin n), x.size = n → (x.extract 0 n).toList = x.toList := fun x hx => by rw [show x.extract 0 n = x.extract 0 x.size by rw [hx]]; simp
  rw [he _ hd', he _ hd] at h3
  refine ⟨rfl, d'.toList.map (fun x => x.val), ?_, ?_, ?_, ?_⟩
  · rw [← hdv]; exact h3.map _
  · intro i j hij hj
    have h := hS i j (Nat.zero_le _) hij hj
    have hg : ∀ t, t < n → (d'.toList.map (fun x => x.val)).getD t 0 = (d'[t]!).val := fun t ht => by
      have ht2 : t < d'.size := by omega
      rw [List.getD_eq_getElem?_getD, List.getElem?_map, Array.getElem?_toList, Array.getElem?_eq_getElem ht2, getElem!_pos d' t ht2]
      rfl
    rw [hg i (by omega), hg j hj]
    exact h
  · have hlt := hW.lt
    unfold Block at hW ⊢
    have hw' : w.heap[blk] = .cells ((List.range n).map fun x : Nat => Value.int .i64 (x : Int)).toArray 3 (0, 0) := by simpa [Array.getElem?_eq_getElem hlt] using hW
    unfold sortWorld grow putRow mapBlock
    show ((w.heap.modify blk _) ++ os)[blk]? = _
    rw [Array.getElem?_append_left (by simpa using hlt), Array.getElem?_eq_getElem (by simpa using hlt), Array.getElem_modify_self, hw']
    simp only [onCells]
    congr 2
    apply Array.ext_getElem?
    intro k
    simp only [putCells, Array.getElem?_mapIdx, List.getElem?_toArray, List.getElem?_map]
    by_cases hk : k < n
    · rw [List.getElem?_range hk, Array.getElem?_toList, Array.getElem?_eq_getElem (show k < d'.size by omega)]
      simp only [Option.map_some]
      rw [if_pos ⟨Nat.zero_le _, by omega⟩, Nat.sub_zero, getElem!_pos d' k (by omega)]
      rfl
    · rw [List.getElem?_eq_none (by simp; omega), Array.getElem?_toList, Array.getElem?_eq_none (by omega)]
      rfl
  · refine ⟨rfl, rfl, rfl, by unfold sortWorld; simp, fun k hk hn => ?_⟩
    unfold sortWorld grow putRow mapBlock
    show ((w.heap.modify blk _) ++ os)[k]? = _
    rw [Array.getElem?_append_left (by simpa using hk), Array.getElem?_modify, if_neg (by intro e; subst e; simp at hn)]
set_option maxRecDepth 100000 in
set_option maxHeartbeats 2000000 in
theorem stable_small (n : Nat) (h2 : 2 ≤ n) (h20 : n ≤ 20) : StableSaid n := by
  intro ks ka kc B nb ab blk w hn hK hB hnb hab hne hae hcn hca hW
  haveI : Inhabited (Fin n) := ⟨⟨0, by omega⟩⟩
  obtain ⟨d, hd, hdv⟩ : ∃ d : Array (Fin n), d.size = n ∧ d.toList.map (fun x => x.val) = List.range n := ⟨Array.ofFn id, by simp, by
    apply List.ext_getElem?
    intro k
    by_cases hk : k < n
    · simp [hk]
    · simp [hk]⟩
  have hdg : ∀ t, t < n → encF n d[t]! = Value.int .i64 (t : Int) := fun t ht => by
    have h := congrArg (fun l => l[t]?) hdv
    simp only [List.getElem?_map, List.getElem?_range ht, Array.getElem?_toList, Array.getElem?_eq_getElem (show t < d.size by omega), Option.map_some] at h
    rw [getElem!_pos d t (by omega)]
    unfold encF
    injection h with h
    rw [h]
  have hH : Holds (encF n) w blk 0 d := fun j hj => ⟨by rw [Nat.zero_add, hdg j (by omega)]; exact hW.cell (by rw [List.getElem?_map, List.getElem?_range (by omega)]; rfl), hW.free _⟩
  have hless := less_reads n ks ka kc B nb ab blk w d hd hn hK hB hnb hab hne hae hcn hca hH hW.lt (by omega)
  have hS := Any.sort_SliceStable_small_sorted laysGt8 46 3 siT siE (by kernel_rfl) (by kernel_rfl) (by kernel_rfl) (by kernel_rfl) 2 (fun _ => by kernel_rfl) (by kernel_rfl) (fun _ => by kernel_rfl) (encF n) (fun _ => rfl) (ltF n ks) (swo_at (fun i : Fin n => ks.getD i.val ⟨#[]⟩)) 31 _
    (enters_of Try.func31 (by kernel_rfl) rfl) blk 0 n d (by omega) (by omega) 67 (by rw [siK _ (by omega)]; kernel_rfl) true
    (fun args W => run_callFunc_extern Try.func67 (by kernel_rfl) (by kernel_rfl) (by kernel_rfl) (e := Extern.ReflectliteSwapper.swap true) (by kernel_rfl) args W) w (by rw [hd]; exact hless) hH hW.lt
  rw [hd] at hS
  refine Calls.mono hS ?_
  rintro e w' ⟨rfl, d', m, os, hP, hSo, rfl⟩
  exact sorted_of n ks blk m w d d' os hd hdv hW hP hSo
end Go.Proofs.Ytdkgjbjlpofieaa
