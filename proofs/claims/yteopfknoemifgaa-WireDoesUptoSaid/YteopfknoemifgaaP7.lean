/- Layer 9: the contract of Open. Conditions: the network is there. -/
import Derived.Test.YteopfknoemifgaaP6
namespace Go.Proofs.Yteopfknoemifgaa
open Go.RowKit
set_option linter.unusedSimpArgs false
set_option linter.unusedVariables false

def newLine : Line := { way := [], back := [], cut := false }
def openE (N : List (Option Line)) : Int × Int := if openN N < 16 then ((N.length : Int) + 1, 0) else (0, 8)
def openedN (N : List (Option Line)) : List (Option Line) := if openN N < 16 then N ++ [some newLine] else N

theorem NetX.opened {w w1 w3 : World} {B nb : Nat} {S : Nat → Prop} {N : List (Option Line)} {mb : Nat} {T ad : Nat → Nat} (h : NetX w B nb S N mb T ad) (hb : Below w.heap.size w w1)
    (hm : MapIs w3 KI mb (N.length + 1) (fun y => if y = (N.length : Int) + 1 then some (.pointer (some ⟨w1.heap.size, 0, none⟩)) else netMap N ad y))
    (hg : (((w1.setCell ⟨nb, 0, none⟩ (.int .i64 ((N.length : Int) + 1))).alloc (.cells #[.slice none 0 0, .slice none 0 0, .bool false] 60)).drew).grownBy w3 (some mb)) (hs : w3.heap.size = w1.heap.size + 1) :
    NMoved B nb S (N ++ [some newLine]) w w3 := by
  have hnb := h.bd nb h.snb
  have hmb := h.bd mb h.smb
  have hs1 := hb.size
  have hne : nb ≠ mb := fun e => by have h2 := h.tnb; have h3 := h.tmb; rw [e, h3] at h2; omega
  have hsz : (((w1.setCell ⟨nb, 0, none⟩ (.int .i64 ((N.length : Int) + 1))).alloc (.cells #[.slice none 0 0, .slice none 0 0, .bool false] 60)).drew).heap.size = w1.heap.size + 1 := by
    show ((w1.setCell _ _).alloc _).heap.size = _
    simp [World.setCell]
  have hold : ∀ k, k < w.heap.size → k ≠ nb → k ≠ mb → w3.heap[k]? = w.heap[k]? := fun k hk h1 h2 => by
    rw [hg.block k (by rw [hsz]; omega) (fun e => by injection e with e; exact h2 e)]
    show ((w1.setCell _ _).alloc _).heap[k]? = _
    rw [Below.heap_alloc _ _ _ (by simp [World.setCell]; omega), Below.heap_setCell _ _ _ _ h1, hb.block k hk]
  have hnewl : Block w3 w1.heap.size [.slice none 0 0, .slice none 0 0, .bool false] 60 := by
    have hb3 := Block.new (w1.setCell ⟨nb, 0, none⟩ (.int .i64 ((N.length : Int) + 1))) [.slice none 0 0, .slice none 0 0, .bool false] 60
    rw [show (w1.setCell ⟨nb, 0, none⟩ (.int .i64 ((N.length : Int) + 1))).heap.size = w1.heap.size from by simp [World.setCell]] at hb3
    exact hb3.of_heap (hg.block _ (by rw [hsz]; omega) (fun e => by injection e with e; omega))
  have hnbl : Block w3 nb [.int .i64 ((N.length : Int) + 1), .map (some mb)] 54 := by
    have hb3 : Block ((w1.setCell ⟨nb, 0, none⟩ (.int .i64 ((N.length : Int) + 1))).alloc (.cells #[.slice none 0 0, .slice none 0 0, .bool false] 60)) nb [.int .i64 ((N.length : Int) + 1), .map (some mb)] 54 := by
      have := (h.blk.below hb hnb.2).set 0 (.int .i64 ((N.length : Int) + 1))
      exact this.alloc _
    exact hb3.of_heap (hg.block _ (by rw [hsz]; omega) (fun e => by injection e with e; exact hne e))
  refine ⟨fun k => S k ∨ k = w1.heap.size, ⟨mb, fun k => if k < w.heap.size then T k else N.length + 2, fun i => if i = N.length then w1.heap.size else ad i, ⟨fun k hk => ?_, .inl h.snb, .inl h.smb, ?_, ?_, ?_, ?_, fun j y hy => ?_⟩⟩, fun k hk => ?_, ⟨?_, ?_, ?_, ?_, fun k hk hn => ?_⟩⟩
  · rcases hk with hk | hk
    · have := h.bd k hk; omega
    · omega
  · rw [if_pos hnb.2]; exact h.tnb
  · rw [if_pos hmb.2]; exact h.tmb
  · rw [List.length_append]; exact hnbl
  · rw [List.length_append]
    refine hm.congr fun c _ => ?_
    unfold netMap lineAt
    by_cases hc : 1 ≤ c
    · simp only [hc, if_true]
      by_cases e : c = (N.length : Int) + 1
      · rw [if_pos e, show (c - 1).toNat = N.length from by omega, List.getElem?_append_right (Nat.le_refl _)]
        simp
      · rw [if_neg e]
        by_cases e2 : (c - 1).toNat < N.length
        · rw [List.getElem?_append_left e2]
          have hne2 : (c - 1).toNat ≠ N.length := by omega
          generalize (c - 1).toNat = m at *
          cases N[m]? with
          | none => rfl
          | some o =>
            cases o with
            | none => rfl
            | some y => simp [hne2]
        · rw [List.getElem?_eq_none (by simp; omega), List.getElem?_eq_none (by omega)]
          rfl
    · simp only [hc, if_false]
      rw [if_neg (by omega)]
      rfl
  · by_cases e : j < N.length
    · rw [List.getElem?_append_left e] at hy
      rw [if_neg (by omega)]
      refine (h.line j y hy).of_heap (fun k hk hlt => hold k hlt (fun e1 => by have := hk.2; rw [e1, h.tnb] at this; omega) (fun e1 => by have := hk.2; rw [e1, h.tmb] at this; omega)) fun k hk => ⟨.inl hk.1, ?_⟩
      rw [if_pos (h.bd k hk.1).2]; exact hk.2
    · have hj : j = N.length := by
        have := (List.getElem?_eq_some_iff.1 hy).1; simp at this; omega
      subst hj
      rw [List.getElem?_append_right (Nat.le_refl _)] at hy
      simp at hy; subst hy
      rw [if_pos rfl]
      exact ⟨none, 0, none, 0, hnewl, World.ownsRow_nil _ _ _ _, World.ownsRow_nil _ _ _ _, ⟨.inr rfl, by rw [if_neg (by omega)]⟩, (fun y hy => by cases hy), (fun y hy => by cases hy), (fun y z hy => by cases hy)⟩
  · rcases hk with hk | hk
    · exact .inl hk
    · exact .inr (by omega)
  · exact hg.os.trans hb.os
  · exact hg.tape.trans hb.tape
  · exact hg.output.trans hb.output
  · omega
  · exact hold k hk (fun e => hn (e ▸ h.snb)) (fun e => hn (e ▸ h.smb))

set_option maxHeartbeats 2000000 in
theorem opens_any {w : World} {B nb : Nat} {S : Nat → Prop} {N : List (Option Line)} (h : NetRep w B nb S N) (hz : N.length ≤ 140737488351232) :
    Calls Try.prog 8 #[.pointer (some ⟨nb, 0, none⟩)] w fun e w' => e = .returned (.tuple #[.int .i64 (openE N).1, .int .i64 (openE N).2]) ∧ NMoved B nb S (openedN N) w w' := by
  have HO := Lib.hid (open_any h hz)
  have HS := Lib.hid (fun (w' : World) => NMoved.same (w' := w') h)
  obtain ⟨mb, T, ad, h⟩ := h
  by_cases ho : openN N < 16
  · rw [show openE N = ((N.length : Int) + 1, 0) from if_pos ho, show openedN N = N ++ [some newLine] from if_pos ho]
    obtain ⟨q, hq⟩ : ∃ q, openN N = q := ⟨_, rfl⟩
    have HF := Lib.hid (fun (w1 w3 : World) => h.opened (w1 := w1) (w3 := w3))
    rw [hq] at HO ho
    clear hq
    have ho' : (q : Int) < 16 := by omega
    have HB := Lib.hid h.blk
    have HM := Lib.hid h.map
    have hnb := (h.bd nb h.snb).2
    have HNE : Hid (nb ≠ mb ∧ mb < w.heap.size) := Lib.hid ⟨fun e => by have h2 := h.tnb; have h3 := h.tmb; rw [e, h3] at h2; omega, (h.bd mb h.smb).2⟩
    clear h
    go_enter Try.func8, Try.ntmps8
    go_wp2_with fail
    refine HO.out.mono ?_; rintro e w1 ⟨rfl, hb1⟩
    have HB1 := Lib.hid (HB.out.below hb1 hnb)
    have d0 := HB1.out.cell (i := 0) rfl
    have d1 := HB1.out.cell (i := 1) rfl
    have f0 := HB1.out.free 0
    have HBe := Lib.hid hb1
    have HB2 := Lib.hid (HB1.out.set 0 (.int .i64 ((N.length : Int) + 1)))
    have HM2 : Hid (MapIs (((w1.setCell ⟨nb, 0, none⟩ (.int .i64 ((N.length : Int) + 1))).alloc (.cells #[.slice none 0 0, .slice none 0 0, .bool false] 60)).drew) KI mb N.length (netMap N ad)) :=
      Lib.hid (HM.out.of_heap (by
        show ((w1.setCell _ _).alloc _).heap[mb]? = _
        have h3 := hb1.size; have h4 := HNE.out.2
        rw [Below.heap_alloc _ _ _ (by simp [World.setCell]; omega), Below.heap_setCell _ _ _ _ (fun e => HNE.out.1 e.symm), hb1.block mb HNE.out.2]))
    obtain ⟨w3, hupd, hm3, hg3, hs3⟩ := HM2.out.update Try.underlying52 (by unfold maxLen; omega) (x := (N.length : Int) + 1) (wf_i64 (by omega) (by omega)) (.pointer (some ⟨w1.heap.size, 0, none⟩))
    have hs3' : Hid (w3.heap.size = w1.heap.size + 1) := Lib.hid (by rw [hs3]; show ((w1.setCell _ _).alloc _).heap.size = _; simp [World.setCell])
    have HB3 : Hid (Block w3 nb [.int .i64 ((N.length : Int) + 1), .map (some mb)] 54) := Lib.hid (by
      have := HB2.out.alloc (.cells #[.slice none 0 0, .slice none 0 0, .bool false] 60)
      refine this.of_heap (hg3.block nb this.lt (fun e => by injection e with e; exact HNE.out.1 e))
      )
    have m0 := HB3.out.cell (i := 0) rfl
    have m1 := HB3.out.cell (i := 1) rfl
    have HM3 := Lib.hid hm3
    have HG3 := Lib.hid hg3
    have hi : KI.val ((N.length : Int) + 1) = .int .i64 ((N.length : Int) + 1) := rfl
    rw [hi] at hupd
    have hlt1 := HB1.out.lt
    have hll : (0 : Int) ≤ N.length := by omega
    clear hm3 hg3 hs3 hb1 hi
    go_wp2_with fail
    go_region_held3 (fun u : World => u.cell? ⟨nb, 0, none⟩ = some (.int .i64 ((N.length : Int) + 1)) ∧ u.cell? ⟨nb, 1, none⟩ = some (.map (some mb))) (first | exact ⟨m0, m1⟩ | (go_simp; done) | (constructor <;> go_simp)) (fail)
    all_goals go_wp2_with fail
    all_goals go_ret2
    all_goals exact ⟨rfl, HF.out w1 w3 HBe.out HM3.out HG3.out hs3'.out⟩
  · rw [show openE N = (0, 8) from if_neg ho, show openedN N = N from if_neg ho]
    obtain ⟨q, hq⟩ : ∃ q, openN N = q := ⟨_, rfl⟩
    rw [hq] at HO ho
    clear hq
    have ho' : (16 : Int) ≤ q := by omega
    clear h
    go_enter Try.func8, Try.ntmps8
    go_wp2_with fail
    refine HO.out.mono ?_; rintro e w1 ⟨rfl, hb1⟩
    go_wp2_with fail
    go_ret2
    exact ⟨rfl, HS.out _ hb1⟩
end Go.Proofs.Yteopfknoemifgaa
