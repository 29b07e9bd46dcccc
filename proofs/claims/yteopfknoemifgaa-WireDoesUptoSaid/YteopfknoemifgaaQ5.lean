/- Layer 9: the reference's Open. Conditions: the network is there. -/
import Derived.Test.YteopfknoemifgaaQ4
import Derived.Test.YteopfknoemifgaaP7
namespace Go.Proofs.Yteopfknoemifgaa
open Go.RowKit
set_option linter.unusedSimpArgs false
set_option linter.unusedVariables false

theorem Try.infoL : (Try.prog.info? 66).map (fun i => (i.zero, i.size, i.bytes)) = some (some (.agg #[.bool false, .slice none 0 0, .slice none 0 0, .bool false]), 4, 64) := by kernel_rfl
def newZn : Zn := ⟨true, newLine, .slice none 0 0, .slice none 0 0⟩
theorem RefX.push {w w3 : World} {B P g cap : Nat} {S : Nat → Prop} {T : Nat → Nat} {lv : Value} {zs : List Zn} {X : Obj} {N : List (Option Line)} (h : RefX w B P S T lv zs) (hN : zs.map absN = N)
    (hown : w3.ownsRow B 66 4 (.slice (some ⟨g, 0, none⟩) (zs.length + 1) cap) (zs.length + 1) (zs.flatMap cellsN ++ cellsN newZn))
    (hg : (w.alloc X).grownBy w3 lv.ownBlock) (hat : lv.ownBlock = some g ∨ g = w.heap.size + 1) :
    RMoved B P S (N ++ [some newLine]) w (w3.setCell ⟨P, 0, none⟩ (.slice (some ⟨g, 0, none⟩) (zs.length + 1) cap)) := by
  have hPl := h.blk.lt
  have hB : B ≤ w.heap.size := by have := h.bd P h.sP; omega
  have hz3 : w.heap.size + 1 ≤ w3.heap.size := by have := hg.size; simpa using this
  have hLP : ∀ b, lv.ownBlock = some b → b ≠ P := fun b e e2 => by have h1 := (h.sl b e).2; rw [e2, h.tP] at h1; omega
  have hgP : g ≠ P := by
    rcases hat with e | e
    · exact hLP g e
    · omega
  have hk : ∀ b, b < w.heap.size → lv.ownBlock ≠ some b → w3.heap[b]? = w.heap[b]? := fun b hb hn => by
    rw [hg.block b (by simp; omega) (fun e => hn e.symm), Below.heap_alloc _ _ _ hb]
  have hsc : ∀ b, b ≠ P → (w3.setCell ⟨P, 0, none⟩ (.slice (some ⟨g, 0, none⟩) (zs.length + 1) cap)).heap[b]? = w3.heap[b]? := fun b hb => Below.heap_setCell _ _ _ _ hb
  have hsz : (w3.setCell ⟨P, 0, none⟩ (.slice (some ⟨g, 0, none⟩) (zs.length + 1) cap)).heap.size = w3.heap.size := by simp [World.setCell]
  have hgl : g < w3.heap.size := (hown.lt g rfl).2
  have hkept : KeptP S w w3 := ⟨hg.os, hg.tape, hg.output, by omega, fun k hk2 hn => hk k hk2 (fun e => hn (h.sl k e).1)⟩
  refine ⟨fun k => S k ∨ w.heap.size ≤ k ∧ k < w3.heap.size, ⟨fun k => if k < w.heap.size then T k else 1, .slice (some ⟨g, 0, none⟩) (zs.length + 1) cap, zs ++ [newZn], ⟨fun k hk => ?_, .inl h.sP, ?_, ?_, ?_, fun b e => ?_, fun j z hz => ?_⟩, by rw [List.map_append, hN]; rfl⟩, fun k hk => hk.imp_right (fun h => h.1), hkept.setCell (.inl h.sP) _⟩
  · rw [hsz]
    rcases hk with hk | hk
    · have := h.bd k hk; omega
    · omega
  · rw [if_pos hPl]; exact h.tP
  · exact (h.blk.of_heap (hk P hPl (fun e => hLP P e rfl))).set 0 _
  · rw [List.length_append, List.flatMap_append]
    refine own_setCell ?_ (fun e => hgP (by injection e)) _
    simpa using hown
  · obtain rfl : g = b := by injection e
    rcases hat with e2 | e2
    · exact ⟨.inl (h.sl _ e2).1, by rw [if_pos (h.bd _ (h.sl _ e2).1).2]; exact (h.sl _ e2).2⟩
    · exact ⟨.inr ⟨by omega, hgl⟩, by rw [if_neg (by omega)]⟩
  · by_cases hj : j < zs.length
    · rw [List.getElem?_append_left hj] at hz
      have hold : ∀ t u l, t ≠ 0 → t ≠ 1 → Win w (fun k => S k ∧ T k = t) u l → Win (w3.setCell ⟨P, 0, none⟩ (.slice (some ⟨g, 0, none⟩) (zs.length + 1) cap)) (fun k => (S k ∨ w.heap.size ≤ k ∧ k < w3.heap.size) ∧ (if k < w.heap.size then T k else 1) = t) u l := fun t u l ht1 ht2 hw => by
        refine hw.same fun k hk2 hlt => ⟨?_, .inl hk2.1, by rw [if_pos hlt]; exact hk2.2⟩
        rw [hsc k (fun e => ht1 (by rw [← hk2.2, e, h.tP])), hk k hlt (fun e => ht2 (by rw [← hk2.2, (h.sl k e).2]))]
      exact ⟨hold _ _ _ (by omega) (by omega) (h.win j z hz).1, hold _ _ _ (by omega) (by omega) (h.win j z hz).2⟩
    · have hj2 : j = zs.length := by have := (List.getElem?_eq_some_iff.1 hz).1; simp at this; omega
      subst hj2
      rw [List.getElem?_append_right (Nat.le_refl _)] at hz
      simp at hz
      subst hz
      exact ⟨Win.nil, Win.nil⟩
theorem new_block (w : World) (cs : List Value) (t : TypeId) : Block (w.alloc (.cells cs.toArray t)) w.heap.size cs t := Block.new w cs t
theorem countP_range_succ (p : Nat → Bool) (j : Nat) : (List.range (j + 1)).countP p = (List.range j).countP p + (if p j = true then 1 else 0) := by
  rw [List.range_succ, List.countP_append]; simp [List.countP_cons]

set_option maxRecDepth 100000 in
set_option maxHeartbeats 4000000 in
theorem ropens_any {w : World} {B P : Nat} {S : Nat → Prop} {N : List (Option Line)} (h : RefRep w B P S N) (hn : N.length ≤ 1000000) :
    Calls Try.prog 26 #[.pointer (some ⟨P, 0, none⟩)] w fun e w' => e = .returned (.tuple #[.int .i64 (openE N).1, .int .i64 (openE N).2]) ∧ RMoved B P S (openedN N) w w' := by
  have HS := Lib.hid (RMoved.same h (Below.refl _ w))
  obtain ⟨T, lv, zs, h, hN⟩ := h
  have hlen : zs.length = N.length := by rw [← hN, List.length_map]
  obtain ⟨a, cp, hv⟩ := own_form h.row
  subst hv
  have d0 := h.blk.cell (i := 0) rfl
  have f0 := h.blk.free 0
  have HH := Lib.hid h
  have HN := Lib.hid hN
  have hPl := h.blk.lt
  have hBl : B ≤ w.heap.size := by have := h.bd P h.sP; omega
  have hLP : (Value.slice a zs.length cp).ownBlock ≠ some P := fun e => by have h1 := (h.sl P e).2; rw [h.tP] at h1; omega
  obtain ⟨n, hzn⟩ : ∃ n, zs.length = n := ⟨_, rfl⟩
  have HZN := Lib.hid hzn
  have HNL : Hid (N.length = n) := Lib.hid (by omega)
  rw [hzn] at d0 hLP
  have hn1 : n ≤ 1000000 := by omega
  obtain ⟨Q, hQ⟩ : ∃ Q : Ending → World → Prop, (fun e w' => e = .returned (.tuple #[.int .i64 (openE N).1, .int .i64 (openE N).2]) ∧ RMoved B P S (openedN N) w w') = Q := ⟨_, rfl⟩
  rw [hQ]
  have HQ := Lib.hid hQ
  have HAT : Hid (∀ (j : Nat) (z : Zn), zs[j]? = some z → isOpenAt N j = (z.is && (!z.x.cut || !z.x.way.isEmpty))) := Lib.hid (fun j z hz => by
    unfold isOpenAt
    rw [← HN.out, List.getElem?_map, hz]
    unfold absN Line.isOpen
    cases hi : z.is <;> simp [hi])
  clear h hN hlen hzn hQ hn
  go_enter Try.func26, Try.ntmps26
  go_wp2_with fail
  go_loopw [4, 5] (fun kv jv wr => ∃ (j k : Nat), jv = .int .i64 j ∧ kv = .int .i64 k ∧ j ≤ n ∧ k ≤ j ∧ wr = w ∧ Hid (k = (List.range j).countP (isOpenAt N))) (fun _ jv _ => n - (intOf jv).toNat)
  case atStart => exact ⟨0, 0, rfl, rfl, Nat.zero_le _, Nat.le_refl _, rfl, Lib.hid rfl⟩
  case round =>
    obtain ⟨j, k, rfl, rfl, hj, hkj, rfl, HK⟩ := hrel
    by_cases hlt : j < n
    · have hlt' : (j : Int) < n := by omega
      have hj0 : (0 : Int) ≤ (j : Int) := by omega
      obtain ⟨z, hz⟩ : ∃ z, zs[j]? = some z := ⟨_, List.getElem?_eq_getElem (by have := HZN.out; omega)⟩
      obtain ⟨g, c', hac, hg, hgP, hc, _⟩ := HH.out.cell hz
      injection hac with e1 e2 e3
      subst e1
      clear e2 e3
      have y0 := hc 0 _ rfl
      rw [Nat.add_zero] at y0
      have y1 := hc 1 _ rfl
      have y3 := hc 3 _ rfl
      obtain ⟨a1, c1, hv1⟩ := (HH.out.win j z hz).1.form
      rw [hv1] at y1
      have HST : Hid ((List.range (j + 1)).countP (isOpenAt N) = k + (if (z.is && (!z.x.cut || !z.x.way.isEmpty)) = true then 1 else 0)) := Lib.hid (by rw [countP_range_succ, ← HK.out, HAT.out j z hz])
      have HE : Hid (z.x.way.isEmpty = decide (z.x.way.length = 0)) := Lib.hid (by cases z.x.way <;> simp)
      rw [HE.out] at HST
      generalize z.x.way.length = wl at *
      generalize z.x.cut = cu at *
      generalize z.is = zi at *
      clear hz hc hv1 HE
      cases zi with
      | false =>
        have HF : Hid (k = (List.range (j + 1)).countP (isOpenAt N)) := Lib.hid (by rw [HST.out]; simp)
        clear HST
        go_wp2_with fail
        go_roundw
        case rel => exact ⟨j + 1, k, by go_num, rfl, by omega, by omega, (by first | exact trivial | rfl), HF⟩
        case measure => simp [intOf]; omega
      | true =>
        have k63 : (k : Int) ≤ 1000000 := by omega
        cases cu with
        | false =>
          have HF : Hid (k + 1 = (List.range (j + 1)).countP (isOpenAt N)) := Lib.hid (by rw [HST.out]; simp)
          clear HST
          go_wp2_with fail
          go_roundw
          case rel => exact ⟨j + 1, k + 1, by go_num, by go_num, by omega, by omega, (by first | exact trivial | rfl), HF⟩
          case measure => simp [intOf]; omega
        | true =>
          by_cases hw0 : wl = 0
          · subst hw0
            have HF : Hid (k = (List.range (j + 1)).countP (isOpenAt N)) := Lib.hid (by rw [HST.out]; simp)
            clear HST
            go_wp2_with fail
            go_roundw
            case rel => exact ⟨j + 1, k, by go_num, rfl, by omega, by omega, (by first | exact trivial | rfl), HF⟩
            case measure => simp [intOf]; omega
          · have HF : Hid (k + 1 = (List.range (j + 1)).countP (isOpenAt N)) := Lib.hid (by rw [HST.out]; simp [hw0])
            have hw1 : (0 : Int) < wl := by omega
            clear HST
            go_wp2_with fail
            go_roundw
            case rel => exact ⟨j + 1, k + 1, by go_num, by go_num, by omega, by omega, (by first | exact trivial | rfl), HF⟩
            case measure => simp [intOf]; omega
    · have hlt' : ¬ (j : Int) < n := by omega
      have hjn : j = n := by omega
      have HKO : Hid (openN N = k) := Lib.hid (by unfold openN; rw [HNL.out, ← hjn]; exact HK.out.symm)
      by_cases ho : k < 16
      · have HE : Hid (openE N = ((n : Int) + 1, 0) ∧ openedN N = N ++ [some newLine]) := Lib.hid (by
          refine ⟨?_, ?_⟩
          · unfold openE; rw [HKO.out, if_pos ho, HNL.out]
          · unfold openedN; rw [HKO.out, if_pos ho])
        have ho' : (k : Int) < 16 := by omega
        obtain ⟨iT, siT, szT, s1T, s2T⟩ := info_parts Try.infoL
        have HOW : Hid (wr.ownsRow B 66 4 (.slice a n cp) n (zs.flatMap cellsN)) := Lib.hid (by have h := HH.out.row; rw [HZN.out] at h; exact h)
        go_wp2_with (at_builtin; refine wpList_append_lies _ rfl _ _ 43 rfl B 66 iT _ 4 64 Try.underlying43 siT szT s1T s2T rfl (by omega) (.slice a n cp) n (zs.flatMap cellsN) rfl (HOW.out.alloc _) ⟨wr.heap.size, 0, none⟩ 1 1 [.bool true, .slice none 0 0, .slice none 0 0, .bool false] rfl rfl (World.news_of_block (cs := #[.bool true, .slice none 0 0, .slice none 0 0, .bool false]) (t := 66) (fr := (0, 0)) (new_block wr _ _)) (by simp [Value.oneCell']) (by omega) (by unfold maxLen; omega) (by omega) (by simp; omega) (wr.heap.size + 1) (by simp) ?_)
        intro g0 cap0 w0 hown0 hg0 hat0 hlt0
        have hb3 := (HH.out.blk.alloc _).of_heap (hg0.block P (by simp; omega) hLP.symm)
        have k0 := hb3.cell (i := 0) rfl
        have k1 := hb3.free 0
        have HPU := Lib.hid (show RMoved B P S (N ++ [some newLine]) wr (w0.setCell ⟨P, 0, none⟩ (.slice (some ⟨g0, 0, none⟩) (n + 1) cap0)) from by
          have hz := HZN.out
          subst hz
          exact HH.out.push HN.out hown0 hg0 hat0)
        clear hb3 hown0 hg0 hat0 hlt0
        go_wp2_with fail
        rw [← HQ.out, HE.out.1, HE.out.2]
        exact ⟨by rfl, HPU.out⟩
      · have HE : Hid (openE N = (0, 8) ∧ openedN N = N) := Lib.hid (by
          refine ⟨?_, ?_⟩
          · unfold openE; rw [HKO.out, if_neg ho]
          · unfold openedN; rw [HKO.out, if_neg ho])
        have ho' : (16 : Int) ≤ k := by omega
        go_wp2_with fail
        rw [← HQ.out, HE.out.1, HE.out.2]
        exact ⟨by rfl, HS.out⟩
end Go.Proofs.Yteopfknoemifgaa
