/- The reference's book: Open. Conditions: sizes are small. -/
import Derived.Test.YtaonfacbmolklaaRf3
import Derived.Test.YtaonfacbmolklaaOpenB
import Derived.Test.YtaonfacbmolklaaHeld
namespace Go.Proofs.Ytaonfacbmolklaa
open Go.RowKit
set_option linter.unusedSimpArgs false
set_option linter.unusedVariables false

/-- What an act on the reference's book leaves. -/
def RActed (w : World) (B P : Nat) (bk : Bk) (S : Nat → Prop) (w' : World) : Prop := RefAt w' B P bk (grow S w w') ∧ KeptS S w w'
theorem RefAt.below {w w' : World} {B P : Nat} {bk : Bk} {S : Nat → Prop} (h : RefAt w B P bk S) (hb : Below w.heap.size w w') : RefAt w' B P bk S := by
  obtain ⟨lv, zs, h1, h2⟩ := h
  exact ⟨lv, zs, h1.below hb, h2⟩
theorem IsRef.size {w : World} {B P : Nat} {last : Int} {S : Nat → Prop} {lv : Value} {zs : List Z} (h : IsRef w B P last S lv zs) : B ≤ w.heap.size := by
  have h1 := h.base P h.sP
  have h2 := h.blk.lt
  omega
theorem RefAt.mono {w : World} {B P : Nat} {bk : Bk} {S S' : Nat → Prop} (h : RefAt w B P bk S) (hs : ∀ k, S k → S' k) (hB : ∀ k, S' k → B ≤ k) : RefAt w B P bk S' := by
  obtain ⟨lv, zs, h1, h2⟩ := h
  exact ⟨lv, zs, h1.same (fun k _ _ => rfl) hs hB, h2⟩
theorem grow_base {S : Nat → Prop} {w w' : World} {B : Nat} (h : ∀ k, S k → B ≤ k) (hB : B ≤ w.heap.size) : ∀ k, grow S w w' k → B ≤ k := by
  rintro k (h1 | h1)
  · exact h k h1
  · omega
theorem RefAt.acted {w w' : World} {B P : Nat} {bk : Bk} {S : Nat → Prop} (h : RefAt w B P bk S) (hb : Below w.heap.size w w') : RActed w B P bk S w' := by
  obtain ⟨lv, zs, h1, h2⟩ := h
  exact ⟨⟨lv, zs, (h1.below hb).same (fun k _ _ => rfl) (fun k h => .inl h) (grow_base h1.base h1.size), h2⟩, KeptS.of_below hb⟩
/-- Another's act leaves the reference's book as it is. -/
theorem RefAt.kept {w w' : World} {B P : Nat} {bk : Bk} {S S' : Nat → Prop} (h : RefAt w B P bk S) (hk : KeptS S' w w') (hd : ∀ k, S k → ¬ S' k) : RefAt w' B P bk S := by
  obtain ⟨lv, zs, h1, h2⟩ := h
  exact ⟨lv, zs, h1.same (fun k hS hlt => hk.block k hlt (hd k hS)) (fun _ h => h) h1.base, h2⟩
theorem RowIn.nil {u : World} {N S : Nat → Prop} : RowIn u N S (.slice none 0 0) [] := ⟨none, 0, rfl, .inl rfl⟩
/-- The reference's book with one more. -/
theorem IsRef.push {w w3 : World} {B P g cap : Nat} {last : Int} {S : Nat → Prop} {lv : Value} {zs : List Z} {e : E} {X : Obj} (h : IsRef w B P last S lv zs) (hr1 : e.reads = []) (hr2 : e.touches = [])
    (hown : w3.ownsRow B 58 6 (.slice (some ⟨g, 0, none⟩) (zs.length + 1) cap) (zs.length + 1) (zs.flatMap cellsZ ++ cellsZ (e, .slice none 0 0, .slice none 0 0)))
    (hg : (w.alloc X).grownBy w3 lv.ownBlock) (hat : lv.ownBlock = some g ∨ g = w.heap.size + 1) :
    RActed w B P ⟨zs.map (fun z => z.1) ++ [e], last⟩ S (w3.setCell ⟨P, 0, none⟩ (.slice (some ⟨g, 0, none⟩) (zs.length + 1) cap)) := by
  have hPl := h.blk.lt
  have hz3 : w.heap.size + 1 ≤ w3.heap.size := by have := hg.size; simpa using this
  have hLP : ∀ b, lv.ownBlock = some b → b ≠ P := fun b e => (h.sl b e).2
  have hgP : g ≠ P := by
    rcases hat with e | e
    · exact hLP g e
    · omega
  have hk : ∀ b, b < w.heap.size → lv.ownBlock ≠ some b → w3.heap[b]? = w.heap[b]? := fun b hb hn => by
    rw [hg.block b (by simp; omega) (fun e => hn e.symm), Below.heap_alloc _ _ _ hb]
  have hsc : ∀ b, b ≠ P → (w3.setCell ⟨P, 0, none⟩ (.slice (some ⟨g, 0, none⟩) (zs.length + 1) cap)).heap[b]? = w3.heap[b]? := fun b hb => Below.heap_setCell _ _ _ _ hb
  have hsz : (w3.setCell ⟨P, 0, none⟩ (.slice (some ⟨g, 0, none⟩) (zs.length + 1) cap)).heap.size = w3.heap.size := by simp [World.setCell]
  have hgl : g < w3.heap.size := (hown.lt g rfl).2
  have hkept : KeptS S w w3 := (KeptS.of_below (S := S) ((Below.refl _ _).alloc (Nat.le_refl _) X)).grown hg (fun k e => .inl (h.sl k e).1)
  refine ⟨⟨.slice (some ⟨g, 0, none⟩) (zs.length + 1) cap, zs ++ [(e, .slice none 0 0, .slice none 0 0)], ⟨?_, grow_base h.base h.size, .inl h.sP, ?_, ?_, ?_⟩, by simp⟩, hkept.setCell (.inl h.sP) _⟩
  · exact (h.blk.of_heap (hk P hPl (fun e => hLP P e rfl))).set 0 _
  · rw [List.length_append, List.flatMap_append]
    refine own_setCell ?_ (fun e => hgP (by injection e)) _
    simpa using hown
  · intro b e
    obtain rfl : g = b := by injection e
    refine ⟨?_, hgP⟩
    rcases hat with e2 | e2
    · exact .inl (h.sl _ e2).1
    · exact .inr ⟨by omega, by rw [hsz]; exact hgl⟩
  · intro z hz
    have hs : ∀ k, S k → ¬ NotRow P lv k → k < w.heap.size → (w3.setCell ⟨P, 0, none⟩ (.slice (some ⟨g, 0, none⟩) (zs.length + 1) cap)).heap[k]? = w.heap[k]? ∧ grow S w (w3.setCell ⟨P, 0, none⟩ (.slice (some ⟨g, 0, none⟩) (zs.length + 1) cap)) k ∧ ¬ NotRow P (.slice (some ⟨g, 0, none⟩) (zs.length + 1) cap) k := fun k hS hN hlt => by
      have h1 : k ≠ P := fun e => hN (.inl e)
      have h2 : lv.ownBlock ≠ some k := fun e => hN (.inr e)
      refine ⟨by rw [hsc k h1, hk k hlt h2], .inl hS, ?_⟩
      rintro (h3 | h3)
      · exact h1 h3
      · obtain rfl : g = k := by injection h3
        rcases hat with e2 | e2
        · exact h2 e2
        · omega
    rcases List.mem_append.1 hz with hz | hz
    · exact ⟨(h.rows z hz).1.same hs, (h.rows z hz).2.same hs⟩
    · obtain rfl : z = (e, .slice none 0 0, .slice none 0 0) := by simpa using hz
      exact ⟨by show RowIn _ _ _ _ e.reads; rw [hr1]; exact RowIn.nil, by show RowIn _ _ _ _ e.touches; rw [hr2]; exact RowIn.nil⟩
theorem Try.infoT : (Try.prog.info? 58).map (fun i => (i.zero, i.size, i.bytes)) = some (some (.agg #[.int .i64 0, .int .i64 0, .int .i64 0, .slice none 0 0, .slice none 0 0, .bool false]), 6, 80) := by kernel_rfl
def ROpenP (w : World) (B P : Nat) (bk : Bk) (S : Nat → Prop) (who at_ : Int) (e : Ending) (w' : World) : Prop := e = .returned (.int .i64 (openB bk who at_).1) ∧ RActed w B P (openB bk who at_).2 S w'
set_option maxRecDepth 100000 in
set_option maxHeartbeats 4000000 in
theorem ropen_any (w : World) (B P : Nat) (bk : Bk) (S : Nat → Prop) (who at_ : Int) (h : RefAt w B P bk S) (hn : bk.es.length ≤ 1000000) :
    Calls Try.prog 9 #[.pointer (some ⟨P, 0, none⟩), .int .i64 who, .int .i64 at_] w (ROpenP w B P bk S who at_) := by
  have HRA := Lib.hid h
  obtain ⟨lv, zs, hI, hes⟩ := h
  have HI := Lib.hid hI
  have HES := Lib.hid hes
  obtain ⟨a, c, rfl⟩ := own_form hI.row
  have c0 := hI.blk.cell (i := 0) rfl
  have c1 := hI.blk.cell (i := 1) rfl
  have hOP : openB bk who at_ = if who < 1 ∨ at_ < 0 ∨ bk.last < at_ then (20, bk) else if bk.es.any (fun e => decide (e.who = who)) = true then (25, bk) else (0, ⟨bk.es ++ [⟨who, at_, 0, [], [], false⟩], bk.last⟩) := rfl
  have hlen : zs.length = bk.es.length := by rw [← hes, List.length_map]
  obtain ⟨n, hzn⟩ : ∃ n, zs.length = n := ⟨_, rfl⟩
  rw [hzn] at c0
  have HZN := Lib.hid hzn
  have hn1 : n ≤ 1000000 := by omega
  have hPl := hI.blk.lt
  have hLP : (Value.slice a n c).ownBlock ≠ some P := fun e => by rw [← hzn] at e; exact (hI.sl P e).2 rfl
  have hBl := hI.size
  obtain ⟨Q, hQ⟩ : ∃ Q, ROpenP w B P bk S who at_ = Q := ⟨_, rfl⟩
  rw [hQ]
  have HQ := Lib.hid hQ
  have HOP := Lib.hid hOP
  clear hQ hOP hI hes hlen hzn hn
  by_cases g1 : who < 1
  · have HR : Hid (openB bk who at_ = (20, bk)) := Lib.hid (by rw [HOP.out, if_pos (.inl g1)])
    clear HOP
    go_enter Try.func9, Try.ntmps9
    go_wp2_with fail
    rw [← HQ.out]
    unfold ROpenP
    rw [HR.out]
    exact ⟨by rfl, HRA.out.acted (Below.refl _ _)⟩
  by_cases g2 : at_ < 0
  · have HR : Hid (openB bk who at_ = (20, bk)) := Lib.hid (by rw [HOP.out, if_pos (.inr (.inl g2))])
    clear HOP
    go_enter Try.func9, Try.ntmps9
    go_wp2_with fail
    rw [← HQ.out]
    unfold ROpenP
    rw [HR.out]
    exact ⟨by rfl, HRA.out.acted (Below.refl _ _)⟩
  by_cases g3 : bk.last < at_
  · have HR : Hid (openB bk who at_ = (20, bk)) := Lib.hid (by rw [HOP.out, if_pos (.inr (.inr g3))])
    clear HOP
    go_enter Try.func9, Try.ntmps9
    go_wp2_with fail
    rw [← HQ.out]
    unfold ROpenP
    rw [HR.out]
    exact ⟨by rfl, HRA.out.acted (Below.refl _ _)⟩
  have HOP2 : Hid (openB bk who at_ = if bk.es.any (fun e => decide (e.who = who)) = true then (25, bk) else (0, ⟨bk.es ++ [⟨who, at_, 0, [], [], false⟩], bk.last⟩)) := Lib.hid (by rw [HOP.out, if_neg (by omega)])
  clear HOP
  go_enter Try.func9, Try.ntmps9
  go_wp2_with fail
  go_loopw [7] (fun jv wr => ∃ (j : Nat), jv = .int .i64 j ∧ j ≤ n ∧ wr = w ∧ Hid (∀ (i : Nat) z, i < j → zs[i]? = some z → ¬ z.1.who = who)) (fun jv _ => n - (intOf jv).toNat)
  case atStart => exact ⟨0, rfl, Nat.zero_le _, rfl, Lib.hid (fun i z hi => absurd hi (Nat.not_lt_zero _))⟩
  case round =>
    obtain ⟨j, rfl, hj, rfl, HN⟩ := hrel
    by_cases hlt : j < n
    · have hlt' : (j : Int) < n := by omega
      have hj0 : (0 : Int) ≤ (j : Int) := by omega
      obtain ⟨z, hz⟩ : ∃ z, zs[j]? = some z := get_some (by have := HZN.out; omega)
      obtain ⟨g, c', hac, hg, hc⟩ := HI.out.cell hz
      injection hac with e1 e2 e3
      subst e1
      clear e2 e3
      have y0 := hc 0 _ rfl
      rw [Nat.add_zero] at y0
      have HZ := Lib.hid hz
      by_cases hw : z.1.who = who
      · have HR : Hid (openB bk who at_ = (25, bk)) := Lib.hid (by
          rw [HOP2.out, if_pos]
          rw [List.any_eq_true]
          exact ⟨z.1, by rw [← HES.out]; exact List.mem_map_of_mem (List.mem_of_getElem? hz), decide_eq_true hw⟩)
        generalize z.1.who = zw at *
        have hw' : (zw == who) = true := by simpa using hw
        clear hz hc hw
        go_wp2_with fail
        rw [← HQ.out]
        unfold ROpenP
        rw [HR.out]
        exact ⟨by rfl, HRA.out.acted (Below.refl _ _)⟩
      · have HS : Hid (∀ (i : Nat) z, i < j + 1 → zs[i]? = some z → ¬ z.1.who = who) := Lib.hid (fun i z' hi hz' => by
          by_cases hij : i = j
          · subst hij; rw [HZ.out] at hz'; injection hz' with e; subst e; exact hw
          · exact HN.out i z' (by omega) hz')
        generalize z.1.who = zw at *
        have hw' : (zw == who) = false := by simpa using hw
        clear hz hc hw
        go_wp2_with fail
        go_roundw
        case rel => exact ⟨j + 1, by go_num, by omega, (by first | exact trivial | rfl), HS⟩
        case measure => simp [intOf]; omega
    · have hlt' : ¬ (j : Int) < n := by omega
      have hjn : j = n := by omega
      have HR : Hid (openB bk who at_ = (0, ⟨bk.es ++ [⟨who, at_, 0, [], [], false⟩], bk.last⟩)) := Lib.hid (by
        rw [HOP2.out, if_neg]
        rw [List.any_eq_true]
        rintro ⟨e, he, hd⟩
        rw [← HES.out] at he
        obtain ⟨z, hz, rfl⟩ := List.mem_map.1 he
        obtain ⟨i, hi⟩ := List.mem_iff_getElem?.1 hz
        exact HN.out i z (by have := (List.getElem?_eq_some_iff.1 hi).1; have := HZN.out; omega) hi (of_decide_eq_true hd))
      obtain ⟨iT, siT, szT, s1T, s2T⟩ := info_parts Try.infoT
      have HOW : Hid (wr.ownsRow B 58 6 (.slice a n c) n (zs.flatMap cellsZ)) := Lib.hid (by have h := HI.out.row; rw [HZN.out] at h; exact h)
      go_wp2_with (at_builtin; refine wpList_append_lies _ rfl _ _ 26 rfl B 58 iT _ 6 80 Try.underlying26 siT szT s1T s2T rfl (by omega) (.slice a n c) n (zs.flatMap cellsZ) rfl (HOW.out.alloc _) ⟨wr.heap.size, 0, none⟩ 1 1 [.int .i64 who, .int .i64 at_, .int .i64 0, .slice none 0 0, .slice none 0 0, .bool false] rfl rfl (World.news_of_block (cs := #[.int .i64 who, .int .i64 at_, .int .i64 0, .slice none 0 0, .slice none 0 0, .bool false]) (t := 58) (fr := (0, 0)) (new_drew wr _)) (by simp [Value.oneCell']) (by omega) (by unfold maxLen; omega) (by omega) (by simp; omega) (wr.heap.size + 1) (by simp) ?_)
      intro g0 cap0 w0 hown0 hg0 hat0 hlt0
      have hb3 := (HI.out.blk.alloc _).of_heap (hg0.block P (by simp; omega) hLP.symm)
      have k0 := hb3.cell (i := 0) rfl
      have f0 := hb3.free 0
      have HPU := Lib.hid (show RActed wr B P ⟨zs.map (fun z => z.1) ++ [⟨who, at_, 0, [], [], false⟩], bk.last⟩ S (w0.setCell ⟨P, 0, none⟩ (.slice (some ⟨g0, 0, none⟩) (n + 1) cap0)) from by
        have hz := HZN.out
        subst hz
        exact HI.out.push rfl rfl hown0 hg0 hat0)
      clear hb3 hown0 hg0 hat0 hlt0
      go_wp2_with fail
      rw [← HQ.out]
      unfold ROpenP
      rw [HR.out]
      exact ⟨by rfl, by have h := HPU.out; rw [HES.out] at h; exact h⟩
end Go.Proofs.Ytaonfacbmolklaa
