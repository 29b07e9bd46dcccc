/- The law's ahead; what play leaves, as a row of deeds. Conditions: sizes are small. -/
import Derived.Test.YtaonfacbmolklaaPlay
import Derived.Test.YtaonfacbmolklaaOrd
import Derived.Test.YtaonfacbmolklaaWorks
namespace Go.Proofs.Ytaonfacbmolklaa
open Go.RowKit
set_option linter.unusedSimpArgs false
set_option linter.unusedVariables false

/-- The row of deeds, each with its two rows. -/
def DoneAt (u : World) (a : Option Addr) (done : List D) : Prop :=
  ∀ (i : Nat) (d : D), done[i]? = some d → ∃ b off a1 c1 a2 c2, a = some ⟨b, off, none⟩ ∧ b < u.heap.size ∧ u.cell? ⟨b, off + i * 4, none⟩ = some (.int .i64 d.at_) ∧ u.cell? ⟨b, off + i * 4 + 1, none⟩ = some (.int .i64 d.end_) ∧
    u.cell? ⟨b, off + i * 4 + 2, none⟩ = some (.slice a1 d.reads.length c1) ∧ u.cell? ⟨b, off + i * 4 + 3, none⟩ = some (.slice a2 d.touches.length c2) ∧ StrRow u.heap.size u a1 d.reads ∧ StrRow u.heap.size u a2 d.touches
theorem PQ.done_at {u0 u : World} {B P M n : Nat} {S X : Nat → Prop} {bk : Bk} {act : Int → Option D} {ps : Int → Nat} {dv : Value} {done : List D} (h : PQ u0 B P M S X bk act ps dv done n u) : ∃ a c, dv = .slice a done.length c ∧ DoneAt u a done := by
  obtain ⟨S1, N, vs, tag, g, zs, h1, h2, h3, h4, h5, h6, h7, h8, h9⟩ := h
  have hrow := h2.row
  obtain ⟨a, c, rfl⟩ := own_form hrow
  have hl : zs.length = done.length := by rw [← h3, List.length_map]
  refine ⟨a, c, by rw [hl], fun i d hd => ?_⟩
  rw [← h3, List.getElem?_map] at hd
  cases hz : zs[i]? with
  | none => rw [hz] at hd; cases hd
  | some z =>
    rw [hz] at hd
    obtain rfl : z.1 = d := by simpa using hd
    obtain ⟨b, off, rfl, hb, hc⟩ := Cells.elem (size := 4) (own_cells_of hrow) (fun _ _ => rfl) (by omega) hz
    obtain ⟨r1, r2⟩ := h2.old z (List.mem_of_getElem? hz)
    obtain ⟨a1, c1, e1, s1⟩ := r1.row
    obtain ⟨a2, c2, e2, s2⟩ := r2.row
    exact ⟨b, off, a1, c1, a2, c2, rfl, hb, by rw [show off + i * 4 = off + (i * 4 + 0) from by omega]; exact hc 0 _ rfl, by rw [Nat.add_assoc]; exact hc 1 _ rfl, by rw [Nat.add_assoc, ← e1]; exact hc 2 _ rfl, by rw [Nat.add_assoc, ← e2]; exact hc 3 _ rfl, s1, s2⟩
set_option maxRecDepth 100000 in
set_option maxHeartbeats 4000000 in
theorem law_ahead_any (w : World) (B : Nat) (p q : D) (r1 t1 r2 t2 : Option Addr) (k1 m1 k2 m2 : Nat) (hr : StrRow B w r1 p.reads) (ht : StrRow B w t2 q.touches) (hB : B ≤ w.heap.size) (hrn : p.reads.length ≤ 1099511627776) (htn : q.touches.length ≤ 1099511627776) :
    Calls Try.prog 24 #[.agg #[.int .i64 p.at_, .int .i64 p.end_, .slice r1 p.reads.length k1, .slice t1 p.touches.length m1], .agg #[.int .i64 q.at_, .int .i64 q.end_, .slice r2 q.reads.length k2, .slice t2 q.touches.length m2]] w fun e w' => e = .returned (.bool (aheadD p q)) ∧ Below w.heap.size w w' := by
  obtain ⟨w1, hw1⟩ : ∃ w1, (w.alloc (.cells #[.int .i64 p.at_, .int .i64 p.end_, .slice r1 p.reads.length k1, .slice t1 p.touches.length m1] 47)).alloc (.cells #[.int .i64 q.at_, .int .i64 q.end_, .slice r2 q.reads.length k2, .slice t2 q.touches.length m2] 47) = w1 := ⟨_, rfl⟩
  have hb : Below w.heap.size w w1 := by rw [← hw1]; exact ((Below.refl _ _).alloc (Nat.le_refl _) _).alloc (by simp) _
  have hX : Block w1 w.heap.size [.int .i64 p.at_, .int .i64 p.end_, .slice r1 p.reads.length k1, .slice t1 p.touches.length m1] 47 := by rw [← hw1]; exact (Block.new w _ _).alloc _
  have hY : Block w1 (w.heap.size + 1) [.int .i64 q.at_, .int .i64 q.end_, .slice r2 q.reads.length k2, .slice t2 q.touches.length m2] 47 := by
    rw [← hw1]
    have := Block.new (w.alloc (.cells #[.int .i64 p.at_, .int .i64 p.end_, .slice r1 p.reads.length k1, .slice t1 p.touches.length m1] 47)) [.int .i64 q.at_, .int .i64 q.end_, .slice r2 q.reads.length k2, .slice t2 q.touches.length m2] 47
    simpa using this
  have x0 := hX.cell (i := 0) rfl
  have x1 := hX.cell (i := 1) rfl
  have x2 := hX.cell (i := 2) rfl
  have y0 := hY.cell (i := 0) rfl
  have y1 := hY.cell (i := 1) rfl
  have y3 := hY.cell (i := 3) rfl
  have HW1 := Lib.hid hw1
  have hb2 : Below B w w1 := hb.mono hB
  have hr1 : StrRow w1.heap.size w1 r1 p.reads := row_below hr hb2
  have ht1 : StrRow w1.heap.size w1 t2 q.touches := row_below ht hb2
  have HM := Lib.hid (rmeet_any p.reads q.touches r1 t2 k1 m2 w1.heap.size w1 hr1 ht1 hrn htn)
  have HB := Lib.hid hb
  have HA : Hid (aheadD p q = (decide (p.end_ ≤ q.at_) || (decide (p.at_ < q.end_) && meetB p.reads q.touches))) := Lib.hid rfl
  generalize p.at_ = pa at *
  generalize p.end_ = pe at *
  generalize q.at_ = qa at *
  generalize q.end_ = qe at *
  generalize p.reads.length = n1 at *
  generalize p.touches.length = n2 at *
  generalize q.reads.length = n3 at *
  generalize q.touches.length = n4 at *
  generalize meetB p.reads q.touches = MM at *
  generalize aheadD p q = R at *
  clear hw1 hb hX hY hb2 hr1 ht1 hr ht hB hrn htn
  by_cases g1 : pe ≤ qa
  · have HR : Hid (R = true) := Lib.hid (by rw [HA.out, decide_eq_true g1]; rfl)
    clear HA
    go_enter Try.func24, Try.ntmps24
    go_wp2_with (rw [HW1.out])
    rw [HR.out]
    go_ret
    exact ⟨by rfl, HB.out⟩
  · by_cases g2 : pa < qe
    · have HR : Hid (R = MM) := Lib.hid (by rw [HA.out, decide_eq_false g1, decide_eq_true g2]; rfl)
      clear HA
      go_enter Try.func24, Try.ntmps24
      go_wp2_with (rw [HW1.out])
      refine HM.out.mono ?_
      rintro e w2 ⟨rfl, rfl⟩
      go_wp2_with fail
      rw [HR.out]
      go_ret
      exact ⟨by rfl, HB.out⟩
    · have HR : Hid (R = false) := Lib.hid (by rw [HA.out, decide_eq_false g1, decide_eq_false g2]; rfl)
      clear HA
      go_enter Try.func24, Try.ntmps24
      go_wp2_with (rw [HW1.out])
      rw [HR.out]
      go_ret
      exact ⟨by rfl, HB.out⟩
end Go.Proofs.Ytaonfacbmolklaa
