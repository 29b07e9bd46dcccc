/- The texts G18, G19, G33, G34, G25, G26, G39, G40 of this seat, one behind the other. Conditions: each says its own. -/
import Derived.Deep.MidRow
import Derived.Test.YtoakloicjlfaaaaM5

/- Layer 14: whether two nodes, edges, graphs are the same: the reference's answer. Conditions: none. -/
namespace Go.Proofs.Ytoakloicjlfaaaa
open Go.RowKit
set_option linter.unusedSimpArgs false
set_option linter.unusedVariables false
set_option maxRecDepth 100000

def sameN (n m : Nt) : Bool := decide (n.id = m.id) && (decide (n.labels = m.labels) && (decide (n.keys = m.keys) && sameVs n.vals m.vals))
def sameE (n m : Et) : Bool := decide (n.id = m.id) && (decide (n.src = m.src) && (decide (n.dst = m.dst) && (decide (n.ty = m.ty) && (decide (n.keys = m.keys) && sameVs n.vals m.vals))))
theorem sameVs_eq (l m : List Vt) : sameVs l m = true ↔ l = m := sameVs_iff l m (fun _ t _ u => sameV_iff t u)
theorem sameN_iff (n m : Nt) : sameN n m = true ↔ n = m := by
  obtain ⟨a1, a2, a3, a4⟩ := n
  obtain ⟨b1, b2, b3, b4⟩ := m
  simp [sameN, sameVs_eq]
theorem sameE_iff (n m : Et) : sameE n m = true ↔ n = m := by
  obtain ⟨a1, a2, a3, a4, a5, a6⟩ := n
  obtain ⟨b1, b2, b3, b4, b5, b6⟩ := m
  simp [sameE, sameVs_eq]
/-- One by one. -/
def sameL {α : Type} (f : α → α → Bool) : List α → List α → Bool
  | [], [] => true
  | x :: xs, y :: ys => f x y && sameL f xs ys
  | _, _ => false
theorem sameL_iff {α : Type} {f : α → α → Bool} (hf : ∀ x y, f x y = true ↔ x = y) : ∀ l m : List α, sameL f l m = true ↔ l = m
  | [], [] => by simp [sameL]
  | [], y :: ys => by simp [sameL]
  | x :: xs, [] => by simp [sameL]
  | x :: xs, y :: ys => by simp [sameL, hf, sameL_iff hf xs ys]
theorem sameL_len {α : Type} {f : α → α → Bool} : ∀ {l m : List α}, l.length ≠ m.length → sameL f l m = false
  | [], [], h => by simp at h
  | [], y :: ys, _ => rfl
  | x :: xs, [], _ => rfl
  | x :: xs, y :: ys, h => by simp only [sameL]; rw [sameL_len (l := xs) (m := ys) (fun e => h (by simp [e]))]; simp
theorem sameL_at {α : Type} {f : α → α → Bool} : ∀ {l m : List α} {j : Nat} {t u : α}, l[j]? = some t → m[j]? = some u → sameL f (l.drop j) (m.drop j) = (f t u && sameL f (l.drop (j + 1)) (m.drop (j + 1)))
  | x :: xs, y :: ys, 0, t, u, h1, h2 => by simp at h1 h2; subst h1 h2; rfl
  | x :: xs, y :: ys, j + 1, t, u, h1, h2 => by simpa using sameL_at (l := xs) (m := ys) (j := j) (by simpa using h1) (by simpa using h2)
  | [], _, j, t, u, h1, _ => by simp at h1
  | _ :: _, [], j, t, u, _, h2 => by simp at h2
def sameG (g h : Gt) : Bool := sameL sameN g.nodes h.nodes && sameL sameE g.edges h.edges
theorem sameG_iff (g h : Gt) : sameG g h = true ↔ g = h := by
  obtain ⟨a1, a2⟩ := g
  obtain ⟨b1, b2⟩ := h
  simp [sameG, sameL_iff sameN_iff, sameL_iff sameE_iff]
theorem sameList_all (l m : List Vt) (la ma : Option Addr) (lc mc : Nat) (B : Nat) (w : World) (hl : IsVs B w la 0 l) (hm : IsVs B w ma 0 m) (hB : B ≤ w.heap.size) (hll : l.length ≤ 9223372036854775807) (hml : m.length ≤ 9223372036854775807) :
    Calls Try.prog 68 #[.slice la l.length lc, .slice ma m.length mc] w fun e w' => e = .returned (.bool (sameVs l m)) ∧ Below w.heap.size w w' :=
  sameList_any l m (fun _ t _ => same_any t) la ma lc mc B w hl hm hB hll hml
/-- A row seen from whatever world grows out of one. -/
theorem RowR.ext {α : Type} {R : Nat → World → List Value → α → Prop} {size B M : Nat} {w W0 : World} {a : Option Addr} {l : List α} (h : RowR (R B w) size B w a l) (hbe : ∀ u : Ext M W0, Below w.heap.size w u.w) (hB : B ≤ w.heap.size) {j : Nat} {x : α} (hx : l[j]? = some x) :
    ∃ b off cs, a = some ⟨b, off, none⟩ ∧ b < B ∧ cs.length = size ∧ R B w cs x ∧ ∀ (u : Ext M W0) q v, cs[q]? = some v → u.w.cell? ⟨b, off + j * size + q, none⟩ = some v := by
  obtain ⟨b, off, cs, h1, h2, h3, h4, h5⟩ := h.at hx
  exact ⟨b, off, cs, h1, h2, h3, h4, fun u q v hv => by rw [(hbe u).cell (by show b < _; omega)]; exact h5 q v hv⟩

set_option maxHeartbeats 8000000 in
theorem sameN_any (n m : Nt) (cs ds : List Value) (B : Nat) (w : World) (hn : IsN B w cs n) (hm : IsN B w ds m) (hB : B ≤ w.heap.size) :
    Calls Try.prog 39 #[.agg cs.toArray, .agg ds.toArray] w fun e w' => e = .returned (.bool (sameN n m)) ∧ Below w.heap.size w w' := by
  obtain ⟨la, lc, ka, kc, va, vc, rfl, hid, hlo, hls, hko, hvo, hks, hvs⟩ := hn
  obtain ⟨mla, mlc, mka, mkc, mva, mvc, rfl, hid2, hlo2, hls2, hko2, hvo2, hks2, hvs2⟩ := hm
  show Calls Try.prog 39 #[.agg #[.int .i64 n.id, .slice la n.labels.length lc, .slice ka n.keys.length kc, .slice va n.vals.length vc], .agg #[.int .i64 m.id, .slice mla m.labels.length mlc, .slice mka m.keys.length mkc, .slice mva m.vals.length mvc]] w _
  obtain ⟨W0, hw0⟩ : ∃ w0, (w.alloc (.cells #[.int .i64 n.id, .slice la n.labels.length lc, .slice ka n.keys.length kc, .slice va n.vals.length vc] 38)).alloc (.cells #[.int .i64 m.id, .slice mla m.labels.length mlc, .slice mka m.keys.length mkc, .slice mva m.vals.length mvc] 38) = w0 := ⟨_, rfl⟩
  have hb0 : Below w.heap.size w W0 := by rw [← hw0]; exact ((Below.refl _ _).alloc (Nat.le_refl _) _).alloc (by simp) _
  have hX : Block W0 w.heap.size [.int .i64 n.id, .slice la n.labels.length lc, .slice ka n.keys.length kc, .slice va n.vals.length vc] 38 := by rw [← hw0]; exact (Block.new w _ _).alloc _
  have hY : Block W0 (w.heap.size + 1) [.int .i64 m.id, .slice mla m.labels.length mlc, .slice mka m.keys.length mkc, .slice mva m.vals.length mvc] 38 := by rw [← hw0]; have := Block.new (w.alloc (.cells #[.int .i64 n.id, .slice la n.labels.length lc, .slice ka n.keys.length kc, .slice va n.vals.length vc] 38)) [.int .i64 m.id, .slice mla m.labels.length mlc, .slice mka m.keys.length mkc, .slice mva m.vals.length mvc] 38; simpa using this
  have hsz : w.heap.size + 2 ≤ W0.heap.size := by rw [← hw0]; simp
  have hl0 : w.heap.size < w.heap.size + 2 := by omega
  have hl1 : w.heap.size + 1 < w.heap.size + 2 := by omega
  have hbe : ∀ u : Ext (w.heap.size + 2) W0, Below w.heap.size w u.w := fun u => hb0.trans (u.below.mono (by omega))
  have x0 : ∀ u : Ext (w.heap.size + 2) W0, u.w.cell? ⟨w.heap.size, 0, none⟩ = some (.int .i64 n.id) := fun u => u.cell hl0 (hX.cell rfl)
  have x1 : ∀ u : Ext (w.heap.size + 2) W0, u.w.cell? ⟨w.heap.size, 1, none⟩ = some (.slice la n.labels.length lc) := fun u => u.cell hl0 (hX.cell rfl)
  have x2 : ∀ u : Ext (w.heap.size + 2) W0, u.w.cell? ⟨w.heap.size, 2, none⟩ = some (.slice ka n.keys.length kc) := fun u => u.cell hl0 (hX.cell rfl)
  have x3 : ∀ u : Ext (w.heap.size + 2) W0, u.w.cell? ⟨w.heap.size, 3, none⟩ = some (.slice va n.vals.length vc) := fun u => u.cell hl0 (hX.cell rfl)
  have y0 : ∀ u : Ext (w.heap.size + 2) W0, u.w.cell? ⟨w.heap.size + 1, 0, none⟩ = some (.int .i64 m.id) := fun u => u.cell hl1 (hY.cell rfl)
  have y1 : ∀ u : Ext (w.heap.size + 2) W0, u.w.cell? ⟨w.heap.size + 1, 1, none⟩ = some (.slice mla m.labels.length mlc) := fun u => u.cell hl1 (hY.cell rfl)
  have y2 : ∀ u : Ext (w.heap.size + 2) W0, u.w.cell? ⟨w.heap.size + 1, 2, none⟩ = some (.slice mka m.keys.length mkc) := fun u => u.cell hl1 (hY.cell rfl)
  have y3 : ∀ u : Ext (w.heap.size + 2) W0, u.w.cell? ⟨w.heap.size + 1, 3, none⟩ = some (.slice mva m.vals.length mvc) := fun u => u.cell hl1 (hY.cell rfl)
  have HSL := Lib.hid (fun u : Ext (w.heap.size + 2) W0 => ext_call u hsz (sameNames_any n.labels m.labels la mla lc mlc B u.w (hls.below (hbe u) hB) (hls2.below (hbe u) hB) (Nat.le_trans hB (hbe u).size) (by have := hlo.1; omega) (by have := hlo2.1; omega)))
  have HSK := Lib.hid (fun u : Ext (w.heap.size + 2) W0 => ext_call u hsz (sameNames_any n.keys m.keys ka mka kc mkc B u.w (hks.below (hbe u) hB) (hks2.below (hbe u) hB) (Nat.le_trans hB (hbe u).size) (by have := hko.1; omega) (by have := hko2.1; omega)))
  have HSV := Lib.hid (fun u : Ext (w.heap.size + 2) W0 => ext_call u hsz (sameList_all n.vals m.vals va mva vc mvc B u.w (hvs.below (hbe u) hB) (hvs2.below (hbe u) hB) (Nat.le_trans hB (hbe u).size) (by have := hvo.1; omega) (by have := hvo2.1; omega)))
  have HBE := Lib.hid hbe
  have HW0 := Lib.hid hw0
  obtain ⟨u0, hu0⟩ := Ext.start (w.heap.size + 2) W0
  have HU0 := Lib.hid hu0
  have HR : Hid (∀ r, sameN n m = r → ∀ (u : Ext (w.heap.size + 2) W0), Ending.returned (.bool r) = Ending.returned (.bool (sameN n m)) ∧ Below w.heap.size w u.w) := Lib.hid (fun r h u => ⟨by rw [h], hbe u⟩)
  obtain ⟨Q, hQ⟩ : ∃ Q : Ending → World → Prop, (fun e w' => e = .returned (.bool (sameN n m)) ∧ Below w.heap.size w w') = Q := ⟨_, rfl⟩
  have HQ : Hid (∀ r, sameN n m = r → ∀ (u : Ext (w.heap.size + 2) W0), Q (.returned (.bool r)) u.w) := Lib.hid (fun r h u => by rw [← hQ]; exact ⟨by rw [h], hbe u⟩)
  rw [hQ]
  clear hQ HR hX hY hsz hl0 hl1 hbe hw0 hb0 hu0 hid hid2 hko hko2 hvo hvo2 hks hks2 hvs hvs2 hlo hlo2 hls hls2
  unfold sameN at HQ
  generalize decide (n.labels = m.labels) = rlabels at *
  generalize decide (n.keys = m.keys) = rkeys at *
  generalize sameVs n.vals m.vals = rvals at *
  generalize n.labels.length = nlabels at *
  generalize m.labels.length = mlabels at *
  generalize n.keys.length = nkeys at *
  generalize m.keys.length = mkeys at *
  generalize n.vals.length = nvals at *
  generalize m.vals.length = mvals at *
  generalize n.id = aid at *
  generalize m.id = bid at *
  by_cases hne : aid = bid
  · subst hne
    cases rlabels with
    | false =>
      have HF := Lib.hid (fun u => HQ.out false (by simp) u)
      clear HQ
      go_enter Try.func39, Try.ntmps39
      go_wp2_with fail
      rw [HW0.out, HU0.out]
      go_wp2_with (first | (go_at_call 67; (first | (with_reducible refine (HSK.out _).mono ?_) | (with_reducible refine (HSL.out _).mono ?_)); rintro e w1 ⟨rfl, u1, rfl⟩) | (go_at_call 68; with_reducible refine (HSV.out _).mono ?_; rintro e w1 ⟨rfl, u1, rfl⟩))
      exact HF.out _
    | true =>
      cases rkeys with
      | false =>
        have HF := Lib.hid (fun u => HQ.out false (by simp) u)
        clear HQ
        go_enter Try.func39, Try.ntmps39
        go_wp2_with fail
        rw [HW0.out, HU0.out]
        go_wp2_with (first | (go_at_call 67; (first | (with_reducible refine (HSK.out _).mono ?_) | (with_reducible refine (HSL.out _).mono ?_)); rintro e w1 ⟨rfl, u1, rfl⟩) | (go_at_call 68; with_reducible refine (HSV.out _).mono ?_; rintro e w1 ⟨rfl, u1, rfl⟩))
        exact HF.out _
      | true =>
        cases rvals with
        | false =>
          have HF := Lib.hid (fun u => HQ.out false (by simp) u)
          clear HQ
          go_enter Try.func39, Try.ntmps39
          go_wp2_with fail
          rw [HW0.out, HU0.out]
          go_wp2_with (first | (go_at_call 67; (first | (with_reducible refine (HSK.out _).mono ?_) | (with_reducible refine (HSL.out _).mono ?_)); rintro e w1 ⟨rfl, u1, rfl⟩) | (go_at_call 68; with_reducible refine (HSV.out _).mono ?_; rintro e w1 ⟨rfl, u1, rfl⟩))
          exact HF.out _
        | true =>
          have HF := Lib.hid (fun u => HQ.out true (by simp) u)
          clear HQ
          go_enter Try.func39, Try.ntmps39
          go_wp2_with fail
          rw [HW0.out, HU0.out]
          go_wp2_with (first | (go_at_call 67; (first | (with_reducible refine (HSK.out _).mono ?_) | (with_reducible refine (HSL.out _).mono ?_)); rintro e w1 ⟨rfl, u1, rfl⟩) | (go_at_call 68; with_reducible refine (HSV.out _).mono ?_; rintro e w1 ⟨rfl, u1, rfl⟩))
          exact HF.out _
  · have HF := Lib.hid (fun u => HQ.out false (by simp [hne]) u)
    clear HQ
    have hne2 : (aid == bid) = false := by simpa using hne
    clear hne
    go_enter Try.func39, Try.ntmps39
    go_wp2_with fail
    rw [HW0.out, HU0.out]
    go_wp2_with (first | (go_at_call 67; (first | (with_reducible refine (HSK.out _).mono ?_) | (with_reducible refine (HSL.out _).mono ?_)); rintro e w1 ⟨rfl, u1, rfl⟩) | (go_at_call 68; with_reducible refine (HSV.out _).mono ?_; rintro e w1 ⟨rfl, u1, rfl⟩))
    exact HF.out _

set_option maxHeartbeats 8000000 in
theorem sameE_any (n m : Et) (cs ds : List Value) (B : Nat) (w : World) (hn : IsE B w cs n) (hm : IsE B w ds m) (hB : B ≤ w.heap.size) :
    Calls Try.prog 60 #[.agg cs.toArray, .agg ds.toArray] w fun e w' => e = .returned (.bool (sameE n m)) ∧ Below w.heap.size w w' := by
  obtain ⟨ka, kc, va, vc, rfl, hid, hko, hvo, hks, hvs⟩ := hn
  obtain ⟨mka, mkc, mva, mvc, rfl, hid2, hko2, hvo2, hks2, hvs2⟩ := hm
  show Calls Try.prog 60 #[.agg #[.int .i64 n.id, .int .i64 n.src, .int .i64 n.dst, .string n.ty, .slice ka n.keys.length kc, .slice va n.vals.length vc], .agg #[.int .i64 m.id, .int .i64 m.src, .int .i64 m.dst, .string m.ty, .slice mka m.keys.length mkc, .slice mva m.vals.length mvc]] w _
  obtain ⟨W0, hw0⟩ : ∃ w0, (w.alloc (.cells #[.int .i64 n.id, .int .i64 n.src, .int .i64 n.dst, .string n.ty, .slice ka n.keys.length kc, .slice va n.vals.length vc] 40)).alloc (.cells #[.int .i64 m.id, .int .i64 m.src, .int .i64 m.dst, .string m.ty, .slice mka m.keys.length mkc, .slice mva m.vals.length mvc] 40) = w0 := ⟨_, rfl⟩
  have hb0 : Below w.heap.size w W0 := by rw [← hw0]; exact ((Below.refl _ _).alloc (Nat.le_refl _) _).alloc (by simp) _
  have hX : Block W0 w.heap.size [.int .i64 n.id, .int .i64 n.src, .int .i64 n.dst, .string n.ty, .slice ka n.keys.length kc, .slice va n.vals.length vc] 40 := by rw [← hw0]; exact (Block.new w _ _).alloc _
  have hY : Block W0 (w.heap.size + 1) [.int .i64 m.id, .int .i64 m.src, .int .i64 m.dst, .string m.ty, .slice mka m.keys.length mkc, .slice mva m.vals.length mvc] 40 := by rw [← hw0]; have := Block.new (w.alloc (.cells #[.int .i64 n.id, .int .i64 n.src, .int .i64 n.dst, .string n.ty, .slice ka n.keys.length kc, .slice va n.vals.length vc] 40)) [.int .i64 m.id, .int .i64 m.src, .int .i64 m.dst, .string m.ty, .slice mka m.keys.length mkc, .slice mva m.vals.length mvc] 40; simpa using this
  have hsz : w.heap.size + 2 ≤ W0.heap.size := by rw [← hw0]; simp
  have hl0 : w.heap.size < w.heap.size + 2 := by omega
  have hl1 : w.heap.size + 1 < w.heap.size + 2 := by omega
  have hbe : ∀ u : Ext (w.heap.size + 2) W0, Below w.heap.size w u.w := fun u => hb0.trans (u.below.mono (by omega))
  have x0 : ∀ u : Ext (w.heap.size + 2) W0, u.w.cell? ⟨w.heap.size, 0, none⟩ = some (.int .i64 n.id) := fun u => u.cell hl0 (hX.cell rfl)
  have x1 : ∀ u : Ext (w.heap.size + 2) W0, u.w.cell? ⟨w.heap.size, 1, none⟩ = some (.int .i64 n.src) := fun u => u.cell hl0 (hX.cell rfl)
  have x2 : ∀ u : Ext (w.heap.size + 2) W0, u.w.cell? ⟨w.heap.size, 2, none⟩ = some (.int .i64 n.dst) := fun u => u.cell hl0 (hX.cell rfl)
  have x3 : ∀ u : Ext (w.heap.size + 2) W0, u.w.cell? ⟨w.heap.size, 3, none⟩ = some (.string n.ty) := fun u => u.cell hl0 (hX.cell rfl)
  have x4 : ∀ u : Ext (w.heap.size + 2) W0, u.w.cell? ⟨w.heap.size, 4, none⟩ = some (.slice ka n.keys.length kc) := fun u => u.cell hl0 (hX.cell rfl)
  have x5 : ∀ u : Ext (w.heap.size + 2) W0, u.w.cell? ⟨w.heap.size, 5, none⟩ = some (.slice va n.vals.length vc) := fun u => u.cell hl0 (hX.cell rfl)
  have y0 : ∀ u : Ext (w.heap.size + 2) W0, u.w.cell? ⟨w.heap.size + 1, 0, none⟩ = some (.int .i64 m.id) := fun u => u.cell hl1 (hY.cell rfl)
  have y1 : ∀ u : Ext (w.heap.size + 2) W0, u.w.cell? ⟨w.heap.size + 1, 1, none⟩ = some (.int .i64 m.src) := fun u => u.cell hl1 (hY.cell rfl)
  have y2 : ∀ u : Ext (w.heap.size + 2) W0, u.w.cell? ⟨w.heap.size + 1, 2, none⟩ = some (.int .i64 m.dst) := fun u => u.cell hl1 (hY.cell rfl)
  have y3 : ∀ u : Ext (w.heap.size + 2) W0, u.w.cell? ⟨w.heap.size + 1, 3, none⟩ = some (.string m.ty) := fun u => u.cell hl1 (hY.cell rfl)
  have y4 : ∀ u : Ext (w.heap.size + 2) W0, u.w.cell? ⟨w.heap.size + 1, 4, none⟩ = some (.slice mka m.keys.length mkc) := fun u => u.cell hl1 (hY.cell rfl)
  have y5 : ∀ u : Ext (w.heap.size + 2) W0, u.w.cell? ⟨w.heap.size + 1, 5, none⟩ = some (.slice mva m.vals.length mvc) := fun u => u.cell hl1 (hY.cell rfl)
  have HSK := Lib.hid (fun u : Ext (w.heap.size + 2) W0 => ext_call u hsz (sameNames_any n.keys m.keys ka mka kc mkc B u.w (hks.below (hbe u) hB) (hks2.below (hbe u) hB) (Nat.le_trans hB (hbe u).size) (by have := hko.1; omega) (by have := hko2.1; omega)))
  have HSV := Lib.hid (fun u : Ext (w.heap.size + 2) W0 => ext_call u hsz (sameList_all n.vals m.vals va mva vc mvc B u.w (hvs.below (hbe u) hB) (hvs2.below (hbe u) hB) (Nat.le_trans hB (hbe u).size) (by have := hvo.1; omega) (by have := hvo2.1; omega)))
  have HBE := Lib.hid hbe
  have HW0 := Lib.hid hw0
  obtain ⟨u0, hu0⟩ := Ext.start (w.heap.size + 2) W0
  have HU0 := Lib.hid hu0
  have HR : Hid (∀ r, sameE n m = r → ∀ (u : Ext (w.heap.size + 2) W0), Ending.returned (.bool r) = Ending.returned (.bool (sameE n m)) ∧ Below w.heap.size w u.w) := Lib.hid (fun r h u => ⟨by rw [h], hbe u⟩)
  obtain ⟨Q, hQ⟩ : ∃ Q : Ending → World → Prop, (fun e w' => e = .returned (.bool (sameE n m)) ∧ Below w.heap.size w w') = Q := ⟨_, rfl⟩
  have HQ : Hid (∀ r, sameE n m = r → ∀ (u : Ext (w.heap.size + 2) W0), Q (.returned (.bool r)) u.w) := Lib.hid (fun r h u => by rw [← hQ]; exact ⟨by rw [h], hbe u⟩)
  rw [hQ]
  clear hQ HR hX hY hsz hl0 hl1 hbe hw0 hb0 hu0 hid hid2 hko hko2 hvo hvo2 hks hks2 hvs hvs2
  unfold sameE at HQ
  generalize decide (n.keys = m.keys) = rkeys at *
  generalize sameVs n.vals m.vals = rvals at *
  generalize n.keys.length = nkeys at *
  generalize m.keys.length = mkeys at *
  generalize n.vals.length = nvals at *
  generalize m.vals.length = mvals at *
  generalize n.id = aid at *
  generalize m.id = bid at *
  generalize n.src = asrc at *
  generalize m.src = bsrc at *
  generalize n.dst = adst at *
  generalize m.dst = bdst at *
  generalize n.ty = aty at *
  generalize m.ty = bty at *
  by_cases hne : aid = bid
  · subst hne
    by_cases hne : asrc = bsrc
    · subst hne
      by_cases hne : adst = bdst
      · subst hne
        by_cases hne : aty = bty
        · subst hne
          cases rkeys with
          | false =>
            have HF := Lib.hid (fun u => HQ.out false (by simp) u)
            clear HQ
            go_enter Try.func60, Try.ntmps60
            go_wp2_with fail
            rw [HW0.out, HU0.out]
            go_wp2_with (first | (go_at_call 67; (first | (with_reducible refine (HSK.out _).mono ?_)); rintro e w1 ⟨rfl, u1, rfl⟩) | (go_at_call 68; with_reducible refine (HSV.out _).mono ?_; rintro e w1 ⟨rfl, u1, rfl⟩))
            exact HF.out _
          | true =>
            cases rvals with
            | false =>
              have HF := Lib.hid (fun u => HQ.out false (by simp) u)
              clear HQ
              go_enter Try.func60, Try.ntmps60
              go_wp2_with fail
              rw [HW0.out, HU0.out]
              go_wp2_with (first | (go_at_call 67; (first | (with_reducible refine (HSK.out _).mono ?_)); rintro e w1 ⟨rfl, u1, rfl⟩) | (go_at_call 68; with_reducible refine (HSV.out _).mono ?_; rintro e w1 ⟨rfl, u1, rfl⟩))
              exact HF.out _
            | true =>
              have HF := Lib.hid (fun u => HQ.out true (by simp) u)
              clear HQ
              go_enter Try.func60, Try.ntmps60
              go_wp2_with fail
              rw [HW0.out, HU0.out]
              go_wp2_with (first | (go_at_call 67; (first | (with_reducible refine (HSK.out _).mono ?_)); rintro e w1 ⟨rfl, u1, rfl⟩) | (go_at_call 68; with_reducible refine (HSV.out _).mono ?_; rintro e w1 ⟨rfl, u1, rfl⟩))
              exact HF.out _
        · have HF := Lib.hid (fun u => HQ.out false (by simp [hne]) u)
          clear HQ
          have hne2 : (aty.toList == bty.toList) = false := by rw [ba_beq]; simpa using hne
          have hne3 : ¬ aty.toList = bty.toList := by simpa using hne2
          clear hne
          go_enter Try.func60, Try.ntmps60
          go_wp2_with fail
          rw [HW0.out, HU0.out]
          go_wp2_with (first | (go_at_call 67; (first | (with_reducible refine (HSK.out _).mono ?_)); rintro e w1 ⟨rfl, u1, rfl⟩) | (go_at_call 68; with_reducible refine (HSV.out _).mono ?_; rintro e w1 ⟨rfl, u1, rfl⟩))
          exact HF.out _
      · have HF := Lib.hid (fun u => HQ.out false (by simp [hne]) u)
        clear HQ
        have hne2 : (adst == bdst) = false := by simpa using hne
        clear hne
        go_enter Try.func60, Try.ntmps60
        go_wp2_with fail
        rw [HW0.out, HU0.out]
        go_wp2_with (first | (go_at_call 67; (first | (with_reducible refine (HSK.out _).mono ?_)); rintro e w1 ⟨rfl, u1, rfl⟩) | (go_at_call 68; with_reducible refine (HSV.out _).mono ?_; rintro e w1 ⟨rfl, u1, rfl⟩))
        exact HF.out _
    · have HF := Lib.hid (fun u => HQ.out false (by simp [hne]) u)
      clear HQ
      have hne2 : (asrc == bsrc) = false := by simpa using hne
      clear hne
      go_enter Try.func60, Try.ntmps60
      go_wp2_with fail
      rw [HW0.out, HU0.out]
      go_wp2_with (first | (go_at_call 67; (first | (with_reducible refine (HSK.out _).mono ?_)); rintro e w1 ⟨rfl, u1, rfl⟩) | (go_at_call 68; with_reducible refine (HSV.out _).mono ?_; rintro e w1 ⟨rfl, u1, rfl⟩))
      exact HF.out _
  · have HF := Lib.hid (fun u => HQ.out false (by simp [hne]) u)
    clear HQ
    have hne2 : (aid == bid) = false := by simpa using hne
    clear hne
    go_enter Try.func60, Try.ntmps60
    go_wp2_with fail
    rw [HW0.out, HU0.out]
    go_wp2_with (first | (go_at_call 67; (first | (with_reducible refine (HSK.out _).mono ?_)); rintro e w1 ⟨rfl, u1, rfl⟩) | (go_at_call 68; with_reducible refine (HSV.out _).mono ?_; rintro e w1 ⟨rfl, u1, rfl⟩))
    exact HF.out _
end Go.Proofs.Ytoakloicjlfaaaa

/- Layer 14: whether two lists of edges, two graphs are the same: the reference's answer. Conditions: none. -/
namespace Go.Proofs.Ytoakloicjlfaaaa
open Go.RowKit
set_option linter.unusedSimpArgs false
set_option linter.unusedVariables false
set_option maxRecDepth 100000

theorem sameL_nil {α : Type} {f : α → α → Bool} {l m : List α} (h : l.length = m.length) : sameL f (l.drop l.length) (m.drop l.length) = true := by
  rw [List.drop_eq_nil_of_le (Nat.le_refl _), List.drop_eq_nil_of_le (by omega)]; rfl

set_option maxHeartbeats 8000000 in
theorem sameEdges_any (l m : List Et) (a b : Option Addr) (c d B : Nat) (w : World) (hl : RowR (IsE B w) 6 B w a l) (hm : RowR (IsE B w) 6 B w b m) (hB : B ≤ w.heap.size) (hll : l.length ≤ 9223372036854775807) (hml : m.length ≤ 9223372036854775807) :
    Calls Try.prog 28 #[.slice a l.length c, .slice b m.length d] w fun e w' => e = .returned (.bool (sameL sameE l m)) ∧ Below w.heap.size w w' := by
  obtain ⟨W0, hw0⟩ : ∃ w0, w = w0 := ⟨_, rfl⟩
  have hbe : ∀ u : Ext w.heap.size W0, Below w.heap.size w u.w := by subst hw0; exact fun u => u.below
  have hsz : w.heap.size ≤ W0.heap.size := by rw [← hw0]; exact Nat.le_refl _
  have HBE := Lib.hid hbe
  have HSZ := Lib.hid hsz
  have HL := Lib.hid hl
  have HM := Lib.hid hm
  obtain ⟨Q, hQ⟩ : ∃ Q : Ending → World → Prop, (fun e w' => e = .returned (.bool (sameL sameE l m)) ∧ Below w.heap.size w w') = Q := ⟨_, rfl⟩
  have HQ : Hid (∀ r, sameL sameE l m = r → ∀ (u : Ext w.heap.size W0), Q (.returned (.bool r)) u.w) := Lib.hid (fun r h u => by rw [← hQ]; exact ⟨by rw [h], hbe u⟩)
  rw [hQ]
  clear hQ
  obtain ⟨u0, hu0⟩ := Ext.start w.heap.size W0
  have HU0 := Lib.hid (hw0.trans hu0)
  obtain ⟨n1, hn1⟩ : ∃ n, l.length = n := ⟨_, rfl⟩
  obtain ⟨n2, hn2⟩ : ∃ n, m.length = n := ⟨_, rfl⟩
  rw [hn1, hn2]
  rw [hn1] at hll
  rw [hn2] at hml
  by_cases hne : n1 = n2
  · have HLEN : Hid (l.length = n1 ∧ m.length = n1) := Lib.hid ⟨hn1, hn2.trans hne.symm⟩
    clear hl hm hbe hsz hw0 hu0 hml
    rw [← hne]
    clear hne hn2 hn1 n2
    go_enter Try.func28, Try.ntmps28
    go_wp2_with fail
    rw [HU0.out]
    go_loopw [5] (fun iv wr => ∃ (j : Nat) (u : Ext w.heap.size W0), iv = .int .i64 j ∧ j ≤ n1 ∧ Hid (sameL sameE l m = sameL sameE (l.drop j) (m.drop j)) ∧ wr = u.w) (fun iv _ => n1 - (intOf iv).toNat)
    case atStart => exact ⟨0, u0, rfl, Nat.zero_le _, Lib.hid rfl, rfl⟩
    case round =>
      obtain ⟨j, u, rfl, hj, HST, rfl⟩ := hrel
      by_cases hlt : j < n1
      · have hlt' : (j : Int) < n1 := by omega
        have hj0 : (0 : Int) ≤ (j : Int) := by omega
        have hwi : IntKind.i64.wrap ((j : Int) + 1) = (j : Int) + 1 := IntWalk.i64_in _ (by omega)
        obtain ⟨n, hnj⟩ : ∃ n, l[j]? = some n := by have := HLEN.out; obtain ⟨n, h⟩ := get_some (l := l) (j := j) (by omega); exact ⟨n, h⟩
        obtain ⟨m1, hmj⟩ : ∃ n, m[j]? = some n := by have := HLEN.out; obtain ⟨n, h⟩ := get_some (l := m) (j := j) (by omega); exact ⟨n, h⟩
        obtain ⟨b, off, cs, rfl, hbB, _, hc, hcell⟩ := HL.out.ext HBE.out hB hnj
        obtain ⟨b2, off2, cs2, rfl, hbB2, _, hc2, hcell2⟩ := HM.out.ext HBE.out hB hmj
        have HCS := Lib.hid (fun u : Ext w.heap.size W0 => ext_call u HSZ.out (sameE_any n m1 cs cs2 B u.w (hc.below (HBE.out u) hB) (hc2.below (HBE.out u) hB) (Nat.le_trans hB (HBE.out u).size)))
        have hst := sameL_at (f := sameE) hnj hmj
        obtain ⟨ka, kc, va, vc, rfl, -, -⟩ := hc
        obtain ⟨mka, mkc, mva, mvc, rfl, -, -⟩ := hc2
        have k0 : ∀ u : Ext w.heap.size W0, u.w.cell? ⟨b, off + j * 6, none⟩ = some (.int .i64 n.id) := fun u => hcell u 0 _ rfl
        have q0 : ∀ u : Ext w.heap.size W0, u.w.cell? ⟨b2, off2 + j * 6, none⟩ = some (.int .i64 m1.id) := fun u => hcell2 u 0 _ rfl
        have k1 := fun u => hcell u 1 _ rfl
        have q1 := fun u => hcell2 u 1 _ rfl
        have k2 := fun u => hcell u 2 _ rfl
        have q2 := fun u => hcell2 u 2 _ rfl
        have k3 := fun u => hcell u 3 _ rfl
        have q3 := fun u => hcell2 u 3 _ rfl
        have k4 := fun u => hcell u 4 _ rfl
        have q4 := fun u => hcell2 u 4 _ rfl
        have k5 := fun u => hcell u 5 _ rfl
        have q5 := fun u => hcell2 u 5 _ rfl
        clear hcell hcell2 hnj hmj
        cases hok : sameE n m1 with
        | false =>
          rw [hok] at HCS hst
          have HF := Lib.hid (HST.out.trans (hst.trans (Bool.false_and _)))
          clear hok hst
          generalize n.keys.length = nkeys at *
          generalize n.vals.length = nvals at *
          generalize m1.keys.length = mkeys at *
          generalize m1.vals.length = mvals at *
          generalize n.id = i0 at *
          generalize m1.id = i1 at *
          generalize n.src = a0 at *
          generalize m1.src = a1 at *
          generalize n.dst = d0 at *
          generalize m1.dst = d1 at *
          generalize n.ty = t0 at *
          generalize m1.ty = t1 at *
          go_wp2_with fail
          refine wp_region_at u (by kernel_rfl) (by kernel_rfl) ?_
          repeat (go_big_quiet_step (first | (with_reducible exact HCS.out _)))
          refine wpQuiet_nil ?_
          rintro w2 ⟨u2, rfl⟩
          go_wp2_with fail
          exact HQ.out _ (HF.out) u2
        | true =>
          rw [hok] at HCS hst
          have HF := Lib.hid (HST.out.trans (hst.trans (Bool.true_and _)))
          clear hok hst
          generalize n.keys.length = nkeys at *
          generalize n.vals.length = nvals at *
          generalize m1.keys.length = mkeys at *
          generalize m1.vals.length = mvals at *
          generalize n.id = i0 at *
          generalize m1.id = i1 at *
          generalize n.src = a0 at *
          generalize m1.src = a1 at *
          generalize n.dst = d0 at *
          generalize m1.dst = d1 at *
          generalize n.ty = t0 at *
          generalize m1.ty = t1 at *
          go_wp2_with fail
          refine wp_region_at u (by kernel_rfl) (by kernel_rfl) ?_
          repeat (go_big_quiet_step (first | (with_reducible exact HCS.out _)))
          refine wpQuiet_nil ?_
          rintro w2 ⟨u2, rfl⟩
          go_wp2_with fail
          go_roundw
          case rel => exact ⟨j + 1, u2, by go_num, by omega, HF, rfl⟩
          case measure => simp [intOf]; omega
      · have hlt' : ¬ (j : Int) < n1 := by omega
        have hjn : j = n1 := by omega
        have HF : Hid (sameL sameE l m = true) := Lib.hid (by have h1 := HST.out; have h2 := HLEN.out; rw [h1, hjn, ← h2.1]; exact sameL_nil (h2.1.trans h2.2.symm))
        clear hjn
        go_wp2_with fail
        exact HQ.out _ HF.out u
  · have hne' : ((n1 : Int) == (n2 : Int)) = false := by simp; omega
    have hne2 : ¬ (n1 : Int) = (n2 : Int) := by omega
    have hne3 : ((n1 : Int) != (n2 : Int)) = true := by simp; omega
    have HF : Hid (sameL sameE l m = false) := Lib.hid (sameL_len (by omega))
    clear hl hm hbe hsz hw0 hu0 hne hn1 hn2
    go_enter Try.func28, Try.ntmps28
    go_wp2_with fail
    rw [HU0.out]
    exact HQ.out _ HF.out u0

set_option maxHeartbeats 8000000 in
theorem sameG_any (g h : Gt) (cs ds : List Value) (B : Nat) (w : World) (hg : IsG B w cs g) (hh : IsG B w ds h) (hB : B ≤ w.heap.size) :
    Calls Try.prog 10 #[.agg cs.toArray, .agg ds.toArray] w fun e w' => e = .returned (.bool (sameG g h)) ∧ Below w.heap.size w w' := by
  obtain ⟨na, nc, ea, ec, rfl, hn, he, hN, hE⟩ := hg
  obtain ⟨mna, mnc, mea, mec, rfl, hn2, he2, hN2, hE2⟩ := hh
  show Calls Try.prog 10 #[.agg #[.slice na g.nodes.length nc, .slice ea g.edges.length ec], .agg #[.slice mna h.nodes.length mnc, .slice mea h.edges.length mec]] w _
  obtain ⟨W0, hw0⟩ : ∃ w0, (w.alloc (.cells #[.slice na g.nodes.length nc, .slice ea g.edges.length ec] 25)).alloc (.cells #[.slice mna h.nodes.length mnc, .slice mea h.edges.length mec] 25) = w0 := ⟨_, rfl⟩
  have hb0 : Below w.heap.size w W0 := by rw [← hw0]; exact ((Below.refl _ _).alloc (Nat.le_refl _) _).alloc (by simp) _
  have hX : Block W0 w.heap.size [.slice na g.nodes.length nc, .slice ea g.edges.length ec] 25 := by rw [← hw0]; exact (Block.new w _ _).alloc _
  have hY : Block W0 (w.heap.size + 1) [.slice mna h.nodes.length mnc, .slice mea h.edges.length mec] 25 := by rw [← hw0]; have := Block.new (w.alloc (.cells #[.slice na g.nodes.length nc, .slice ea g.edges.length ec] 25)) [.slice mna h.nodes.length mnc, .slice mea h.edges.length mec] 25; simpa using this
  have hsz : w.heap.size + 2 ≤ W0.heap.size := by rw [← hw0]; simp
  have hl0 : w.heap.size < w.heap.size + 2 := by omega
  have hl1 : w.heap.size + 1 < w.heap.size + 2 := by omega
  have hbe : ∀ u : Ext (w.heap.size + 2) W0, Below w.heap.size w u.w := fun u => hb0.trans (u.below.mono (by omega))
  have x0 : ∀ u : Ext (w.heap.size + 2) W0, u.w.cell? ⟨w.heap.size, 0, none⟩ = some (.slice na g.nodes.length nc) := fun u => u.cell hl0 (hX.cell rfl)
  have x1 : ∀ u : Ext (w.heap.size + 2) W0, u.w.cell? ⟨w.heap.size, 1, none⟩ = some (.slice ea g.edges.length ec) := fun u => u.cell hl0 (hX.cell rfl)
  have y0 : ∀ u : Ext (w.heap.size + 2) W0, u.w.cell? ⟨w.heap.size + 1, 0, none⟩ = some (.slice mna h.nodes.length mnc) := fun u => u.cell hl1 (hY.cell rfl)
  have y1 : ∀ u : Ext (w.heap.size + 2) W0, u.w.cell? ⟨w.heap.size + 1, 1, none⟩ = some (.slice mea h.edges.length mec) := fun u => u.cell hl1 (hY.cell rfl)
  have HSE := Lib.hid (fun u : Ext (w.heap.size + 2) W0 => ext_call u hsz (sameEdges_any g.edges h.edges ea mea ec mec B u.w (hE.below (hbe u) hB (fun _ _ h => h.below (hbe u) hB)) (hE2.below (hbe u) hB (fun _ _ h => h.below (hbe u) hB)) (Nat.le_trans hB (hbe u).size) (by have := he.1; omega) (by have := he2.1; omega)))
  have HBE := Lib.hid hbe
  have HSZ := Lib.hid hsz
  have HL := Lib.hid hN
  have HM := Lib.hid hN2
  obtain ⟨Q, hQ⟩ : ∃ Q : Ending → World → Prop, (fun e w' => e = .returned (.bool (sameG g h)) ∧ Below w.heap.size w w') = Q := ⟨_, rfl⟩
  have HQ : Hid (∀ r, sameG g h = r → ∀ (u : Ext (w.heap.size + 2) W0), Q (.returned (.bool r)) u.w) := Lib.hid (fun r h u => by rw [← hQ]; exact ⟨by rw [h], hbe u⟩)
  rw [hQ]
  clear hQ
  have HW0 := Lib.hid hw0
  obtain ⟨u0, hu0⟩ := Ext.start (w.heap.size + 2) W0
  have HU0 := Lib.hid hu0
  have hll : g.nodes.length ≤ 9223372036854775807 := by have := hn.1; omega
  have hml : h.nodes.length ≤ 9223372036854775807 := by have := hn2.1; omega
  clear hX hY hsz hl0 hl1 hbe hw0 hb0 hu0 hE hE2 hN hN2 hn hn2 he he2
  generalize hrE : sameL sameE g.edges h.edges = rE at *
  have HRE := Lib.hid hrE
  clear hrE
  generalize g.edges.length = e1 at *
  generalize h.edges.length = e2 at *
  obtain ⟨n1, hn1⟩ : ∃ n, g.nodes.length = n := ⟨_, rfl⟩
  obtain ⟨n2, hn2⟩ : ∃ n, h.nodes.length = n := ⟨_, rfl⟩
  rw [hn1] at hll x0 HW0 ⊢
  rw [hn2] at hml y0 HW0 ⊢
  by_cases hne : n1 = n2
  · have HLEN : Hid (g.nodes.length = n1 ∧ h.nodes.length = n1) := Lib.hid ⟨hn1, hn2.trans hne.symm⟩
    subst hne
    clear hn2 hn1 hml
    go_enter Try.func10, Try.ntmps10
    go_wp2_with fail
    rw [HW0.out, HU0.out]
    go_wp2_with fail
    go_loopw [5] (fun iv wr => ∃ (j : Nat) (u : Ext (w.heap.size + 2) W0), iv = .int .i64 j ∧ j ≤ n1 ∧ Hid (sameL sameN g.nodes h.nodes = sameL sameN (g.nodes.drop j) (h.nodes.drop j)) ∧ wr = u.w) (fun iv _ => n1 - (intOf iv).toNat)
    case atStart => exact ⟨0, u0, rfl, Nat.zero_le _, Lib.hid rfl, rfl⟩
    case round =>
      obtain ⟨j, u, rfl, hj, HST, rfl⟩ := hrel
      by_cases hlt : j < n1
      · have hlt' : (j : Int) < n1 := by omega
        have hj0 : (0 : Int) ≤ (j : Int) := by omega
        have hwi : IntKind.i64.wrap ((j : Int) + 1) = (j : Int) + 1 := IntWalk.i64_in _ (by omega)
        obtain ⟨n, hnj⟩ : ∃ n, g.nodes[j]? = some n := by have := HLEN.out; obtain ⟨n, h⟩ := get_some (l := g.nodes) (j := j) (by omega); exact ⟨n, h⟩
        obtain ⟨m1, hmj⟩ : ∃ n, h.nodes[j]? = some n := by have := HLEN.out; obtain ⟨n, h⟩ := get_some (l := h.nodes) (j := j) (by omega); exact ⟨n, h⟩
        obtain ⟨b, off, cs, rfl, hbB, _, hc, hcell⟩ := HL.out.ext HBE.out hB hnj
        obtain ⟨b2, off2, cs2, rfl, hbB2, _, hc2, hcell2⟩ := HM.out.ext HBE.out hB hmj
        have HCS := Lib.hid (fun u : Ext (w.heap.size + 2) W0 => ext_call u HSZ.out (sameN_any n m1 cs cs2 B u.w (hc.below (HBE.out u) hB) (hc2.below (HBE.out u) hB) (Nat.le_trans hB (HBE.out u).size)))
        have hst := sameL_at (f := sameN) hnj hmj
        obtain ⟨la, lc, ka, kc, va, vc, rfl, -, -, -, -⟩ := hc
        obtain ⟨mla, mlc, mka, mkc, mva, mvc, rfl, -, -, -, -⟩ := hc2
        have k0 : ∀ u : Ext (w.heap.size + 2) W0, u.w.cell? ⟨b, off + j * 4, none⟩ = some (.int .i64 n.id) := fun u => hcell u 0 _ rfl
        have q0 : ∀ u : Ext (w.heap.size + 2) W0, u.w.cell? ⟨b2, off2 + j * 4, none⟩ = some (.int .i64 m1.id) := fun u => hcell2 u 0 _ rfl
        have k1 := fun u => hcell u 1 _ rfl
        have q1 := fun u => hcell2 u 1 _ rfl
        have k2 := fun u => hcell u 2 _ rfl
        have q2 := fun u => hcell2 u 2 _ rfl
        have k3 := fun u => hcell u 3 _ rfl
        have q3 := fun u => hcell2 u 3 _ rfl
        clear hcell hcell2 hnj hmj
        cases hok : sameN n m1 with
        | false =>
          rw [hok] at HCS hst
          have HF := Lib.hid (HST.out.trans (hst.trans (Bool.false_and _)))
          clear hok hst
          generalize n.labels.length = nlabels at *
          generalize n.keys.length = nkeys at *
          generalize n.vals.length = nvals at *
          generalize m1.labels.length = mlabels at *
          generalize m1.keys.length = mkeys at *
          generalize m1.vals.length = mvals at *
          generalize n.id = i0 at *
          generalize m1.id = i1 at *
          go_wp2_with fail
          refine wp_region_at u (by kernel_rfl) (by kernel_rfl) ?_
          repeat (go_big_quiet_step (first | (with_reducible exact HCS.out _)))
          refine wpQuiet_nil ?_
          rintro w2 ⟨u2, rfl⟩
          go_wp2_with fail
          exact HQ.out _ (by unfold sameG; rw [HF.out]; rfl) u2
        | true =>
          rw [hok] at HCS hst
          have HF := Lib.hid (HST.out.trans (hst.trans (Bool.true_and _)))
          clear hok hst
          generalize n.labels.length = nlabels at *
          generalize n.keys.length = nkeys at *
          generalize n.vals.length = nvals at *
          generalize m1.labels.length = mlabels at *
          generalize m1.keys.length = mkeys at *
          generalize m1.vals.length = mvals at *
          generalize n.id = i0 at *
          generalize m1.id = i1 at *
          go_wp2_with fail
          refine wp_region_at u (by kernel_rfl) (by kernel_rfl) ?_
          repeat (go_big_quiet_step (first | (with_reducible exact HCS.out _)))
          refine wpQuiet_nil ?_
          rintro w2 ⟨u2, rfl⟩
          go_wp2_with fail
          go_roundw
          case rel => exact ⟨j + 1, u2, by go_num, by omega, HF, rfl⟩
          case measure => simp [intOf]; omega
      · have hlt' : ¬ (j : Int) < n1 := by omega
        have hjn : j = n1 := by omega
        have HF : Hid (sameL sameN g.nodes h.nodes = true) := Lib.hid (by have h1 := HST.out; have h2 := HLEN.out; rw [h1, hjn, ← h2.1]; exact sameL_nil (h2.1.trans h2.2.symm))
        clear hjn
        go_wp2_with fail
        refine (HSE.out u).mono ?_
        rintro e w2 ⟨rfl, u2, rfl⟩
        go_wp2_with fail
        exact HQ.out _ (by unfold sameG; rw [HF.out, HRE.out]; rfl) u2
  · have hne' : ((n1 : Int) == (n2 : Int)) = false := by simp; omega
    have hne2 : ¬ (n1 : Int) = (n2 : Int) := by omega
    have hne3 : ((n1 : Int) != (n2 : Int)) = true := by simp; omega
    have HF : Hid (sameG g h = false) := Lib.hid (by unfold sameG; rw [sameL_len (f := sameN) (by omega)]; rfl)
    clear hne hn1 hn2
    go_enter Try.func10, Try.ntmps10
    go_wp2_with fail
    rw [HW0.out, HU0.out]
    go_wp2_with fail
    exact HQ.out _ HF.out u0
end Go.Proofs.Ytoakloicjlfaaaa

/- Layer 14, in plain words: a node that is put and dropped again, an edge that is joined and cut again, leave the graph as it was. Conditions: the graph may be. -/
namespace Go.Proofs.Ytoakloicjlfaaaa
open Go.RowKit
set_option linter.unusedSimpArgs false
set_option linter.unusedVariables false

theorem rise_step {l : List Int} (h : ∀ (m : Nat) x y, l[m]? = some x → l[m + 1]? = some y → x < y) : RiseI l := by
  have key : ∀ (d i : Nat) x y, l[i]? = some x → l[i + d + 1]? = some y → x < y := by
    intro d
    induction d with
    | zero => exact fun i x y hx hy => h i x y hx hy
    | succ d ih =>
      intro i x y hx hy
      have hlt : i + (d + 1) + 1 < l.length := (List.getElem?_eq_some_iff.1 hy).1
      obtain ⟨z, hz⟩ := get_some (l := l) (j := i + d + 1) (by omega)
      have h1 := ih i x z hx hz
      have h2 := h (i + d + 1) z y hz (by rw [show i + d + 1 + 1 = i + (d + 1) + 1 from by omega]; exact hy)
      omega
  intro i j x y hij hx hy
  exact key (j - i - 1) i x y hx (by rw [show i + (j - i - 1) + 1 = j from by omega]; exact hy)
structure MayG (g : Gt) : Prop where
  nodes : ∀ (j : Nat) n, g.nodes[j]? = some n → mayN n = true
  edges : ∀ (j : Nat) n, g.edges[j]? = some n → mayE n = true
  riseN : RiseI (idsN g)
  riseE : RiseI (idsE g)
  ends : ∀ (j : Nat) e, g.edges[j]? = some e → hasI (idsN g) e.src = true ∧ hasI (idsN g) e.dst = true
  lenN : g.nodes.length ≤ 4096
  lenE : g.edges.length ≤ 4096
theorem MayG.of {g : Gt} (h : mayG g = true) : MayG g := by
  unfold mayG at h
  simp only [Bool.and_eq_true, decide_eq_true_eq] at h
  obtain ⟨⟨⟨h1, h2⟩, h3⟩, h4⟩ := h
  have hn : ∀ (j : Nat) n, g.nodes[j]? = some n → nodeOk g.nodes j = true := fun j n hj => allB_at h1 (List.getElem?_eq_some_iff.1 hj).1
  have he : ∀ (j : Nat) n, g.edges[j]? = some n → ordE g.edges j = true ∧ endsE g j = true := fun j n hj => by
    have := allB_at h2 (i := j) (List.getElem?_eq_some_iff.1 hj).1
    unfold edgeOk at this
    simpa [Bool.and_eq_true] using this
  have hmn : ∀ (j : Nat) n, g.nodes[j]? = some n → mayN n = true := fun j n hj => by
    cases hm : mayN n with
    | true => rfl
    | false => have := hn j n hj; rw [nodeOk_no hj hm] at this; cases this
  have hme : ∀ (j : Nat) n, g.edges[j]? = some n → mayE n = true := fun j n hj => by
    cases hm : mayE n with
    | true => rfl
    | false => have := (he j n hj).1; rw [ordE_no hj hm] at this; cases this
  have hrn : RiseI (idsN g) := rise_step fun m x y hx hy => by
    unfold idsN at hx hy
    rw [List.getElem?_map] at hx hy
    obtain ⟨p, hp, rfl⟩ := Option.map_eq_some_iff.1 hx
    obtain ⟨n, hn', rfl⟩ := Option.map_eq_some_iff.1 hy
    have := hn _ _ hn'
    rw [nodeOk_succ hn' hp (hmn _ _ hn')] at this
    exact of_decide_eq_true this
  have hre : RiseI (idsE g) := rise_step fun m x y hx hy => by
    unfold idsE at hx hy
    rw [List.getElem?_map] at hx hy
    obtain ⟨p, hp, rfl⟩ := Option.map_eq_some_iff.1 hx
    obtain ⟨n, hn', rfl⟩ := Option.map_eq_some_iff.1 hy
    have := (he _ _ hn').1
    rw [ordE_succ hn' hp (hme _ _ hn')] at this
    exact of_decide_eq_true this
  refine ⟨hmn, hme, hrn, hre, fun j e hj => ?_, h3, h4⟩
  have := (he j e hj).2
  unfold endsE at this
  rw [hj] at this
  simp only [Bool.and_eq_true, decide_eq_true_eq] at this
  exact ⟨by rw [(hasI_idx hrn e.src).1]; exact decide_eq_true this.1, by rw [(hasI_idx hrn e.dst).1]; exact decide_eq_true this.2⟩
theorem posI_spec {l : List Int} (hr : RiseI l) (id : Int) : (∀ (i : Nat) x, i < posI l id → l[i]? = some x → x < id) ∧ ∀ (i : Nat) x, posI l id ≤ i → l[i]? = some x → ¬ x < id := by
  have h1 : ∀ (i : Nat) x, i < posI l id → l[i]? = some x → x < id := fun i x hi hx => by
    unfold posI at hi
    clear hr
    induction l generalizing i with
    | nil => simp at hx
    | cons a l ih =>
      rw [List.takeWhile_cons] at hi
      split at hi
      · next ha =>
        cases i with
        | zero => simp at hx; subst hx; simpa using ha
        | succ i => exact ih i (by simpa using hi) (by simpa using hx)
      · simp at hi
  have h2 : ∀ x, l[posI l id]? = some x → ¬ x < id := fun x hx => by
    unfold posI at hx
    clear hr h1
    induction l with
    | nil => simp at hx
    | cons a l ih =>
      rw [List.takeWhile_cons] at hx
      split at hx
      · exact ih (by simpa using hx)
      · next ha => simp at hx; subst hx; simpa using ha
  refine ⟨h1, fun i x hi hx => ?_⟩
  rcases Nat.lt_or_ge (posI l id) i with h | h
  · obtain ⟨y, hy⟩ := get_some (l := l) (j := posI l id) (by have := (List.getElem?_eq_some_iff.1 hx).1; omega)
    have h3 := h2 y hy
    have h4 := hr _ _ _ _ h hy hx
    omega
  · rw [show i = posI l id from by omega] at hx
    exact h2 x hx
/-- A list of numbers with one more. -/
theorem ins_rise {l : List Int} {id : Int} (hr : RiseI l) (hno : hasI l id = false) : RiseI (setL l (posI l id) false id) ∧ posI (setL l (posI l id) false id) id = posI l id ∧ hasI (setL l (posI l id) false id) id = true := by
  obtain ⟨h1, h2⟩ := posI_spec hr id
  have hne : ∀ (i : Nat) x, l[i]? = some x → x ≠ id := fun i x hx e => by
    subst e
    have hp : posI l x = i := posI_eq (Nat.le_of_lt (List.getElem?_eq_some_iff.1 hx).1) (fun k z hk hz => hr k i z x hk hz hx) (fun z hz => by rw [hx] at hz; injection hz with hz; omega)
    unfold hasI at hno
    rw [hp] at hno
    exact of_decide_eq_false hno hx
  have hp := posI_le l id
  obtain ⟨p, hpe⟩ : ∃ p, posI l id = p := ⟨_, rfl⟩
  rw [hpe] at h1 h2 hp ⊢
  have hg : ∀ (i : Nat) x, (setL l p false id)[i]? = some x → (i < p ∧ l[i]? = some x) ∨ (i = p ∧ x = id) ∨ (p < i ∧ l[i - 1]? = some x) := fun i x hx => by
    have hx : (l.take p ++ (id :: l.drop p))[i]? = some x := hx
    have ht : (l.take p).length = p := by rw [List.length_take]; omega
    rcases Nat.lt_or_ge i p with h | h
    · rw [List.getElem?_append_left (by omega), List.getElem?_take_of_lt h] at hx
      exact .inl ⟨h, hx⟩
    · rw [List.getElem?_append_right (by omega), ht] at hx
      rcases Nat.eq_or_lt_of_le h with h | h
      · subst h; simp at hx; exact .inr (.inl ⟨rfl, hx.symm⟩)
      · obtain ⟨k, hk⟩ : ∃ k, i - p = k + 1 := ⟨i - p - 1, by omega⟩
        rw [hk, List.getElem?_cons_succ, List.getElem?_drop] at hx
        exact .inr (.inr ⟨h, by rw [show i - 1 = p + k from by omega]; exact hx⟩)
  have hat : (setL l p false id)[p]? = some id := by
    show (l.take p ++ (id :: l.drop p))[p]? = some id
    have ht : (l.take p).length = p := by rw [List.length_take]; omega
    rw [List.getElem?_append_right (by omega), ht, Nat.sub_self]
    rfl
  have hrise : RiseI (setL l p false id) := by
    intro i j x y hij hx hy
    rcases hg i x hx with ⟨a1, a2⟩ | ⟨a1, a2⟩ | ⟨a1, a2⟩ <;> rcases hg j y hy with ⟨b1, b2⟩ | ⟨b1, b2⟩ | ⟨b1, b2⟩ <;> try omega
    · exact hr i j x y hij a2 b2
    · rw [b2]; exact h1 i x a1 a2
    · exact hr i (j - 1) x y (by omega) a2 b2
    · have h3 := h2 (j - 1) y (by omega) b2
      have h4 := hne (j - 1) y b2
      omega
    · exact hr (i - 1) (j - 1) x y (by omega) a2 b2
  have hpos : posI (setL l p false id) id = p := posI_eq (by have := (List.getElem?_eq_some_iff.1 hat).1; omega) (fun i x hi hx => by
    rcases hg i x hx with ⟨a1, a2⟩ | ⟨a1, a2⟩ | ⟨a1, a2⟩
    · exact h1 i x a1 a2
    · omega
    · omega) (fun x hx => by rw [hat] at hx; injection hx with hx; omega)
  exact ⟨hrise, hpos, by unfold hasI; rw [hpos]; exact decide_eq_true hat⟩
theorem setL_map {α β : Type} (f : α → β) (l : List α) (p : Nat) (x : α) : (setL l p false x).map f = setL (l.map f) p false (f x) := by
  show (l.take p ++ (x :: l.drop p)).map f = (l.map f).take p ++ (f x :: (l.map f).drop p)
  rw [List.map_append, List.map_cons, List.map_take, List.map_drop]
theorem setL_away {α : Type} {l : List α} {p : Nat} {x : α} (hp : p ≤ l.length) : (setL l p false x).take p ++ (setL l p false x).drop (p + 1) = l := by
  show (l.take p ++ (x :: l.drop p)).take p ++ (l.take p ++ (x :: l.drop p)).drop (p + 1) = l
  have ht : (l.take p).length = p := by rw [List.length_take]; omega
  rw [List.take_append_of_le_length (by omega), List.take_of_length_le (by omega), List.drop_append, ht, List.drop_eq_nil_of_le (by omega), List.nil_append, show p + 1 - p = 1 from by omega]
  exact List.take_append_drop p l
theorem put_drop {g : Gt} {n : Nt} (h : MayG g) (hno : hasI (idsN g) n.id = false) (hsm : g.nodes.length < 60) (hm : mayN n = true) :
    putG g n = (0, ⟨setL g.nodes (posI (idsN g) n.id) false n, g.edges⟩) ∧ RiseI (idsN ⟨setL g.nodes (posI (idsN g) n.id) false n, g.edges⟩) ∧ dropG ⟨setL g.nodes (posI (idsN g) n.id) false n, g.edges⟩ n.id = (0, g) := by
  have hids : idsN ⟨setL g.nodes (posI (idsN g) n.id) false n, g.edges⟩ = setL (idsN g) (posI (idsN g) n.id) false n.id := setL_map _ _ _ _
  obtain ⟨r1, r2, r3⟩ := ins_rise h.riseN hno
  have hil : (idsN g).length = g.nodes.length := by unfold idsN; simp
  refine ⟨?_, by rw [hids]; exact r1, ?_⟩
  · unfold putG
    rw [if_neg (by rw [hm]; simp), if_neg (fun h => by omega), hno]
  · have har : (aroundG ⟨setL g.nodes (posI (idsN g) n.id) false n, g.edges⟩ n.id 2 ⟨#[]⟩).isEmpty = true := by
      unfold aroundG
      rw [List.isEmpty_iff, List.filter_eq_nil_iff]
      intro e he
      obtain ⟨j, hj⟩ := List.getElem?_of_mem he
      obtain ⟨e1, e2⟩ := h.ends j e hj
      unfold atE
      have h1 : e.src ≠ n.id := fun h => by rw [h, hno] at e1; cases e1
      have h2 : e.dst ≠ n.id := fun h => by rw [h, hno] at e2; cases e2
      simp [h1, h2]
    unfold dropG
    rw [hids, r2, r3, if_neg (by simp), if_neg (by rw [har]; simp)]
    show (0, (⟨(setL g.nodes (posI (idsN g) n.id) false n).take (posI (idsN g) n.id) ++ (setL g.nodes (posI (idsN g) n.id) false n).drop (posI (idsN g) n.id + 1), g.edges⟩ : Gt)) = (0, g)
    rw [setL_away (by have := posI_le (idsN g) n.id; omega)]
theorem put_no {g : Gt} {n : Nt} (hm : mayN n = false) : putG g n = (20, noG) := by
  unfold putG
  rw [if_pos hm]
theorem join_cut {g : Gt} {n : Et} (h : MayG g) (hno : hasI (idsE g) n.id = false) (hsm : g.edges.length < 60) :
    (∃ c, c ≠ 0 ∧ joinG g n = (c, noG)) ∨ (joinG g n = (0, ⟨g.nodes, setL g.edges (posI (idsE g) n.id) false n⟩) ∧ RiseI (idsE ⟨g.nodes, setL g.edges (posI (idsE g) n.id) false n⟩) ∧ cutG ⟨g.nodes, setL g.edges (posI (idsE g) n.id) false n⟩ n.id = (0, g)) := by
  have hids : idsE ⟨g.nodes, setL g.edges (posI (idsE g) n.id) false n⟩ = setL (idsE g) (posI (idsE g) n.id) false n.id := setL_map _ _ _ _
  obtain ⟨r1, r2, r3⟩ := ins_rise h.riseE hno
  have hil : (idsE g).length = g.edges.length := by unfold idsE; simp
  by_cases c1 : mayE n = false
  · exact .inl ⟨20, by omega, by unfold joinG; rw [if_pos c1]⟩
  by_cases c2 : hasI (idsN g) n.src = false ∨ hasI (idsN g) n.dst = false
  · exact .inl ⟨23, by omega, by unfold joinG; rw [if_neg c1, if_pos c2]⟩
  refine .inr ⟨?_, by rw [hids]; exact r1, ?_⟩
  · unfold joinG
    rw [if_neg c1, if_neg c2, if_neg (fun h => by rw [hno] at h; cases h.1), if_neg (fun h => by omega), hno]
  · unfold cutG
    rw [hids, r2, r3, if_neg (by simp)]
    show (0, (⟨g.nodes, (setL g.edges (posI (idsE g) n.id) false n).take (posI (idsE g) n.id) ++ (setL g.edges (posI (idsE g) n.id) false n).drop (posI (idsE g) n.id + 1)⟩ : Gt)) = (0, g)
    rw [setL_away (by have := posI_le (idsE g) n.id; omega)]
end Go.Proofs.Ytoakloicjlfaaaa

/- Layer 14: the law GraphBack as a call. Conditions: what is read is small. -/
namespace Go.Proofs.Ytoakloicjlfaaaa
open Go.RowKit
set_option linter.unusedSimpArgs false
set_option linter.unusedVariables false
set_option maxRecDepth 100000

theorem wtVs_at {l : List Vt} {j : Nat} {t : Vt} (h : l[j]? = some t) : wtV t ≤ wtVs l := wtVs_get h
theorem wtS_len (l : List ByteArray) : l.length ≤ wtS l := by
  unfold wtS
  induction l with
  | nil => simp
  | cons x xs ih => simp only [List.length_cons, List.map_cons, List.sum_cons]; omega
theorem smPr_of {ks : List ByteArray} {vs : List Vt} (h : wtS ks + wtVs vs ≤ 1048576) : SmPr ks vs :=
  ⟨by have := wtS_len ks; omega, by have := wtVs_len vs; omega, fun j t ht => by have := wtVs_get ht; omega⟩
theorem smN_of {n : Nt} (h : wtN n ≤ 1048576) : SmN n := by
  unfold wtN at h
  exact ⟨by have := wtS_len n.labels; omega, smPr_of (by omega)⟩
theorem smE_of {n : Et} (h : wtE n ≤ 1048576) : SmE n := by
  unfold wtE at h
  exact smPr_of (by omega)
theorem len_sum {α : Type} (f : α → Nat) (hf : ∀ x, 1 ≤ f x) (l : List α) : l.length ≤ (l.map f).sum := by
  induction l with
  | nil => simp
  | cons x xs ih => have := hf x; simp only [List.length_cons, List.map_cons, List.sum_cons]; omega
theorem smG_of {g : Gt} (h : wtG g ≤ 1048576) : SmG g := by
  unfold wtG at h
  refine ⟨⟨?_, ?_⟩, fun j n hj => smN_of ?_, fun j n hj => smE_of ?_⟩
  · have := len_sum wtN (fun x => by unfold wtN; omega) g.nodes; omega
  · have := len_sum wtE (fun x => by unfold wtE; omega) g.edges; omega
  · have := sum_get wtN hj; omega
  · have := sum_get wtE hj; omega
theorem setL_small {α : Type} {l : List α} {p : Nat} {x : α} (hp : p ≤ l.length) (hl : l.length < 60) : (setL l p false x).length ≤ 1048576 := by
  rw [setL_length hp]
  simp
  omega
theorem posN_le (g : Gt) (id : Int) : posI (idsN g) id ≤ g.nodes.length := by
  have := posI_le (idsN g) id
  unfold idsN at this
  rw [List.length_map] at this
  exact this
theorem posE_le (g : Gt) (id : Int) : posI (idsE g) id ≤ g.edges.length := by
  have := posI_le (idsE g) id
  unfold idsE at this
  rw [List.length_map] at this
  exact this
def smallB (g : Gt) : Bool := decide (g.nodes.length < 60) && decide (g.edges.length < 60)
set_option maxHeartbeats 4000000 in
theorem small_any (na ea : Option Addr) (nc ec n m : Nat) (w : World) :
    Calls Try.prog 11 #[.agg #[.slice na n nc, .slice ea m ec]] w fun e w' => e = .returned (.bool (decide (n < 60) && decide (m < 60))) ∧ Below w.heap.size w w' := by
  obtain ⟨W0, hW0⟩ : ∃ W0, w.alloc (.cells #[.slice na n nc, .slice ea m ec] 25) = W0 := ⟨_, rfl⟩
  have hb0 : Below w.heap.size w W0 := by rw [← hW0]; exact (Below.refl _ _).alloc (Nat.le_refl _) _
  have hblk : Block W0 w.heap.size [.slice na n nc, .slice ea m ec] 25 := by rw [← hW0]; exact Block.new _ _ _
  have c0 := hblk.cell (i := 0) rfl
  have c1 := hblk.cell (i := 1) rfl
  rw [← hW0] at c0 c1
  have HB0 := Lib.hid (show Below w.heap.size w (w.alloc (.cells #[.slice na n nc, .slice ea m ec] 25)) by rw [hW0]; exact hb0)
  clear hW0 hb0 hblk
  by_cases h1 : n < 60
  · have h1' : (n : Int) < 60 := by omega
    by_cases h2 : m < 60
    · have h2' : (m : Int) < 60 := by omega
      rw [decide_eq_true h1, decide_eq_true h2]
      go_enter Try.func11, Try.ntmps11
      go_wp2_with fail
      go_ret
      exact ⟨rfl, HB0.out⟩
    · have h2' : ¬ (m : Int) < 60 := by omega
      rw [decide_eq_true h1, decide_eq_false h2]
      go_enter Try.func11, Try.ntmps11
      go_wp2_with fail
      go_ret
      exact ⟨rfl, HB0.out⟩
  · have h1' : ¬ (n : Int) < 60 := by omega
    rw [decide_eq_false h1]
    go_enter Try.func11, Try.ntmps11
    go_wp2_with fail
    go_ret
    exact ⟨rfl, HB0.out⟩

set_option maxHeartbeats 64000000 in
theorem gback_any (g : Gt) (n : Nt) (d : Et) (cs ds es : List Value) (w : World) (hg : IsG w.heap.size w cs g) (hn : IsN w.heap.size w ds n) (hd : IsE w.heap.size w es d) (hwg : wtG g ≤ 1048576) (hwn : wtN n ≤ 1048576) (hwd : wtE d ≤ 1048576) :
    Calls Try.prog 5 #[.agg cs.toArray, .agg ds.toArray, .agg es.toArray] w fun e w' => e = .returned (.bool true) ∧ Below w.heap.size w w' := by
  have hg0 := hg
  obtain ⟨na, nc, ea, ec, rfl, hnz, hez, hN, hE⟩ := hg
  have hn0 := hn
  obtain ⟨la, lc, ka, kc, va, vc, rfl⟩ := node_cells hn0
  have hd0 := hd
  obtain ⟨dka, dkc, dva, dvc, rfl⟩ := edge_cells hd0
  show Calls Try.prog 5 #[.agg #[.slice na g.nodes.length nc, .slice ea g.edges.length ec], .agg #[.int .i64 n.id, .slice la n.labels.length lc, .slice ka n.keys.length kc, .slice va n.vals.length vc], .agg #[.int .i64 d.id, .int .i64 d.src, .int .i64 d.dst, .string d.ty, .slice dka d.keys.length dkc, .slice dva d.vals.length dvc]] w _
  have hsm := smG_of hwg
  have hsn := smN_of hwn
  have hsd := smE_of hwd
  obtain ⟨W0, hW0⟩ : ∃ W0, ((w.alloc (.cells #[.slice na g.nodes.length nc, .slice ea g.edges.length ec] 25)).alloc (.cells #[.int .i64 n.id, .slice la n.labels.length lc, .slice ka n.keys.length kc, .slice va n.vals.length vc] 38)).alloc (.cells #[.int .i64 d.id, .int .i64 d.src, .int .i64 d.dst, .string d.ty, .slice dka d.keys.length dkc, .slice dva d.vals.length dvc] 40) = W0 := ⟨_, rfl⟩
  have HBX : Hid (Bx w [([.slice na g.nodes.length nc, .slice ea g.edges.length ec], 25), ([.int .i64 n.id, .slice la n.labels.length lc, .slice ka n.keys.length kc, .slice va n.vals.length vc], 38), ([.int .i64 d.id, .int .i64 d.src, .int .i64 d.dst, .string d.ty, .slice dka d.keys.length dkc, .slice dva d.vals.length dvc], 40)] W0) := Lib.hid (by rw [← hW0]; exact ((((((Bx.nil w).alloc rfl [.slice na g.nodes.length nc, .slice ea g.edges.length ec] 25)).alloc (by simp) [.int .i64 n.id, .slice la n.labels.length lc, .slice ka n.keys.length kc, .slice va n.vals.length vc] 38)).alloc (by simp) [.int .i64 d.id, .int .i64 d.src, .int .i64 d.dst, .string d.ty, .slice dka d.keys.length dkc, .slice dva d.vals.length dvc] 40))
  have HW0 := Lib.hid hW0
  have HGG := Lib.hid (fun (w' : World) (hb : Below w.heap.size w w') => hg0.below hb (Nat.le_refl _))
  have HSM := Lib.hid (fun (w' : World) => small_any na ea nc ec g.nodes.length g.edges.length w')
  have HMY := Lib.hid (fun (w' : World) (hb : Below w.heap.size w w') => rmayG_any g _ _ w' (hg0.below hb (Nat.le_refl _)) hb.size)
  have HMN := Lib.hid (fun (w' : World) (hb : Below w.heap.size w w') => rMayNode_any n _ _ w' (hn.below hb (Nat.le_refl _)) hb.size)
  have HATN := Lib.hid (fun (w' : World) (hb : Below w.heap.size w w') => nodeAt_any g n.id _ _ w' (hg0.below hb (Nat.le_refl _)) hb.size)
  have HATE := Lib.hid (fun (w' : World) (hb : Below w.heap.size w w') => edgeAt_any g d.id _ _ w' (hg0.below hb (Nat.le_refl _)) hb.size)
  have HPUT0 := Lib.hid (fun (hr : RiseI (idsN g)) (w' : World) (hb : Below w.heap.size w w') => put_any g n _ _ _ w' (hg0.below hb (Nat.le_refl _)) (hn.below hb (Nat.le_refl _)) hb.size hr hsm hsn)
  have HJOIN0 := Lib.hid (fun (hr : RiseI (idsN g)) (hre : RiseI (idsE g)) (w' : World) (hb : Below w.heap.size w w') => join_any g d _ _ _ w' (hg0.below hb (Nat.le_refl _)) (hd.below hb (Nat.le_refl _)) hb.size hr hre hsm hsd)
  have HSMP : Hid (∀ i is, ((setL g.nodes i is n).length ≤ 1048576) → SmG ⟨setL g.nodes i is n, g.edges⟩) := Lib.hid (fun i is h => ⟨⟨h, hsm.1.2⟩, fun j y hy => by rcases mem_setL hy with rfl | ⟨k, hk⟩; exact hsn; exact hsm.2.1 k y hk, hsm.2.2⟩)
  have HSMJ : Hid (∀ i is, ((setL g.edges i is d).length ≤ 1048576) → SmG ⟨g.nodes, setL g.edges i is d⟩) := Lib.hid (fun i is h => ⟨⟨hsm.1.1, h⟩, hsm.2.1, fun j y hy => by rcases mem_setL hy with rfl | ⟨k, hk⟩; exact hsd; exact hsm.2.2 k y hk⟩)
  obtain ⟨Q, hQ⟩ : ∃ Q : Ending → World → Prop, (fun e w' => e = .returned (.bool true) ∧ Below w.heap.size w w') = Q := ⟨_, rfl⟩
  have HQ : Hid (∀ u, Below w.heap.size w u → Q (.returned (.bool true)) u) := Lib.hid (fun u h => by rw [← hQ]; exact ⟨rfl, h⟩)
  rw [hQ]
  have i0_0 : W0.cell? ⟨w.heap.size, 0, none⟩ = some (.slice na g.nodes.length nc) := HBX.out.cell 0 0 rfl rfl
  have i0_1 : W0.cell? ⟨w.heap.size, 1, none⟩ = some (.slice ea g.edges.length ec) := HBX.out.cell 0 1 rfl rfl
  have i1_0 : W0.cell? ⟨w.heap.size + 1, 0, none⟩ = some (.int .i64 n.id) := HBX.out.cell 1 0 rfl rfl
  have i1_1 : W0.cell? ⟨w.heap.size + 1, 1, none⟩ = some (.slice la n.labels.length lc) := HBX.out.cell 1 1 rfl rfl
  have i1_2 : W0.cell? ⟨w.heap.size + 1, 2, none⟩ = some (.slice ka n.keys.length kc) := HBX.out.cell 1 2 rfl rfl
  have i1_3 : W0.cell? ⟨w.heap.size + 1, 3, none⟩ = some (.slice va n.vals.length vc) := HBX.out.cell 1 3 rfl rfl
  have i2_0 : W0.cell? ⟨w.heap.size + 2, 0, none⟩ = some (.int .i64 d.id) := HBX.out.cell 2 0 rfl rfl
  have i2_1 : W0.cell? ⟨w.heap.size + 2, 1, none⟩ = some (.int .i64 d.src) := HBX.out.cell 2 1 rfl rfl
  have i2_2 : W0.cell? ⟨w.heap.size + 2, 2, none⟩ = some (.int .i64 d.dst) := HBX.out.cell 2 2 rfl rfl
  have i2_3 : W0.cell? ⟨w.heap.size + 2, 3, none⟩ = some (.string d.ty) := HBX.out.cell 2 3 rfl rfl
  have i2_4 : W0.cell? ⟨w.heap.size + 2, 4, none⟩ = some (.slice dka d.keys.length dkc) := HBX.out.cell 2 4 rfl rfl
  have i2_5 : W0.cell? ⟨w.heap.size + 2, 5, none⟩ = some (.slice dva d.vals.length dvc) := HBX.out.cell 2 5 rfl rfl
  rw [← hW0] at i0_0 i0_1 i1_0 i1_1 i1_2 i1_3 i2_0 i2_1 i2_2 i2_3 i2_4 i2_5
  clear hQ hW0 hg0 hN hE hn hn0 hd hd0 hnz hez hsm hsn hsd hwg hwn hwd
  go_enter Try.func5, Try.ntmps5
  go_wp2_with fail
  (try rw [show w.heap.size + 1 + 1 = w.heap.size + 2 from rfl])
  rw [HW0.out]
  refine (HSM.out _).mono ?_
  rintro e w1 ⟨rfl, hb1⟩
  have HBX1 := Lib.hid (HBX.out.below hb1)
  clear i0_0 i0_1 i1_0 i1_1 i1_2 i1_3 i2_0 i2_1 i2_2 i2_3 i2_4 i2_5 hb1
  cases hsml : (decide (g.nodes.length < 60) && decide (g.edges.length < 60)) with
  | false =>
    go_wp2_with fail
    refine (gworks_any w1).mono ?_
    rintro e wl ⟨rfl, hbl⟩
    have HBL := Lib.hid (HBX1.out.below hbl)
    clear hbl
    go_wp2_with fail
    exact HQ.out _ HBL.out.bel
  | true =>
    simp only [Bool.and_eq_true, decide_eq_true_eq] at hsml
    have HLEN := Lib.hid hsml
    clear hsml
    have f0_0 : w1.cell? ⟨w.heap.size, 0, none⟩ = some (.slice na g.nodes.length nc) := HBX1.out.cell 0 0 rfl rfl
    have f0_1 : w1.cell? ⟨w.heap.size, 1, none⟩ = some (.slice ea g.edges.length ec) := HBX1.out.cell 0 1 rfl rfl
    go_wp2_with fail
    refine (HMY.out _ HBX1.out.bel).mono ?_
    rintro e w2 ⟨rfl, hb2⟩
    have HBX2 := Lib.hid (HBX1.out.below hb2)
    clear f0_0 f0_1 hb2
    cases hmg : mayG g with
    | false =>
      go_wp2_with fail
      refine (gworks_any w2).mono ?_
      rintro e wl ⟨rfl, hbl⟩
      have HBL := Lib.hid (HBX2.out.below hbl)
      clear hbl
      go_wp2_with fail
      exact HQ.out _ HBL.out.bel
    | true =>
      have HMG := Lib.hid (MayG.of hmg)
      have HHIN := Lib.hid (hasI_idx HMG.out.riseN n.id).1
      have HHIE := Lib.hid (hasI_idx HMG.out.riseE d.id).1
      have HPUT := Lib.hid (HPUT0.out HMG.out.riseN)
      have HJOIN := Lib.hid (HJOIN0.out HMG.out.riseN HMG.out.riseE)
      clear hmg HPUT0 HJOIN0
      have f0_0 : w2.cell? ⟨w.heap.size, 0, none⟩ = some (.slice na g.nodes.length nc) := HBX2.out.cell 0 0 rfl rfl
      have f0_1 : w2.cell? ⟨w.heap.size, 1, none⟩ = some (.slice ea g.edges.length ec) := HBX2.out.cell 0 1 rfl rfl
      have f1_0 : w2.cell? ⟨w.heap.size + 1, 0, none⟩ = some (.int .i64 n.id) := HBX2.out.cell 1 0 rfl rfl
      have f1_1 : w2.cell? ⟨w.heap.size + 1, 1, none⟩ = some (.slice la n.labels.length lc) := HBX2.out.cell 1 1 rfl rfl
      have f1_2 : w2.cell? ⟨w.heap.size + 1, 2, none⟩ = some (.slice ka n.keys.length kc) := HBX2.out.cell 1 2 rfl rfl
      have f1_3 : w2.cell? ⟨w.heap.size + 1, 3, none⟩ = some (.slice va n.vals.length vc) := HBX2.out.cell 1 3 rfl rfl
      have f2_0 : w2.cell? ⟨w.heap.size + 2, 0, none⟩ = some (.int .i64 d.id) := HBX2.out.cell 2 0 rfl rfl
      have f2_1 : w2.cell? ⟨w.heap.size + 2, 1, none⟩ = some (.int .i64 d.src) := HBX2.out.cell 2 1 rfl rfl
      have f2_2 : w2.cell? ⟨w.heap.size + 2, 2, none⟩ = some (.int .i64 d.dst) := HBX2.out.cell 2 2 rfl rfl
      have f2_3 : w2.cell? ⟨w.heap.size + 2, 3, none⟩ = some (.string d.ty) := HBX2.out.cell 2 3 rfl rfl
      have f2_4 : w2.cell? ⟨w.heap.size + 2, 4, none⟩ = some (.slice dka d.keys.length dkc) := HBX2.out.cell 2 4 rfl rfl
      have f2_5 : w2.cell? ⟨w.heap.size + 2, 5, none⟩ = some (.slice dva d.vals.length dvc) := HBX2.out.cell 2 5 rfl rfl
      go_wp2_with fail
      refine (HATN.out _ HBX2.out.bel).mono ?_
      rintro e y3 ⟨rfl, hby3⟩
      have HBY3 := Lib.hid (HBX2.out.below hby3)
      clear f0_0 f0_1 f1_0 f1_1 f1_2 f1_3 f2_0 f2_1 f2_2 f2_3 f2_4 f2_5 hby3
      obtain ⟨at3, hat3⟩ : ∃ x, idxOf (g.nodes.map (·.id)) n.id = x := ⟨_, rfl⟩
      have HI3 : Hid (hasI (idsN g) n.id = decide (0 ≤ at3)) := Lib.hid (by rw [← hat3]; exact HHIN.out)
      rw [hat3]
      clear hat3
      by_cases hc3 : 0 ≤ at3
      · have hc3' : ¬ at3 < 0 := by omega
        have f0_0 : y3.cell? ⟨w.heap.size, 0, none⟩ = some (.slice na g.nodes.length nc) := HBY3.out.cell 0 0 rfl rfl
        have f0_1 : y3.cell? ⟨w.heap.size, 1, none⟩ = some (.slice ea g.edges.length ec) := HBY3.out.cell 0 1 rfl rfl
        have f1_0 : y3.cell? ⟨w.heap.size + 1, 0, none⟩ = some (.int .i64 n.id) := HBY3.out.cell 1 0 rfl rfl
        have f1_1 : y3.cell? ⟨w.heap.size + 1, 1, none⟩ = some (.slice la n.labels.length lc) := HBY3.out.cell 1 1 rfl rfl
        have f1_2 : y3.cell? ⟨w.heap.size + 1, 2, none⟩ = some (.slice ka n.keys.length kc) := HBY3.out.cell 1 2 rfl rfl
        have f1_3 : y3.cell? ⟨w.heap.size + 1, 3, none⟩ = some (.slice va n.vals.length vc) := HBY3.out.cell 1 3 rfl rfl
        have f2_0 : y3.cell? ⟨w.heap.size + 2, 0, none⟩ = some (.int .i64 d.id) := HBY3.out.cell 2 0 rfl rfl
        have f2_1 : y3.cell? ⟨w.heap.size + 2, 1, none⟩ = some (.int .i64 d.src) := HBY3.out.cell 2 1 rfl rfl
        have f2_2 : y3.cell? ⟨w.heap.size + 2, 2, none⟩ = some (.int .i64 d.dst) := HBY3.out.cell 2 2 rfl rfl
        have f2_3 : y3.cell? ⟨w.heap.size + 2, 3, none⟩ = some (.string d.ty) := HBY3.out.cell 2 3 rfl rfl
        have f2_4 : y3.cell? ⟨w.heap.size + 2, 4, none⟩ = some (.slice dka d.keys.length dkc) := HBY3.out.cell 2 4 rfl rfl
        have f2_5 : y3.cell? ⟨w.heap.size + 2, 5, none⟩ = some (.slice dva d.vals.length dvc) := HBY3.out.cell 2 5 rfl rfl
        go_wp2_with fail
        refine (HATE.out _ HBY3.out.bel).mono ?_
        rintro e y5 ⟨rfl, hby5⟩
        have HBY5 := Lib.hid (HBY3.out.below hby5)
        clear f0_0 f0_1 f1_0 f1_1 f1_2 f1_3 f2_0 f2_1 f2_2 f2_3 f2_4 f2_5 hby5
        obtain ⟨at5, hat5⟩ : ∃ x, idxOf (g.edges.map (·.id)) d.id = x := ⟨_, rfl⟩
        have HI5 : Hid (hasI (idsE g) d.id = decide (0 ≤ at5)) := Lib.hid (by rw [← hat5]; exact HHIE.out)
        rw [hat5]
        clear hat5
        by_cases hc5 : 0 ≤ at5
        · have hc5' : ¬ at5 < 0 := by omega
          go_wp2_with fail
          refine (gworks_any y5).mono ?_
          rintro e wl ⟨rfl, hbl⟩
          have HBL := Lib.hid (HBY5.out.below hbl)
          clear hbl
          go_wp2_with fail
          exact HQ.out _ HBL.out.bel
        · skip
          have hc5' : at5 < 0 := by omega
          have HNO5 : Hid (hasI (idsE g) d.id = false) := Lib.hid (by rw [HI5.out]; exact decide_eq_false hc5)
          rcases join_cut HMG.out HNO5.out HLEN.out.2 with ⟨code, hcz, hbad⟩ | hgood
          · skip
            have HC9 := Lib.hid (HJOIN.out _ HBY5.out.bel)
            rw [hbad] at HC9
            clear hbad
            have hcz1 : (code == 0) = false := by simpa using hcz
            have hcz2 : ¬ code = 0 := hcz
            have f0_0 : y5.cell? ⟨w.heap.size, 0, none⟩ = some (.slice na g.nodes.length nc) := HBY5.out.cell 0 0 rfl rfl
            have f0_1 : y5.cell? ⟨w.heap.size, 1, none⟩ = some (.slice ea g.edges.length ec) := HBY5.out.cell 0 1 rfl rfl
            have f1_0 : y5.cell? ⟨w.heap.size + 1, 0, none⟩ = some (.int .i64 n.id) := HBY5.out.cell 1 0 rfl rfl
            have f1_1 : y5.cell? ⟨w.heap.size + 1, 1, none⟩ = some (.slice la n.labels.length lc) := HBY5.out.cell 1 1 rfl rfl
            have f1_2 : y5.cell? ⟨w.heap.size + 1, 2, none⟩ = some (.slice ka n.keys.length kc) := HBY5.out.cell 1 2 rfl rfl
            have f1_3 : y5.cell? ⟨w.heap.size + 1, 3, none⟩ = some (.slice va n.vals.length vc) := HBY5.out.cell 1 3 rfl rfl
            have f2_0 : y5.cell? ⟨w.heap.size + 2, 0, none⟩ = some (.int .i64 d.id) := HBY5.out.cell 2 0 rfl rfl
            have f2_1 : y5.cell? ⟨w.heap.size + 2, 1, none⟩ = some (.int .i64 d.src) := HBY5.out.cell 2 1 rfl rfl
            have f2_2 : y5.cell? ⟨w.heap.size + 2, 2, none⟩ = some (.int .i64 d.dst) := HBY5.out.cell 2 2 rfl rfl
            have f2_3 : y5.cell? ⟨w.heap.size + 2, 3, none⟩ = some (.string d.ty) := HBY5.out.cell 2 3 rfl rfl
            have f2_4 : y5.cell? ⟨w.heap.size + 2, 4, none⟩ = some (.slice dka d.keys.length dkc) := HBY5.out.cell 2 4 rfl rfl
            have f2_5 : y5.cell? ⟨w.heap.size + 2, 5, none⟩ = some (.slice dva d.vals.length dvc) := HBY5.out.cell 2 5 rfl rfl
            go_wp2_with fail
            refine (HC9.out).mono ?_
            rintro e v5c ⟨cs5c, bs5c, rfl, hb5c, hG5c, -, hr5c⟩
            obtain ⟨ra5c, rc5c, rd5c, re5c, rfl⟩ := hG5c.form
            obtain ⟨X5c, hX5c⟩ : ∃ X, v5c.alloc (.cells #[.slice ra5c noG.nodes.length rc5c, .slice rd5c noG.edges.length re5c] 25) = X := ⟨_, rfl⟩
            have hba5c : Below v5c.heap.size v5c X5c := by rw [← hX5c]; exact (Below.refl _ _).alloc (Nat.le_refl _) _
            have hbk5c : Block X5c v5c.heap.size [.slice ra5c noG.nodes.length rc5c, .slice rd5c noG.edges.length re5c] 25 := by rw [← hX5c]; exact Block.new _ _ _
            have HBX5c := Lib.hid ((HBY5.out.below hb5c).below hba5c)
            have HG5c := Lib.hid ((hG5c.isG (fun b hb => (hr5c b hb).2)).below hba5c (Nat.le_refl _))
            have HZ5c := Lib.hid (show v5c.heap.size < X5c.heap.size by rw [← hX5c]; simp)
            have HK5c := Lib.hid hbk5c
            have HX5c := Lib.hid hX5c
            have x5c_0 := hbk5c.cell (i := 0) rfl
            have x5c_1 := hbk5c.cell (i := 1) rfl
            clear f0_0 f0_1 f1_0 f1_1 f1_2 f1_3 f2_0 f2_1 f2_2 f2_3 f2_4 f2_5
            rw [← hX5c] at x5c_0 x5c_1
            clear hX5c hba5c hbk5c hb5c hr5c hG5c
            go_wp2_with fail
            rw [HX5c.out]
            refine (gworks_any X5c).mono ?_
            rintro e wl ⟨rfl, hbl⟩
            have HBL := Lib.hid (HBX5c.out.below hbl)
            clear hbl
            go_wp2_with fail
            exact HQ.out _ HBL.out.bel
          · skip
            obtain ⟨G2, hG2⟩ : ∃ G2 : Gt, ⟨g.nodes, setL g.edges (posI (idsE g) d.id) false d⟩ = G2 := ⟨_, rfl⟩
            rw [hG2] at hgood
            obtain ⟨hq1, hq2, hq3⟩ := hgood
            have HQ2 := Lib.hid hq2
            have HQ3 := Lib.hid hq3
            have HC9 := Lib.hid (HJOIN.out _ HBY5.out.bel)
            rw [hq1] at HC9
            have HSG2 : Hid (SmG G2) := Lib.hid (by rw [← hG2]; exact HSMJ.out _ _ (setL_small (posE_le g d.id) HLEN.out.2))
            clear hq1 hq2 hq3 hG2
            have f0_0 : y5.cell? ⟨w.heap.size, 0, none⟩ = some (.slice na g.nodes.length nc) := HBY5.out.cell 0 0 rfl rfl
            have f0_1 : y5.cell? ⟨w.heap.size, 1, none⟩ = some (.slice ea g.edges.length ec) := HBY5.out.cell 0 1 rfl rfl
            have f1_0 : y5.cell? ⟨w.heap.size + 1, 0, none⟩ = some (.int .i64 n.id) := HBY5.out.cell 1 0 rfl rfl
            have f1_1 : y5.cell? ⟨w.heap.size + 1, 1, none⟩ = some (.slice la n.labels.length lc) := HBY5.out.cell 1 1 rfl rfl
            have f1_2 : y5.cell? ⟨w.heap.size + 1, 2, none⟩ = some (.slice ka n.keys.length kc) := HBY5.out.cell 1 2 rfl rfl
            have f1_3 : y5.cell? ⟨w.heap.size + 1, 3, none⟩ = some (.slice va n.vals.length vc) := HBY5.out.cell 1 3 rfl rfl
            have f2_0 : y5.cell? ⟨w.heap.size + 2, 0, none⟩ = some (.int .i64 d.id) := HBY5.out.cell 2 0 rfl rfl
            have f2_1 : y5.cell? ⟨w.heap.size + 2, 1, none⟩ = some (.int .i64 d.src) := HBY5.out.cell 2 1 rfl rfl
            have f2_2 : y5.cell? ⟨w.heap.size + 2, 2, none⟩ = some (.int .i64 d.dst) := HBY5.out.cell 2 2 rfl rfl
            have f2_3 : y5.cell? ⟨w.heap.size + 2, 3, none⟩ = some (.string d.ty) := HBY5.out.cell 2 3 rfl rfl
            have f2_4 : y5.cell? ⟨w.heap.size + 2, 4, none⟩ = some (.slice dka d.keys.length dkc) := HBY5.out.cell 2 4 rfl rfl
            have f2_5 : y5.cell? ⟨w.heap.size + 2, 5, none⟩ = some (.slice dva d.vals.length dvc) := HBY5.out.cell 2 5 rfl rfl
            go_wp2_with fail
            refine (HC9.out).mono ?_
            rintro e v5a ⟨cs5a, bs5a, rfl, hb5a, hG5a, -, hr5a⟩
            obtain ⟨ra5a, rc5a, rd5a, re5a, rfl⟩ := hG5a.form
            obtain ⟨X5a, hX5a⟩ : ∃ X, v5a.alloc (.cells #[.slice ra5a G2.nodes.length rc5a, .slice rd5a G2.edges.length re5a] 25) = X := ⟨_, rfl⟩
            have hba5a : Below v5a.heap.size v5a X5a := by rw [← hX5a]; exact (Below.refl _ _).alloc (Nat.le_refl _) _
            have hbk5a : Block X5a v5a.heap.size [.slice ra5a G2.nodes.length rc5a, .slice rd5a G2.edges.length re5a] 25 := by rw [← hX5a]; exact Block.new _ _ _
            have HBX5a := Lib.hid ((HBY5.out.below hb5a).below hba5a)
            have HG5a := Lib.hid ((hG5a.isG (fun b hb => (hr5a b hb).2)).below hba5a (Nat.le_refl _))
            have HZ5a := Lib.hid (show v5a.heap.size < X5a.heap.size by rw [← hX5a]; simp)
            have HK5a := Lib.hid hbk5a
            have HX5a := Lib.hid hX5a
            have x5a_0 := hbk5a.cell (i := 0) rfl
            have x5a_1 := hbk5a.cell (i := 1) rfl
            clear f0_0 f0_1 f1_0 f1_1 f1_2 f1_3 f2_0 f2_1 f2_2 f2_3 f2_4 f2_5
            rw [← hX5a] at x5a_0 x5a_1
            have f0_0 : X5a.cell? ⟨w.heap.size, 0, none⟩ = some (.slice na g.nodes.length nc) := HBX5a.out.cell 0 0 rfl rfl
            have f0_1 : X5a.cell? ⟨w.heap.size, 1, none⟩ = some (.slice ea g.edges.length ec) := HBX5a.out.cell 0 1 rfl rfl
            have f1_0 : X5a.cell? ⟨w.heap.size + 1, 0, none⟩ = some (.int .i64 n.id) := HBX5a.out.cell 1 0 rfl rfl
            have f1_1 : X5a.cell? ⟨w.heap.size + 1, 1, none⟩ = some (.slice la n.labels.length lc) := HBX5a.out.cell 1 1 rfl rfl
            have f1_2 : X5a.cell? ⟨w.heap.size + 1, 2, none⟩ = some (.slice ka n.keys.length kc) := HBX5a.out.cell 1 2 rfl rfl
            have f1_3 : X5a.cell? ⟨w.heap.size + 1, 3, none⟩ = some (.slice va n.vals.length vc) := HBX5a.out.cell 1 3 rfl rfl
            have f2_0 : X5a.cell? ⟨w.heap.size + 2, 0, none⟩ = some (.int .i64 d.id) := HBX5a.out.cell 2 0 rfl rfl
            have f2_1 : X5a.cell? ⟨w.heap.size + 2, 1, none⟩ = some (.int .i64 d.src) := HBX5a.out.cell 2 1 rfl rfl
            have f2_2 : X5a.cell? ⟨w.heap.size + 2, 2, none⟩ = some (.int .i64 d.dst) := HBX5a.out.cell 2 2 rfl rfl
            have f2_3 : X5a.cell? ⟨w.heap.size + 2, 3, none⟩ = some (.string d.ty) := HBX5a.out.cell 2 3 rfl rfl
            have f2_4 : X5a.cell? ⟨w.heap.size + 2, 4, none⟩ = some (.slice dka d.keys.length dkc) := HBX5a.out.cell 2 4 rfl rfl
            have f2_5 : X5a.cell? ⟨w.heap.size + 2, 5, none⟩ = some (.slice dva d.vals.length dvc) := HBX5a.out.cell 2 5 rfl rfl
            rw [← hX5a] at f0_0 f0_1 f1_0 f1_1 f1_2 f1_3 f2_0 f2_1 f2_2 f2_3 f2_4 f2_5
            clear hX5a hba5a hbk5a hb5a hr5a hG5a
            have HD9 := Lib.hid (cut_any G2 d.id _ v5a.heap.size X5a HG5a.out (Nat.le_of_lt HZ5a.out) HQ2.out HSG2.out)
            rw [HQ3.out] at HD9
            go_wp2_with fail
            rw [HX5a.out]
            refine (HD9.out).mono ?_
            rintro e v5b ⟨cs5b, bs5b, rfl, hb5b, hG5b, -, hr5b⟩
            obtain ⟨ra5b, rc5b, rd5b, re5b, rfl⟩ := hG5b.form
            obtain ⟨X5b, hX5b⟩ : ∃ X, v5b.alloc (.cells #[.slice ra5b g.nodes.length rc5b, .slice rd5b g.edges.length re5b] 25) = X := ⟨_, rfl⟩
            have hba5b : Below v5b.heap.size v5b X5b := by rw [← hX5b]; exact (Below.refl _ _).alloc (Nat.le_refl _) _
            have hbk5b : Block X5b v5b.heap.size [.slice ra5b g.nodes.length rc5b, .slice rd5b g.edges.length re5b] 25 := by rw [← hX5b]; exact Block.new _ _ _
            have HBX5b := Lib.hid ((HBX5a.out.below hb5b).below hba5b)
            have HG5b := Lib.hid ((hG5b.isG (fun b hb => (hr5b b hb).2)).below hba5b (Nat.le_refl _))
            have HZ5b := Lib.hid (show v5b.heap.size < X5b.heap.size by rw [← hX5b]; simp)
            have HK5b := Lib.hid hbk5b
            have HX5b := Lib.hid hX5b
            have x5b_0 := hbk5b.cell (i := 0) rfl
            have x5b_1 := hbk5b.cell (i := 1) rfl
            clear f0_0 f0_1 f1_0 f1_1 f1_2 f1_3 f2_0 f2_1 f2_2 f2_3 f2_4 f2_5 x5a_0 x5a_1
            have HS9 := Lib.hid (sameG_any g g _ _ (v5b.heap.size) X5b HG5b.out ((HGG.out _ HBX5b.out.bel).mono (by have := (HBX5a.out.below hb5b).bel.size; exact this)) (Nat.le_of_lt HZ5b.out))
            rw [(sameG_iff g g).2 rfl] at HS9
            rw [← hX5b] at x5b_0 x5b_1
            have f0_0 : X5b.cell? ⟨w.heap.size, 0, none⟩ = some (.slice na g.nodes.length nc) := HBX5b.out.cell 0 0 rfl rfl
            have f0_1 : X5b.cell? ⟨w.heap.size, 1, none⟩ = some (.slice ea g.edges.length ec) := HBX5b.out.cell 0 1 rfl rfl
            have f1_0 : X5b.cell? ⟨w.heap.size + 1, 0, none⟩ = some (.int .i64 n.id) := HBX5b.out.cell 1 0 rfl rfl
            have f1_1 : X5b.cell? ⟨w.heap.size + 1, 1, none⟩ = some (.slice la n.labels.length lc) := HBX5b.out.cell 1 1 rfl rfl
            have f1_2 : X5b.cell? ⟨w.heap.size + 1, 2, none⟩ = some (.slice ka n.keys.length kc) := HBX5b.out.cell 1 2 rfl rfl
            have f1_3 : X5b.cell? ⟨w.heap.size + 1, 3, none⟩ = some (.slice va n.vals.length vc) := HBX5b.out.cell 1 3 rfl rfl
            have f2_0 : X5b.cell? ⟨w.heap.size + 2, 0, none⟩ = some (.int .i64 d.id) := HBX5b.out.cell 2 0 rfl rfl
            have f2_1 : X5b.cell? ⟨w.heap.size + 2, 1, none⟩ = some (.int .i64 d.src) := HBX5b.out.cell 2 1 rfl rfl
            have f2_2 : X5b.cell? ⟨w.heap.size + 2, 2, none⟩ = some (.int .i64 d.dst) := HBX5b.out.cell 2 2 rfl rfl
            have f2_3 : X5b.cell? ⟨w.heap.size + 2, 3, none⟩ = some (.string d.ty) := HBX5b.out.cell 2 3 rfl rfl
            have f2_4 : X5b.cell? ⟨w.heap.size + 2, 4, none⟩ = some (.slice dka d.keys.length dkc) := HBX5b.out.cell 2 4 rfl rfl
            have f2_5 : X5b.cell? ⟨w.heap.size + 2, 5, none⟩ = some (.slice dva d.vals.length dvc) := HBX5b.out.cell 2 5 rfl rfl
            rw [← hX5b] at f0_0 f0_1 f1_0 f1_1 f1_2 f1_3 f2_0 f2_1 f2_2 f2_3 f2_4 f2_5
            clear hX5b hba5b hbk5b hb5b hr5b hG5b
            go_wp2_with fail
            rw [HX5b.out]
            refine HS9.out.mono ?_
            rintro e z5 ⟨rfl, hbz⟩
            have HBZ5 := Lib.hid (HBX5b.out.below hbz)
            clear f0_0 f0_1 f1_0 f1_1 f1_2 f1_3 f2_0 f2_1 f2_2 f2_3 f2_4 f2_5 x5b_0 x5b_1 hbz
            go_wp2_with fail
            refine (gworks_any z5).mono ?_
            rintro e wl ⟨rfl, hbl⟩
            have HBL := Lib.hid (HBZ5.out.below hbl)
            clear hbl
            go_wp2_with fail
            exact HQ.out _ HBL.out.bel
      · skip
        have hc3' : at3 < 0 := by omega
        have HNO3 : Hid (hasI (idsN g) n.id = false) := Lib.hid (by rw [HI3.out]; exact decide_eq_false hc3)
        cases hmn : mayN n with
        | true =>
          have hgood := put_drop HMG.out HNO3.out HLEN.out.1 hmn
          have HMT := Lib.hid hmn
          clear hmn
          obtain ⟨G2, hG2⟩ : ∃ G2 : Gt, ⟨setL g.nodes (posI (idsN g) n.id) false n, g.edges⟩ = G2 := ⟨_, rfl⟩
          rw [hG2] at hgood
          obtain ⟨hq1, hq2, hq3⟩ := hgood
          have HQ2 := Lib.hid hq2
          have HQ3 := Lib.hid hq3
          have HC9 := Lib.hid (HPUT.out _ HBY3.out.bel)
          rw [hq1] at HC9
          have HSG2 : Hid (SmG G2) := Lib.hid (by rw [← hG2]; exact HSMP.out _ _ (setL_small (posN_le g n.id) HLEN.out.1))
          clear hq1 hq2 hq3 hG2
          have f0_0 : y3.cell? ⟨w.heap.size, 0, none⟩ = some (.slice na g.nodes.length nc) := HBY3.out.cell 0 0 rfl rfl
          have f0_1 : y3.cell? ⟨w.heap.size, 1, none⟩ = some (.slice ea g.edges.length ec) := HBY3.out.cell 0 1 rfl rfl
          have f1_0 : y3.cell? ⟨w.heap.size + 1, 0, none⟩ = some (.int .i64 n.id) := HBY3.out.cell 1 0 rfl rfl
          have f1_1 : y3.cell? ⟨w.heap.size + 1, 1, none⟩ = some (.slice la n.labels.length lc) := HBY3.out.cell 1 1 rfl rfl
          have f1_2 : y3.cell? ⟨w.heap.size + 1, 2, none⟩ = some (.slice ka n.keys.length kc) := HBY3.out.cell 1 2 rfl rfl
          have f1_3 : y3.cell? ⟨w.heap.size + 1, 3, none⟩ = some (.slice va n.vals.length vc) := HBY3.out.cell 1 3 rfl rfl
          have f2_0 : y3.cell? ⟨w.heap.size + 2, 0, none⟩ = some (.int .i64 d.id) := HBY3.out.cell 2 0 rfl rfl
          have f2_1 : y3.cell? ⟨w.heap.size + 2, 1, none⟩ = some (.int .i64 d.src) := HBY3.out.cell 2 1 rfl rfl
          have f2_2 : y3.cell? ⟨w.heap.size + 2, 2, none⟩ = some (.int .i64 d.dst) := HBY3.out.cell 2 2 rfl rfl
          have f2_3 : y3.cell? ⟨w.heap.size + 2, 3, none⟩ = some (.string d.ty) := HBY3.out.cell 2 3 rfl rfl
          have f2_4 : y3.cell? ⟨w.heap.size + 2, 4, none⟩ = some (.slice dka d.keys.length dkc) := HBY3.out.cell 2 4 rfl rfl
          have f2_5 : y3.cell? ⟨w.heap.size + 2, 5, none⟩ = some (.slice dva d.vals.length dvc) := HBY3.out.cell 2 5 rfl rfl
          go_wp2_with fail
          refine (HC9.out).mono ?_
          rintro e v3a ⟨cs3a, bs3a, rfl, hb3a, hG3a, -, hr3a⟩
          obtain ⟨ra3a, rc3a, rd3a, re3a, rfl⟩ := hG3a.form
          obtain ⟨X3a, hX3a⟩ : ∃ X, v3a.alloc (.cells #[.slice ra3a G2.nodes.length rc3a, .slice rd3a G2.edges.length re3a] 25) = X := ⟨_, rfl⟩
          have hba3a : Below v3a.heap.size v3a X3a := by rw [← hX3a]; exact (Below.refl _ _).alloc (Nat.le_refl _) _
          have hbk3a : Block X3a v3a.heap.size [.slice ra3a G2.nodes.length rc3a, .slice rd3a G2.edges.length re3a] 25 := by rw [← hX3a]; exact Block.new _ _ _
          have HBX3a := Lib.hid ((HBY3.out.below hb3a).below hba3a)
          have HG3a := Lib.hid ((hG3a.isG (fun b hb => (hr3a b hb).2)).below hba3a (Nat.le_refl _))
          have HZ3a := Lib.hid (show v3a.heap.size < X3a.heap.size by rw [← hX3a]; simp)
          have HK3a := Lib.hid hbk3a
          have HX3a := Lib.hid hX3a
          have x3a_0 := hbk3a.cell (i := 0) rfl
          have x3a_1 := hbk3a.cell (i := 1) rfl
          clear f0_0 f0_1 f1_0 f1_1 f1_2 f1_3 f2_0 f2_1 f2_2 f2_3 f2_4 f2_5
          rw [← hX3a] at x3a_0 x3a_1
          have f0_0 : X3a.cell? ⟨w.heap.size, 0, none⟩ = some (.slice na g.nodes.length nc) := HBX3a.out.cell 0 0 rfl rfl
          have f0_1 : X3a.cell? ⟨w.heap.size, 1, none⟩ = some (.slice ea g.edges.length ec) := HBX3a.out.cell 0 1 rfl rfl
          have f1_0 : X3a.cell? ⟨w.heap.size + 1, 0, none⟩ = some (.int .i64 n.id) := HBX3a.out.cell 1 0 rfl rfl
          have f1_1 : X3a.cell? ⟨w.heap.size + 1, 1, none⟩ = some (.slice la n.labels.length lc) := HBX3a.out.cell 1 1 rfl rfl
          have f1_2 : X3a.cell? ⟨w.heap.size + 1, 2, none⟩ = some (.slice ka n.keys.length kc) := HBX3a.out.cell 1 2 rfl rfl
          have f1_3 : X3a.cell? ⟨w.heap.size + 1, 3, none⟩ = some (.slice va n.vals.length vc) := HBX3a.out.cell 1 3 rfl rfl
          have f2_0 : X3a.cell? ⟨w.heap.size + 2, 0, none⟩ = some (.int .i64 d.id) := HBX3a.out.cell 2 0 rfl rfl
          have f2_1 : X3a.cell? ⟨w.heap.size + 2, 1, none⟩ = some (.int .i64 d.src) := HBX3a.out.cell 2 1 rfl rfl
          have f2_2 : X3a.cell? ⟨w.heap.size + 2, 2, none⟩ = some (.int .i64 d.dst) := HBX3a.out.cell 2 2 rfl rfl
          have f2_3 : X3a.cell? ⟨w.heap.size + 2, 3, none⟩ = some (.string d.ty) := HBX3a.out.cell 2 3 rfl rfl
          have f2_4 : X3a.cell? ⟨w.heap.size + 2, 4, none⟩ = some (.slice dka d.keys.length dkc) := HBX3a.out.cell 2 4 rfl rfl
          have f2_5 : X3a.cell? ⟨w.heap.size + 2, 5, none⟩ = some (.slice dva d.vals.length dvc) := HBX3a.out.cell 2 5 rfl rfl
          rw [← hX3a] at f0_0 f0_1 f1_0 f1_1 f1_2 f1_3 f2_0 f2_1 f2_2 f2_3 f2_4 f2_5
          clear hX3a hba3a hbk3a hb3a hr3a hG3a
          have HD9 := Lib.hid (drop_any G2 n.id _ v3a.heap.size X3a HG3a.out (Nat.le_of_lt HZ3a.out) HQ2.out HSG2.out)
          rw [HQ3.out] at HD9
          go_wp2_with fail
          rw [HX3a.out]
          refine (HD9.out).mono ?_
          rintro e v3b ⟨cs3b, bs3b, rfl, hb3b, hG3b, -, hr3b⟩
          obtain ⟨ra3b, rc3b, rd3b, re3b, rfl⟩ := hG3b.form
          obtain ⟨X3b, hX3b⟩ : ∃ X, v3b.alloc (.cells #[.slice ra3b g.nodes.length rc3b, .slice rd3b g.edges.length re3b] 25) = X := ⟨_, rfl⟩
          have hba3b : Below v3b.heap.size v3b X3b := by rw [← hX3b]; exact (Below.refl _ _).alloc (Nat.le_refl _) _
          have hbk3b : Block X3b v3b.heap.size [.slice ra3b g.nodes.length rc3b, .slice rd3b g.edges.length re3b] 25 := by rw [← hX3b]; exact Block.new _ _ _
          have HBX3b := Lib.hid ((HBX3a.out.below hb3b).below hba3b)
          have HG3b := Lib.hid ((hG3b.isG (fun b hb => (hr3b b hb).2)).below hba3b (Nat.le_refl _))
          have HZ3b := Lib.hid (show v3b.heap.size < X3b.heap.size by rw [← hX3b]; simp)
          have HK3b := Lib.hid hbk3b
          have HX3b := Lib.hid hX3b
          have x3b_0 := hbk3b.cell (i := 0) rfl
          have x3b_1 := hbk3b.cell (i := 1) rfl
          clear f0_0 f0_1 f1_0 f1_1 f1_2 f1_3 f2_0 f2_1 f2_2 f2_3 f2_4 f2_5 x3a_0 x3a_1
          have HS9 := Lib.hid (sameG_any g g _ _ (v3b.heap.size) X3b HG3b.out ((HGG.out _ HBX3b.out.bel).mono (by have := (HBX3a.out.below hb3b).bel.size; exact this)) (Nat.le_of_lt HZ3b.out))
          rw [(sameG_iff g g).2 rfl] at HS9
          rw [← hX3b] at x3b_0 x3b_1
          have f0_0 : X3b.cell? ⟨w.heap.size, 0, none⟩ = some (.slice na g.nodes.length nc) := HBX3b.out.cell 0 0 rfl rfl
          have f0_1 : X3b.cell? ⟨w.heap.size, 1, none⟩ = some (.slice ea g.edges.length ec) := HBX3b.out.cell 0 1 rfl rfl
          have f1_0 : X3b.cell? ⟨w.heap.size + 1, 0, none⟩ = some (.int .i64 n.id) := HBX3b.out.cell 1 0 rfl rfl
          have f1_1 : X3b.cell? ⟨w.heap.size + 1, 1, none⟩ = some (.slice la n.labels.length lc) := HBX3b.out.cell 1 1 rfl rfl
          have f1_2 : X3b.cell? ⟨w.heap.size + 1, 2, none⟩ = some (.slice ka n.keys.length kc) := HBX3b.out.cell 1 2 rfl rfl
          have f1_3 : X3b.cell? ⟨w.heap.size + 1, 3, none⟩ = some (.slice va n.vals.length vc) := HBX3b.out.cell 1 3 rfl rfl
          have f2_0 : X3b.cell? ⟨w.heap.size + 2, 0, none⟩ = some (.int .i64 d.id) := HBX3b.out.cell 2 0 rfl rfl
          have f2_1 : X3b.cell? ⟨w.heap.size + 2, 1, none⟩ = some (.int .i64 d.src) := HBX3b.out.cell 2 1 rfl rfl
          have f2_2 : X3b.cell? ⟨w.heap.size + 2, 2, none⟩ = some (.int .i64 d.dst) := HBX3b.out.cell 2 2 rfl rfl
          have f2_3 : X3b.cell? ⟨w.heap.size + 2, 3, none⟩ = some (.string d.ty) := HBX3b.out.cell 2 3 rfl rfl
          have f2_4 : X3b.cell? ⟨w.heap.size + 2, 4, none⟩ = some (.slice dka d.keys.length dkc) := HBX3b.out.cell 2 4 rfl rfl
          have f2_5 : X3b.cell? ⟨w.heap.size + 2, 5, none⟩ = some (.slice dva d.vals.length dvc) := HBX3b.out.cell 2 5 rfl rfl
          rw [← hX3b] at f0_0 f0_1 f1_0 f1_1 f1_2 f1_3 f2_0 f2_1 f2_2 f2_3 f2_4 f2_5
          clear hX3b hba3b hbk3b hb3b hr3b hG3b
          go_wp2_with fail
          rw [HX3b.out]
          refine HS9.out.mono ?_
          rintro e z3 ⟨rfl, hbz⟩
          have HBZ3 := Lib.hid (HBX3b.out.below hbz)
          clear f0_0 f0_1 f1_0 f1_1 f1_2 f1_3 f2_0 f2_1 f2_2 f2_3 f2_4 f2_5 x3b_0 x3b_1 hbz
          have f0_0 : z3.cell? ⟨w.heap.size, 0, none⟩ = some (.slice na g.nodes.length nc) := HBZ3.out.cell 0 0 rfl rfl
          have f0_1 : z3.cell? ⟨w.heap.size, 1, none⟩ = some (.slice ea g.edges.length ec) := HBZ3.out.cell 0 1 rfl rfl
          have f1_0 : z3.cell? ⟨w.heap.size + 1, 0, none⟩ = some (.int .i64 n.id) := HBZ3.out.cell 1 0 rfl rfl
          have f1_1 : z3.cell? ⟨w.heap.size + 1, 1, none⟩ = some (.slice la n.labels.length lc) := HBZ3.out.cell 1 1 rfl rfl
          have f1_2 : z3.cell? ⟨w.heap.size + 1, 2, none⟩ = some (.slice ka n.keys.length kc) := HBZ3.out.cell 1 2 rfl rfl
          have f1_3 : z3.cell? ⟨w.heap.size + 1, 3, none⟩ = some (.slice va n.vals.length vc) := HBZ3.out.cell 1 3 rfl rfl
          have f2_0 : z3.cell? ⟨w.heap.size + 2, 0, none⟩ = some (.int .i64 d.id) := HBZ3.out.cell 2 0 rfl rfl
          have f2_1 : z3.cell? ⟨w.heap.size + 2, 1, none⟩ = some (.int .i64 d.src) := HBZ3.out.cell 2 1 rfl rfl
          have f2_2 : z3.cell? ⟨w.heap.size + 2, 2, none⟩ = some (.int .i64 d.dst) := HBZ3.out.cell 2 2 rfl rfl
          have f2_3 : z3.cell? ⟨w.heap.size + 2, 3, none⟩ = some (.string d.ty) := HBZ3.out.cell 2 3 rfl rfl
          have f2_4 : z3.cell? ⟨w.heap.size + 2, 4, none⟩ = some (.slice dka d.keys.length dkc) := HBZ3.out.cell 2 4 rfl rfl
          have f2_5 : z3.cell? ⟨w.heap.size + 2, 5, none⟩ = some (.slice dva d.vals.length dvc) := HBZ3.out.cell 2 5 rfl rfl
          go_wp2_with fail
          refine (HATE.out _ HBZ3.out.bel).mono ?_
          rintro e y5 ⟨rfl, hby5⟩
          have HBY5 := Lib.hid (HBZ3.out.below hby5)
          clear f0_0 f0_1 f1_0 f1_1 f1_2 f1_3 f2_0 f2_1 f2_2 f2_3 f2_4 f2_5 hby5
          obtain ⟨at5, hat5⟩ : ∃ x, idxOf (g.edges.map (·.id)) d.id = x := ⟨_, rfl⟩
          have HI5 : Hid (hasI (idsE g) d.id = decide (0 ≤ at5)) := Lib.hid (by rw [← hat5]; exact HHIE.out)
          rw [hat5]
          clear hat5
          by_cases hc5 : 0 ≤ at5
          · have hc5' : ¬ at5 < 0 := by omega
            go_wp2_with fail
            refine (gworks_any y5).mono ?_
            rintro e wl ⟨rfl, hbl⟩
            have HBL := Lib.hid (HBY5.out.below hbl)
            clear hbl
            go_wp2_with fail
            exact HQ.out _ HBL.out.bel
          · skip
            have hc5' : at5 < 0 := by omega
            have HNO5 : Hid (hasI (idsE g) d.id = false) := Lib.hid (by rw [HI5.out]; exact decide_eq_false hc5)
            rcases join_cut HMG.out HNO5.out HLEN.out.2 with ⟨code, hcz, hbad⟩ | hgood
            · skip
              have HC9 := Lib.hid (HJOIN.out _ HBY5.out.bel)
              rw [hbad] at HC9
              clear hbad
              have hcz1 : (code == 0) = false := by simpa using hcz
              have hcz2 : ¬ code = 0 := hcz
              have f0_0 : y5.cell? ⟨w.heap.size, 0, none⟩ = some (.slice na g.nodes.length nc) := HBY5.out.cell 0 0 rfl rfl
              have f0_1 : y5.cell? ⟨w.heap.size, 1, none⟩ = some (.slice ea g.edges.length ec) := HBY5.out.cell 0 1 rfl rfl
              have f1_0 : y5.cell? ⟨w.heap.size + 1, 0, none⟩ = some (.int .i64 n.id) := HBY5.out.cell 1 0 rfl rfl
              have f1_1 : y5.cell? ⟨w.heap.size + 1, 1, none⟩ = some (.slice la n.labels.length lc) := HBY5.out.cell 1 1 rfl rfl
              have f1_2 : y5.cell? ⟨w.heap.size + 1, 2, none⟩ = some (.slice ka n.keys.length kc) := HBY5.out.cell 1 2 rfl rfl
              have f1_3 : y5.cell? ⟨w.heap.size + 1, 3, none⟩ = some (.slice va n.vals.length vc) := HBY5.out.cell 1 3 rfl rfl
              have f2_0 : y5.cell? ⟨w.heap.size + 2, 0, none⟩ = some (.int .i64 d.id) := HBY5.out.cell 2 0 rfl rfl
              have f2_1 : y5.cell? ⟨w.heap.size + 2, 1, none⟩ = some (.int .i64 d.src) := HBY5.out.cell 2 1 rfl rfl
              have f2_2 : y5.cell? ⟨w.heap.size + 2, 2, none⟩ = some (.int .i64 d.dst) := HBY5.out.cell 2 2 rfl rfl
              have f2_3 : y5.cell? ⟨w.heap.size + 2, 3, none⟩ = some (.string d.ty) := HBY5.out.cell 2 3 rfl rfl
              have f2_4 : y5.cell? ⟨w.heap.size + 2, 4, none⟩ = some (.slice dka d.keys.length dkc) := HBY5.out.cell 2 4 rfl rfl
              have f2_5 : y5.cell? ⟨w.heap.size + 2, 5, none⟩ = some (.slice dva d.vals.length dvc) := HBY5.out.cell 2 5 rfl rfl
              go_wp2_with fail
              refine (HC9.out).mono ?_
              rintro e v5c ⟨cs5c, bs5c, rfl, hb5c, hG5c, -, hr5c⟩
              obtain ⟨ra5c, rc5c, rd5c, re5c, rfl⟩ := hG5c.form
              obtain ⟨X5c, hX5c⟩ : ∃ X, v5c.alloc (.cells #[.slice ra5c noG.nodes.length rc5c, .slice rd5c noG.edges.length re5c] 25) = X := ⟨_, rfl⟩
              have hba5c : Below v5c.heap.size v5c X5c := by rw [← hX5c]; exact (Below.refl _ _).alloc (Nat.le_refl _) _
              have hbk5c : Block X5c v5c.heap.size [.slice ra5c noG.nodes.length rc5c, .slice rd5c noG.edges.length re5c] 25 := by rw [← hX5c]; exact Block.new _ _ _
              have HBX5c := Lib.hid ((HBY5.out.below hb5c).below hba5c)
              have HG5c := Lib.hid ((hG5c.isG (fun b hb => (hr5c b hb).2)).below hba5c (Nat.le_refl _))
              have HZ5c := Lib.hid (show v5c.heap.size < X5c.heap.size by rw [← hX5c]; simp)
              have HK5c := Lib.hid hbk5c
              have HX5c := Lib.hid hX5c
              have x5c_0 := hbk5c.cell (i := 0) rfl
              have x5c_1 := hbk5c.cell (i := 1) rfl
              clear f0_0 f0_1 f1_0 f1_1 f1_2 f1_3 f2_0 f2_1 f2_2 f2_3 f2_4 f2_5
              rw [← hX5c] at x5c_0 x5c_1
              clear hX5c hba5c hbk5c hb5c hr5c hG5c
              go_wp2_with fail
              rw [HX5c.out]
              refine (gworks_any X5c).mono ?_
              rintro e wl ⟨rfl, hbl⟩
              have HBL := Lib.hid (HBX5c.out.below hbl)
              clear hbl
              go_wp2_with fail
              exact HQ.out _ HBL.out.bel
            · skip
              obtain ⟨G2, hG2⟩ : ∃ G2 : Gt, ⟨g.nodes, setL g.edges (posI (idsE g) d.id) false d⟩ = G2 := ⟨_, rfl⟩
              rw [hG2] at hgood
              obtain ⟨hq1, hq2, hq3⟩ := hgood
              have HQ2 := Lib.hid hq2
              have HQ3 := Lib.hid hq3
              have HC9 := Lib.hid (HJOIN.out _ HBY5.out.bel)
              rw [hq1] at HC9
              have HSG2 : Hid (SmG G2) := Lib.hid (by rw [← hG2]; exact HSMJ.out _ _ (setL_small (posE_le g d.id) HLEN.out.2))
              clear hq1 hq2 hq3 hG2
              have f0_0 : y5.cell? ⟨w.heap.size, 0, none⟩ = some (.slice na g.nodes.length nc) := HBY5.out.cell 0 0 rfl rfl
              have f0_1 : y5.cell? ⟨w.heap.size, 1, none⟩ = some (.slice ea g.edges.length ec) := HBY5.out.cell 0 1 rfl rfl
              have f1_0 : y5.cell? ⟨w.heap.size + 1, 0, none⟩ = some (.int .i64 n.id) := HBY5.out.cell 1 0 rfl rfl
              have f1_1 : y5.cell? ⟨w.heap.size + 1, 1, none⟩ = some (.slice la n.labels.length lc) := HBY5.out.cell 1 1 rfl rfl
              have f1_2 : y5.cell? ⟨w.heap.size + 1, 2, none⟩ = some (.slice ka n.keys.length kc) := HBY5.out.cell 1 2 rfl rfl
              have f1_3 : y5.cell? ⟨w.heap.size + 1, 3, none⟩ = some (.slice va n.vals.length vc) := HBY5.out.cell 1 3 rfl rfl
              have f2_0 : y5.cell? ⟨w.heap.size + 2, 0, none⟩ = some (.int .i64 d.id) := HBY5.out.cell 2 0 rfl rfl
              have f2_1 : y5.cell? ⟨w.heap.size + 2, 1, none⟩ = some (.int .i64 d.src) := HBY5.out.cell 2 1 rfl rfl
              have f2_2 : y5.cell? ⟨w.heap.size + 2, 2, none⟩ = some (.int .i64 d.dst) := HBY5.out.cell 2 2 rfl rfl
              have f2_3 : y5.cell? ⟨w.heap.size + 2, 3, none⟩ = some (.string d.ty) := HBY5.out.cell 2 3 rfl rfl
              have f2_4 : y5.cell? ⟨w.heap.size + 2, 4, none⟩ = some (.slice dka d.keys.length dkc) := HBY5.out.cell 2 4 rfl rfl
              have f2_5 : y5.cell? ⟨w.heap.size + 2, 5, none⟩ = some (.slice dva d.vals.length dvc) := HBY5.out.cell 2 5 rfl rfl
              go_wp2_with fail
              refine (HC9.out).mono ?_
              rintro e v5a ⟨cs5a, bs5a, rfl, hb5a, hG5a, -, hr5a⟩
              obtain ⟨ra5a, rc5a, rd5a, re5a, rfl⟩ := hG5a.form
              obtain ⟨X5a, hX5a⟩ : ∃ X, v5a.alloc (.cells #[.slice ra5a G2.nodes.length rc5a, .slice rd5a G2.edges.length re5a] 25) = X := ⟨_, rfl⟩
              have hba5a : Below v5a.heap.size v5a X5a := by rw [← hX5a]; exact (Below.refl _ _).alloc (Nat.le_refl _) _
              have hbk5a : Block X5a v5a.heap.size [.slice ra5a G2.nodes.length rc5a, .slice rd5a G2.edges.length re5a] 25 := by rw [← hX5a]; exact Block.new _ _ _
              have HBX5a := Lib.hid ((HBY5.out.below hb5a).below hba5a)
              have HG5a := Lib.hid ((hG5a.isG (fun b hb => (hr5a b hb).2)).below hba5a (Nat.le_refl _))
              have HZ5a := Lib.hid (show v5a.heap.size < X5a.heap.size by rw [← hX5a]; simp)
              have HK5a := Lib.hid hbk5a
              have HX5a := Lib.hid hX5a
              have x5a_0 := hbk5a.cell (i := 0) rfl
              have x5a_1 := hbk5a.cell (i := 1) rfl
              clear f0_0 f0_1 f1_0 f1_1 f1_2 f1_3 f2_0 f2_1 f2_2 f2_3 f2_4 f2_5
              rw [← hX5a] at x5a_0 x5a_1
              have f0_0 : X5a.cell? ⟨w.heap.size, 0, none⟩ = some (.slice na g.nodes.length nc) := HBX5a.out.cell 0 0 rfl rfl
              have f0_1 : X5a.cell? ⟨w.heap.size, 1, none⟩ = some (.slice ea g.edges.length ec) := HBX5a.out.cell 0 1 rfl rfl
              have f1_0 : X5a.cell? ⟨w.heap.size + 1, 0, none⟩ = some (.int .i64 n.id) := HBX5a.out.cell 1 0 rfl rfl
              have f1_1 : X5a.cell? ⟨w.heap.size + 1, 1, none⟩ = some (.slice la n.labels.length lc) := HBX5a.out.cell 1 1 rfl rfl
              have f1_2 : X5a.cell? ⟨w.heap.size + 1, 2, none⟩ = some (.slice ka n.keys.length kc) := HBX5a.out.cell 1 2 rfl rfl
              have f1_3 : X5a.cell? ⟨w.heap.size + 1, 3, none⟩ = some (.slice va n.vals.length vc) := HBX5a.out.cell 1 3 rfl rfl
              have f2_0 : X5a.cell? ⟨w.heap.size + 2, 0, none⟩ = some (.int .i64 d.id) := HBX5a.out.cell 2 0 rfl rfl
              have f2_1 : X5a.cell? ⟨w.heap.size + 2, 1, none⟩ = some (.int .i64 d.src) := HBX5a.out.cell 2 1 rfl rfl
              have f2_2 : X5a.cell? ⟨w.heap.size + 2, 2, none⟩ = some (.int .i64 d.dst) := HBX5a.out.cell 2 2 rfl rfl
              have f2_3 : X5a.cell? ⟨w.heap.size + 2, 3, none⟩ = some (.string d.ty) := HBX5a.out.cell 2 3 rfl rfl
              have f2_4 : X5a.cell? ⟨w.heap.size + 2, 4, none⟩ = some (.slice dka d.keys.length dkc) := HBX5a.out.cell 2 4 rfl rfl
              have f2_5 : X5a.cell? ⟨w.heap.size + 2, 5, none⟩ = some (.slice dva d.vals.length dvc) := HBX5a.out.cell 2 5 rfl rfl
              rw [← hX5a] at f0_0 f0_1 f1_0 f1_1 f1_2 f1_3 f2_0 f2_1 f2_2 f2_3 f2_4 f2_5
              clear hX5a hba5a hbk5a hb5a hr5a hG5a
              have HD9 := Lib.hid (cut_any G2 d.id _ v5a.heap.size X5a HG5a.out (Nat.le_of_lt HZ5a.out) HQ2.out HSG2.out)
              rw [HQ3.out] at HD9
              go_wp2_with fail
              rw [HX5a.out]
              refine (HD9.out).mono ?_
              rintro e v5b ⟨cs5b, bs5b, rfl, hb5b, hG5b, -, hr5b⟩
              obtain ⟨ra5b, rc5b, rd5b, re5b, rfl⟩ := hG5b.form
              obtain ⟨X5b, hX5b⟩ : ∃ X, v5b.alloc (.cells #[.slice ra5b g.nodes.length rc5b, .slice rd5b g.edges.length re5b] 25) = X := ⟨_, rfl⟩
              have hba5b : Below v5b.heap.size v5b X5b := by rw [← hX5b]; exact (Below.refl _ _).alloc (Nat.le_refl _) _
              have hbk5b : Block X5b v5b.heap.size [.slice ra5b g.nodes.length rc5b, .slice rd5b g.edges.length re5b] 25 := by rw [← hX5b]; exact Block.new _ _ _
              have HBX5b := Lib.hid ((HBX5a.out.below hb5b).below hba5b)
              have HG5b := Lib.hid ((hG5b.isG (fun b hb => (hr5b b hb).2)).below hba5b (Nat.le_refl _))
              have HZ5b := Lib.hid (show v5b.heap.size < X5b.heap.size by rw [← hX5b]; simp)
              have HK5b := Lib.hid hbk5b
              have HX5b := Lib.hid hX5b
              have x5b_0 := hbk5b.cell (i := 0) rfl
              have x5b_1 := hbk5b.cell (i := 1) rfl
              clear f0_0 f0_1 f1_0 f1_1 f1_2 f1_3 f2_0 f2_1 f2_2 f2_3 f2_4 f2_5 x5a_0 x5a_1
              have HS9 := Lib.hid (sameG_any g g _ _ (v5b.heap.size) X5b HG5b.out ((HGG.out _ HBX5b.out.bel).mono (by have := (HBX5a.out.below hb5b).bel.size; exact this)) (Nat.le_of_lt HZ5b.out))
              rw [(sameG_iff g g).2 rfl] at HS9
              rw [← hX5b] at x5b_0 x5b_1
              have f0_0 : X5b.cell? ⟨w.heap.size, 0, none⟩ = some (.slice na g.nodes.length nc) := HBX5b.out.cell 0 0 rfl rfl
              have f0_1 : X5b.cell? ⟨w.heap.size, 1, none⟩ = some (.slice ea g.edges.length ec) := HBX5b.out.cell 0 1 rfl rfl
              have f1_0 : X5b.cell? ⟨w.heap.size + 1, 0, none⟩ = some (.int .i64 n.id) := HBX5b.out.cell 1 0 rfl rfl
              have f1_1 : X5b.cell? ⟨w.heap.size + 1, 1, none⟩ = some (.slice la n.labels.length lc) := HBX5b.out.cell 1 1 rfl rfl
              have f1_2 : X5b.cell? ⟨w.heap.size + 1, 2, none⟩ = some (.slice ka n.keys.length kc) := HBX5b.out.cell 1 2 rfl rfl
              have f1_3 : X5b.cell? ⟨w.heap.size + 1, 3, none⟩ = some (.slice va n.vals.length vc) := HBX5b.out.cell 1 3 rfl rfl
              have f2_0 : X5b.cell? ⟨w.heap.size + 2, 0, none⟩ = some (.int .i64 d.id) := HBX5b.out.cell 2 0 rfl rfl
              have f2_1 : X5b.cell? ⟨w.heap.size + 2, 1, none⟩ = some (.int .i64 d.src) := HBX5b.out.cell 2 1 rfl rfl
              have f2_2 : X5b.cell? ⟨w.heap.size + 2, 2, none⟩ = some (.int .i64 d.dst) := HBX5b.out.cell 2 2 rfl rfl
              have f2_3 : X5b.cell? ⟨w.heap.size + 2, 3, none⟩ = some (.string d.ty) := HBX5b.out.cell 2 3 rfl rfl
              have f2_4 : X5b.cell? ⟨w.heap.size + 2, 4, none⟩ = some (.slice dka d.keys.length dkc) := HBX5b.out.cell 2 4 rfl rfl
              have f2_5 : X5b.cell? ⟨w.heap.size + 2, 5, none⟩ = some (.slice dva d.vals.length dvc) := HBX5b.out.cell 2 5 rfl rfl
              rw [← hX5b] at f0_0 f0_1 f1_0 f1_1 f1_2 f1_3 f2_0 f2_1 f2_2 f2_3 f2_4 f2_5
              clear hX5b hba5b hbk5b hb5b hr5b hG5b
              go_wp2_with fail
              rw [HX5b.out]
              refine HS9.out.mono ?_
              rintro e z5 ⟨rfl, hbz⟩
              have HBZ5 := Lib.hid (HBX5b.out.below hbz)
              clear f0_0 f0_1 f1_0 f1_1 f1_2 f1_3 f2_0 f2_1 f2_2 f2_3 f2_4 f2_5 x5b_0 x5b_1 hbz
              go_wp2_with fail
              refine (gworks_any z5).mono ?_
              rintro e wl ⟨rfl, hbl⟩
              have HBL := Lib.hid (HBZ5.out.below hbl)
              clear hbl
              go_wp2_with fail
              exact HQ.out _ HBL.out.bel
        | false =>
          have hbad := put_no (g := g) hmn
          rw [hmn] at HMN
          clear hmn
          have HC9 := Lib.hid (HPUT.out _ HBY3.out.bel)
          rw [hbad] at HC9
          clear hbad
          have f0_0 : y3.cell? ⟨w.heap.size, 0, none⟩ = some (.slice na g.nodes.length nc) := HBY3.out.cell 0 0 rfl rfl
          have f0_1 : y3.cell? ⟨w.heap.size, 1, none⟩ = some (.slice ea g.edges.length ec) := HBY3.out.cell 0 1 rfl rfl
          have f1_0 : y3.cell? ⟨w.heap.size + 1, 0, none⟩ = some (.int .i64 n.id) := HBY3.out.cell 1 0 rfl rfl
          have f1_1 : y3.cell? ⟨w.heap.size + 1, 1, none⟩ = some (.slice la n.labels.length lc) := HBY3.out.cell 1 1 rfl rfl
          have f1_2 : y3.cell? ⟨w.heap.size + 1, 2, none⟩ = some (.slice ka n.keys.length kc) := HBY3.out.cell 1 2 rfl rfl
          have f1_3 : y3.cell? ⟨w.heap.size + 1, 3, none⟩ = some (.slice va n.vals.length vc) := HBY3.out.cell 1 3 rfl rfl
          have f2_0 : y3.cell? ⟨w.heap.size + 2, 0, none⟩ = some (.int .i64 d.id) := HBY3.out.cell 2 0 rfl rfl
          have f2_1 : y3.cell? ⟨w.heap.size + 2, 1, none⟩ = some (.int .i64 d.src) := HBY3.out.cell 2 1 rfl rfl
          have f2_2 : y3.cell? ⟨w.heap.size + 2, 2, none⟩ = some (.int .i64 d.dst) := HBY3.out.cell 2 2 rfl rfl
          have f2_3 : y3.cell? ⟨w.heap.size + 2, 3, none⟩ = some (.string d.ty) := HBY3.out.cell 2 3 rfl rfl
          have f2_4 : y3.cell? ⟨w.heap.size + 2, 4, none⟩ = some (.slice dka d.keys.length dkc) := HBY3.out.cell 2 4 rfl rfl
          have f2_5 : y3.cell? ⟨w.heap.size + 2, 5, none⟩ = some (.slice dva d.vals.length dvc) := HBY3.out.cell 2 5 rfl rfl
          go_wp2_with fail
          refine (HC9.out).mono ?_
          rintro e v3c ⟨cs3c, bs3c, rfl, hb3c, hG3c, -, hr3c⟩
          obtain ⟨ra3c, rc3c, rd3c, re3c, rfl⟩ := hG3c.form
          obtain ⟨X3c, hX3c⟩ : ∃ X, v3c.alloc (.cells #[.slice ra3c noG.nodes.length rc3c, .slice rd3c noG.edges.length re3c] 25) = X := ⟨_, rfl⟩
          have hba3c : Below v3c.heap.size v3c X3c := by rw [← hX3c]; exact (Below.refl _ _).alloc (Nat.le_refl _) _
          have hbk3c : Block X3c v3c.heap.size [.slice ra3c noG.nodes.length rc3c, .slice rd3c noG.edges.length re3c] 25 := by rw [← hX3c]; exact Block.new _ _ _
          have HBX3c := Lib.hid ((HBY3.out.below hb3c).below hba3c)
          have HG3c := Lib.hid ((hG3c.isG (fun b hb => (hr3c b hb).2)).below hba3c (Nat.le_refl _))
          have HZ3c := Lib.hid (show v3c.heap.size < X3c.heap.size by rw [← hX3c]; simp)
          have HK3c := Lib.hid hbk3c
          have HX3c := Lib.hid hX3c
          have x3c_0 := hbk3c.cell (i := 0) rfl
          have x3c_1 := hbk3c.cell (i := 1) rfl
          clear f0_0 f0_1 f1_0 f1_1 f1_2 f1_3 f2_0 f2_1 f2_2 f2_3 f2_4 f2_5
          rw [← hX3c] at x3c_0 x3c_1
          have f0_0 : X3c.cell? ⟨w.heap.size, 0, none⟩ = some (.slice na g.nodes.length nc) := HBX3c.out.cell 0 0 rfl rfl
          have f0_1 : X3c.cell? ⟨w.heap.size, 1, none⟩ = some (.slice ea g.edges.length ec) := HBX3c.out.cell 0 1 rfl rfl
          have f1_0 : X3c.cell? ⟨w.heap.size + 1, 0, none⟩ = some (.int .i64 n.id) := HBX3c.out.cell 1 0 rfl rfl
          have f1_1 : X3c.cell? ⟨w.heap.size + 1, 1, none⟩ = some (.slice la n.labels.length lc) := HBX3c.out.cell 1 1 rfl rfl
          have f1_2 : X3c.cell? ⟨w.heap.size + 1, 2, none⟩ = some (.slice ka n.keys.length kc) := HBX3c.out.cell 1 2 rfl rfl
          have f1_3 : X3c.cell? ⟨w.heap.size + 1, 3, none⟩ = some (.slice va n.vals.length vc) := HBX3c.out.cell 1 3 rfl rfl
          have f2_0 : X3c.cell? ⟨w.heap.size + 2, 0, none⟩ = some (.int .i64 d.id) := HBX3c.out.cell 2 0 rfl rfl
          have f2_1 : X3c.cell? ⟨w.heap.size + 2, 1, none⟩ = some (.int .i64 d.src) := HBX3c.out.cell 2 1 rfl rfl
          have f2_2 : X3c.cell? ⟨w.heap.size + 2, 2, none⟩ = some (.int .i64 d.dst) := HBX3c.out.cell 2 2 rfl rfl
          have f2_3 : X3c.cell? ⟨w.heap.size + 2, 3, none⟩ = some (.string d.ty) := HBX3c.out.cell 2 3 rfl rfl
          have f2_4 : X3c.cell? ⟨w.heap.size + 2, 4, none⟩ = some (.slice dka d.keys.length dkc) := HBX3c.out.cell 2 4 rfl rfl
          have f2_5 : X3c.cell? ⟨w.heap.size + 2, 5, none⟩ = some (.slice dva d.vals.length dvc) := HBX3c.out.cell 2 5 rfl rfl
          rw [← hX3c] at f0_0 f0_1 f1_0 f1_1 f1_2 f1_3 f2_0 f2_1 f2_2 f2_3 f2_4 f2_5
          clear hX3c hba3c hbk3c hb3c hr3c hG3c
          go_wp2_with fail
          rw [HX3c.out]
          refine (HMN.out _ HBX3c.out.bel).mono ?_
          rintro e z3 ⟨rfl, hbz⟩
          have HBZ3 := Lib.hid (HBX3c.out.below hbz)
          clear f0_0 f0_1 f1_0 f1_1 f1_2 f1_3 f2_0 f2_1 f2_2 f2_3 f2_4 f2_5 x3c_0 x3c_1 hbz
          have f0_0 : z3.cell? ⟨w.heap.size, 0, none⟩ = some (.slice na g.nodes.length nc) := HBZ3.out.cell 0 0 rfl rfl
          have f0_1 : z3.cell? ⟨w.heap.size, 1, none⟩ = some (.slice ea g.edges.length ec) := HBZ3.out.cell 0 1 rfl rfl
          have f1_0 : z3.cell? ⟨w.heap.size + 1, 0, none⟩ = some (.int .i64 n.id) := HBZ3.out.cell 1 0 rfl rfl
          have f1_1 : z3.cell? ⟨w.heap.size + 1, 1, none⟩ = some (.slice la n.labels.length lc) := HBZ3.out.cell 1 1 rfl rfl
          have f1_2 : z3.cell? ⟨w.heap.size + 1, 2, none⟩ = some (.slice ka n.keys.length kc) := HBZ3.out.cell 1 2 rfl rfl
          have f1_3 : z3.cell? ⟨w.heap.size + 1, 3, none⟩ = some (.slice va n.vals.length vc) := HBZ3.out.cell 1 3 rfl rfl
          have f2_0 : z3.cell? ⟨w.heap.size + 2, 0, none⟩ = some (.int .i64 d.id) := HBZ3.out.cell 2 0 rfl rfl
          have f2_1 : z3.cell? ⟨w.heap.size + 2, 1, none⟩ = some (.int .i64 d.src) := HBZ3.out.cell 2 1 rfl rfl
          have f2_2 : z3.cell? ⟨w.heap.size + 2, 2, none⟩ = some (.int .i64 d.dst) := HBZ3.out.cell 2 2 rfl rfl
          have f2_3 : z3.cell? ⟨w.heap.size + 2, 3, none⟩ = some (.string d.ty) := HBZ3.out.cell 2 3 rfl rfl
          have f2_4 : z3.cell? ⟨w.heap.size + 2, 4, none⟩ = some (.slice dka d.keys.length dkc) := HBZ3.out.cell 2 4 rfl rfl
          have f2_5 : z3.cell? ⟨w.heap.size + 2, 5, none⟩ = some (.slice dva d.vals.length dvc) := HBZ3.out.cell 2 5 rfl rfl
          go_wp2_with fail
          refine (HATE.out _ HBZ3.out.bel).mono ?_
          rintro e y5 ⟨rfl, hby5⟩
          have HBY5 := Lib.hid (HBZ3.out.below hby5)
          clear f0_0 f0_1 f1_0 f1_1 f1_2 f1_3 f2_0 f2_1 f2_2 f2_3 f2_4 f2_5 hby5
          obtain ⟨at5, hat5⟩ : ∃ x, idxOf (g.edges.map (·.id)) d.id = x := ⟨_, rfl⟩
          have HI5 : Hid (hasI (idsE g) d.id = decide (0 ≤ at5)) := Lib.hid (by rw [← hat5]; exact HHIE.out)
          rw [hat5]
          clear hat5
          by_cases hc5 : 0 ≤ at5
          · have hc5' : ¬ at5 < 0 := by omega
            go_wp2_with fail
            refine (gworks_any y5).mono ?_
            rintro e wl ⟨rfl, hbl⟩
            have HBL := Lib.hid (HBY5.out.below hbl)
            clear hbl
            go_wp2_with fail
            exact HQ.out _ HBL.out.bel
          · skip
            have hc5' : at5 < 0 := by omega
            have HNO5 : Hid (hasI (idsE g) d.id = false) := Lib.hid (by rw [HI5.out]; exact decide_eq_false hc5)
            rcases join_cut HMG.out HNO5.out HLEN.out.2 with ⟨code, hcz, hbad⟩ | hgood
            · skip
              have HC9 := Lib.hid (HJOIN.out _ HBY5.out.bel)
              rw [hbad] at HC9
              clear hbad
              have hcz1 : (code == 0) = false := by simpa using hcz
              have hcz2 : ¬ code = 0 := hcz
              have f0_0 : y5.cell? ⟨w.heap.size, 0, none⟩ = some (.slice na g.nodes.length nc) := HBY5.out.cell 0 0 rfl rfl
              have f0_1 : y5.cell? ⟨w.heap.size, 1, none⟩ = some (.slice ea g.edges.length ec) := HBY5.out.cell 0 1 rfl rfl
              have f1_0 : y5.cell? ⟨w.heap.size + 1, 0, none⟩ = some (.int .i64 n.id) := HBY5.out.cell 1 0 rfl rfl
              have f1_1 : y5.cell? ⟨w.heap.size + 1, 1, none⟩ = some (.slice la n.labels.length lc) := HBY5.out.cell 1 1 rfl rfl
              have f1_2 : y5.cell? ⟨w.heap.size + 1, 2, none⟩ = some (.slice ka n.keys.length kc) := HBY5.out.cell 1 2 rfl rfl
              have f1_3 : y5.cell? ⟨w.heap.size + 1, 3, none⟩ = some (.slice va n.vals.length vc) := HBY5.out.cell 1 3 rfl rfl
              have f2_0 : y5.cell? ⟨w.heap.size + 2, 0, none⟩ = some (.int .i64 d.id) := HBY5.out.cell 2 0 rfl rfl
              have f2_1 : y5.cell? ⟨w.heap.size + 2, 1, none⟩ = some (.int .i64 d.src) := HBY5.out.cell 2 1 rfl rfl
              have f2_2 : y5.cell? ⟨w.heap.size + 2, 2, none⟩ = some (.int .i64 d.dst) := HBY5.out.cell 2 2 rfl rfl
              have f2_3 : y5.cell? ⟨w.heap.size + 2, 3, none⟩ = some (.string d.ty) := HBY5.out.cell 2 3 rfl rfl
              have f2_4 : y5.cell? ⟨w.heap.size + 2, 4, none⟩ = some (.slice dka d.keys.length dkc) := HBY5.out.cell 2 4 rfl rfl
              have f2_5 : y5.cell? ⟨w.heap.size + 2, 5, none⟩ = some (.slice dva d.vals.length dvc) := HBY5.out.cell 2 5 rfl rfl
              go_wp2_with fail
              refine (HC9.out).mono ?_
              rintro e v5c ⟨cs5c, bs5c, rfl, hb5c, hG5c, -, hr5c⟩
              obtain ⟨ra5c, rc5c, rd5c, re5c, rfl⟩ := hG5c.form
              obtain ⟨X5c, hX5c⟩ : ∃ X, v5c.alloc (.cells #[.slice ra5c noG.nodes.length rc5c, .slice rd5c noG.edges.length re5c] 25) = X := ⟨_, rfl⟩
              have hba5c : Below v5c.heap.size v5c X5c := by rw [← hX5c]; exact (Below.refl _ _).alloc (Nat.le_refl _) _
              have hbk5c : Block X5c v5c.heap.size [.slice ra5c noG.nodes.length rc5c, .slice rd5c noG.edges.length re5c] 25 := by rw [← hX5c]; exact Block.new _ _ _
              have HBX5c := Lib.hid ((HBY5.out.below hb5c).below hba5c)
              have HG5c := Lib.hid ((hG5c.isG (fun b hb => (hr5c b hb).2)).below hba5c (Nat.le_refl _))
              have HZ5c := Lib.hid (show v5c.heap.size < X5c.heap.size by rw [← hX5c]; simp)
              have HK5c := Lib.hid hbk5c
              have HX5c := Lib.hid hX5c
              have x5c_0 := hbk5c.cell (i := 0) rfl
              have x5c_1 := hbk5c.cell (i := 1) rfl
              clear f0_0 f0_1 f1_0 f1_1 f1_2 f1_3 f2_0 f2_1 f2_2 f2_3 f2_4 f2_5
              rw [← hX5c] at x5c_0 x5c_1
              clear hX5c hba5c hbk5c hb5c hr5c hG5c
              go_wp2_with fail
              rw [HX5c.out]
              refine (gworks_any X5c).mono ?_
              rintro e wl ⟨rfl, hbl⟩
              have HBL := Lib.hid (HBX5c.out.below hbl)
              clear hbl
              go_wp2_with fail
              exact HQ.out _ HBL.out.bel
            · skip
              obtain ⟨G2, hG2⟩ : ∃ G2 : Gt, ⟨g.nodes, setL g.edges (posI (idsE g) d.id) false d⟩ = G2 := ⟨_, rfl⟩
              rw [hG2] at hgood
              obtain ⟨hq1, hq2, hq3⟩ := hgood
              have HQ2 := Lib.hid hq2
              have HQ3 := Lib.hid hq3
              have HC9 := Lib.hid (HJOIN.out _ HBY5.out.bel)
              rw [hq1] at HC9
              have HSG2 : Hid (SmG G2) := Lib.hid (by rw [← hG2]; exact HSMJ.out _ _ (setL_small (posE_le g d.id) HLEN.out.2))
              clear hq1 hq2 hq3 hG2
              have f0_0 : y5.cell? ⟨w.heap.size, 0, none⟩ = some (.slice na g.nodes.length nc) := HBY5.out.cell 0 0 rfl rfl
              have f0_1 : y5.cell? ⟨w.heap.size, 1, none⟩ = some (.slice ea g.edges.length ec) := HBY5.out.cell 0 1 rfl rfl
              have f1_0 : y5.cell? ⟨w.heap.size + 1, 0, none⟩ = some (.int .i64 n.id) := HBY5.out.cell 1 0 rfl rfl
              have f1_1 : y5.cell? ⟨w.heap.size + 1, 1, none⟩ = some (.slice la n.labels.length lc) := HBY5.out.cell 1 1 rfl rfl
              have f1_2 : y5.cell? ⟨w.heap.size + 1, 2, none⟩ = some (.slice ka n.keys.length kc) := HBY5.out.cell 1 2 rfl rfl
              have f1_3 : y5.cell? ⟨w.heap.size + 1, 3, none⟩ = some (.slice va n.vals.length vc) := HBY5.out.cell 1 3 rfl rfl
              have f2_0 : y5.cell? ⟨w.heap.size + 2, 0, none⟩ = some (.int .i64 d.id) := HBY5.out.cell 2 0 rfl rfl
              have f2_1 : y5.cell? ⟨w.heap.size + 2, 1, none⟩ = some (.int .i64 d.src) := HBY5.out.cell 2 1 rfl rfl
              have f2_2 : y5.cell? ⟨w.heap.size + 2, 2, none⟩ = some (.int .i64 d.dst) := HBY5.out.cell 2 2 rfl rfl
              have f2_3 : y5.cell? ⟨w.heap.size + 2, 3, none⟩ = some (.string d.ty) := HBY5.out.cell 2 3 rfl rfl
              have f2_4 : y5.cell? ⟨w.heap.size + 2, 4, none⟩ = some (.slice dka d.keys.length dkc) := HBY5.out.cell 2 4 rfl rfl
              have f2_5 : y5.cell? ⟨w.heap.size + 2, 5, none⟩ = some (.slice dva d.vals.length dvc) := HBY5.out.cell 2 5 rfl rfl
              go_wp2_with fail
              refine (HC9.out).mono ?_
              rintro e v5a ⟨cs5a, bs5a, rfl, hb5a, hG5a, -, hr5a⟩
              obtain ⟨ra5a, rc5a, rd5a, re5a, rfl⟩ := hG5a.form
              obtain ⟨X5a, hX5a⟩ : ∃ X, v5a.alloc (.cells #[.slice ra5a G2.nodes.length rc5a, .slice rd5a G2.edges.length re5a] 25) = X := ⟨_, rfl⟩
              have hba5a : Below v5a.heap.size v5a X5a := by rw [← hX5a]; exact (Below.refl _ _).alloc (Nat.le_refl _) _
              have hbk5a : Block X5a v5a.heap.size [.slice ra5a G2.nodes.length rc5a, .slice rd5a G2.edges.length re5a] 25 := by rw [← hX5a]; exact Block.new _ _ _
              have HBX5a := Lib.hid ((HBY5.out.below hb5a).below hba5a)
              have HG5a := Lib.hid ((hG5a.isG (fun b hb => (hr5a b hb).2)).below hba5a (Nat.le_refl _))
              have HZ5a := Lib.hid (show v5a.heap.size < X5a.heap.size by rw [← hX5a]; simp)
              have HK5a := Lib.hid hbk5a
              have HX5a := Lib.hid hX5a
              have x5a_0 := hbk5a.cell (i := 0) rfl
              have x5a_1 := hbk5a.cell (i := 1) rfl
              clear f0_0 f0_1 f1_0 f1_1 f1_2 f1_3 f2_0 f2_1 f2_2 f2_3 f2_4 f2_5
              rw [← hX5a] at x5a_0 x5a_1
              have f0_0 : X5a.cell? ⟨w.heap.size, 0, none⟩ = some (.slice na g.nodes.length nc) := HBX5a.out.cell 0 0 rfl rfl
              have f0_1 : X5a.cell? ⟨w.heap.size, 1, none⟩ = some (.slice ea g.edges.length ec) := HBX5a.out.cell 0 1 rfl rfl
              have f1_0 : X5a.cell? ⟨w.heap.size + 1, 0, none⟩ = some (.int .i64 n.id) := HBX5a.out.cell 1 0 rfl rfl
              have f1_1 : X5a.cell? ⟨w.heap.size + 1, 1, none⟩ = some (.slice la n.labels.length lc) := HBX5a.out.cell 1 1 rfl rfl
              have f1_2 : X5a.cell? ⟨w.heap.size + 1, 2, none⟩ = some (.slice ka n.keys.length kc) := HBX5a.out.cell 1 2 rfl rfl
              have f1_3 : X5a.cell? ⟨w.heap.size + 1, 3, none⟩ = some (.slice va n.vals.length vc) := HBX5a.out.cell 1 3 rfl rfl
              have f2_0 : X5a.cell? ⟨w.heap.size + 2, 0, none⟩ = some (.int .i64 d.id) := HBX5a.out.cell 2 0 rfl rfl
              have f2_1 : X5a.cell? ⟨w.heap.size + 2, 1, none⟩ = some (.int .i64 d.src) := HBX5a.out.cell 2 1 rfl rfl
              have f2_2 : X5a.cell? ⟨w.heap.size + 2, 2, none⟩ = some (.int .i64 d.dst) := HBX5a.out.cell 2 2 rfl rfl
              have f2_3 : X5a.cell? ⟨w.heap.size + 2, 3, none⟩ = some (.string d.ty) := HBX5a.out.cell 2 3 rfl rfl
              have f2_4 : X5a.cell? ⟨w.heap.size + 2, 4, none⟩ = some (.slice dka d.keys.length dkc) := HBX5a.out.cell 2 4 rfl rfl
              have f2_5 : X5a.cell? ⟨w.heap.size + 2, 5, none⟩ = some (.slice dva d.vals.length dvc) := HBX5a.out.cell 2 5 rfl rfl
              rw [← hX5a] at f0_0 f0_1 f1_0 f1_1 f1_2 f1_3 f2_0 f2_1 f2_2 f2_3 f2_4 f2_5
              clear hX5a hba5a hbk5a hb5a hr5a hG5a
              have HD9 := Lib.hid (cut_any G2 d.id _ v5a.heap.size X5a HG5a.out (Nat.le_of_lt HZ5a.out) HQ2.out HSG2.out)
              rw [HQ3.out] at HD9
              go_wp2_with fail
              rw [HX5a.out]
              refine (HD9.out).mono ?_
              rintro e v5b ⟨cs5b, bs5b, rfl, hb5b, hG5b, -, hr5b⟩
              obtain ⟨ra5b, rc5b, rd5b, re5b, rfl⟩ := hG5b.form
              obtain ⟨X5b, hX5b⟩ : ∃ X, v5b.alloc (.cells #[.slice ra5b g.nodes.length rc5b, .slice rd5b g.edges.length re5b] 25) = X := ⟨_, rfl⟩
              have hba5b : Below v5b.heap.size v5b X5b := by rw [← hX5b]; exact (Below.refl _ _).alloc (Nat.le_refl _) _
              have hbk5b : Block X5b v5b.heap.size [.slice ra5b g.nodes.length rc5b, .slice rd5b g.edges.length re5b] 25 := by rw [← hX5b]; exact Block.new _ _ _
              have HBX5b := Lib.hid ((HBX5a.out.below hb5b).below hba5b)
              have HG5b := Lib.hid ((hG5b.isG (fun b hb => (hr5b b hb).2)).below hba5b (Nat.le_refl _))
              have HZ5b := Lib.hid (show v5b.heap.size < X5b.heap.size by rw [← hX5b]; simp)
              have HK5b := Lib.hid hbk5b
              have HX5b := Lib.hid hX5b
              have x5b_0 := hbk5b.cell (i := 0) rfl
              have x5b_1 := hbk5b.cell (i := 1) rfl
              clear f0_0 f0_1 f1_0 f1_1 f1_2 f1_3 f2_0 f2_1 f2_2 f2_3 f2_4 f2_5 x5a_0 x5a_1
              have HS9 := Lib.hid (sameG_any g g _ _ (v5b.heap.size) X5b HG5b.out ((HGG.out _ HBX5b.out.bel).mono (by have := (HBX5a.out.below hb5b).bel.size; exact this)) (Nat.le_of_lt HZ5b.out))
              rw [(sameG_iff g g).2 rfl] at HS9
              rw [← hX5b] at x5b_0 x5b_1
              have f0_0 : X5b.cell? ⟨w.heap.size, 0, none⟩ = some (.slice na g.nodes.length nc) := HBX5b.out.cell 0 0 rfl rfl
              have f0_1 : X5b.cell? ⟨w.heap.size, 1, none⟩ = some (.slice ea g.edges.length ec) := HBX5b.out.cell 0 1 rfl rfl
              have f1_0 : X5b.cell? ⟨w.heap.size + 1, 0, none⟩ = some (.int .i64 n.id) := HBX5b.out.cell 1 0 rfl rfl
              have f1_1 : X5b.cell? ⟨w.heap.size + 1, 1, none⟩ = some (.slice la n.labels.length lc) := HBX5b.out.cell 1 1 rfl rfl
              have f1_2 : X5b.cell? ⟨w.heap.size + 1, 2, none⟩ = some (.slice ka n.keys.length kc) := HBX5b.out.cell 1 2 rfl rfl
              have f1_3 : X5b.cell? ⟨w.heap.size + 1, 3, none⟩ = some (.slice va n.vals.length vc) := HBX5b.out.cell 1 3 rfl rfl
              have f2_0 : X5b.cell? ⟨w.heap.size + 2, 0, none⟩ = some (.int .i64 d.id) := HBX5b.out.cell 2 0 rfl rfl
              have f2_1 : X5b.cell? ⟨w.heap.size + 2, 1, none⟩ = some (.int .i64 d.src) := HBX5b.out.cell 2 1 rfl rfl
              have f2_2 : X5b.cell? ⟨w.heap.size + 2, 2, none⟩ = some (.int .i64 d.dst) := HBX5b.out.cell 2 2 rfl rfl
              have f2_3 : X5b.cell? ⟨w.heap.size + 2, 3, none⟩ = some (.string d.ty) := HBX5b.out.cell 2 3 rfl rfl
              have f2_4 : X5b.cell? ⟨w.heap.size + 2, 4, none⟩ = some (.slice dka d.keys.length dkc) := HBX5b.out.cell 2 4 rfl rfl
              have f2_5 : X5b.cell? ⟨w.heap.size + 2, 5, none⟩ = some (.slice dva d.vals.length dvc) := HBX5b.out.cell 2 5 rfl rfl
              rw [← hX5b] at f0_0 f0_1 f1_0 f1_1 f1_2 f1_3 f2_0 f2_1 f2_2 f2_3 f2_4 f2_5
              clear hX5b hba5b hbk5b hb5b hr5b hG5b
              go_wp2_with fail
              rw [HX5b.out]
              refine HS9.out.mono ?_
              rintro e z5 ⟨rfl, hbz⟩
              have HBZ5 := Lib.hid (HBX5b.out.below hbz)
              clear f0_0 f0_1 f1_0 f1_1 f1_2 f1_3 f2_0 f2_1 f2_2 f2_3 f2_4 f2_5 x5b_0 x5b_1 hbz
              go_wp2_with fail
              refine (gworks_any z5).mono ?_
              rintro e wl ⟨rfl, hbl⟩
              have HBL := Lib.hid (HBZ5.out.below hbl)
              clear hbl
              go_wp2_with fail
              exact HQ.out _ HBL.out.bel
end Go.Proofs.Ytoakloicjlfaaaa

/- Layer 14: rows of structs that are changed in place. Conditions: none. -/
namespace Go.Proofs.Ytoakloicjlfaaaa
open Go.RowKit
set_option linter.unusedSimpArgs false
set_option linter.unusedVariables false

/-- These cells are that element, whose own memory lies in blocks of P. -/
def Keeps {α : Type} (R : World → List Value → α → List Nat → Prop) (P : Nat → Prop) (w : World) (cs : List Value) (x : α) : Prop := ∃ bs, R w cs x bs ∧ ∀ b ∈ bs, P b
section
variable {α : Type} {R : World → List Value → α → List Nat → Prop} {P : Nat → Prop} {size : Nat} {w w' : World}
theorem Keeps.same (hR : OwnElem R size) {cs : List Value} {x : α} (h : Keeps R P w cs x) (hs : ∀ b, P b → w'.heap[b]? = w.heap[b]?) : Keeps R P w' cs x := by
  obtain ⟨bs, h1, h2⟩ := h
  exact ⟨bs, hR.same h1 (fun b hb => hs b (h2 b hb)), h2⟩
/-- One by one in place of cells. -/
def setMany : List Value → Nat → List Value → List Value
  | cl, _, [] => cl
  | cl, k, v :: vs => setMany (cl.set k v) (k + 1) vs
theorem setMany_eq : ∀ (cs cl : List Value) (k : Nat), k + cs.length ≤ cl.length → setMany cl k cs = cl.take k ++ cs ++ cl.drop (k + cs.length)
  | [], cl, k, _ => by simp [setMany]
  | v :: vs, cl, k, h => by
    have hk : k < cl.length := by simp at h; omega
    show setMany (cl.set k v) (k + 1) vs = _
    rw [setMany_eq vs (cl.set k v) (k + 1) (by simp at h ⊢; omega), List.set_eq_take_append_cons_drop, if_pos hk]
    have h1 : (cl.take k).length = k := by rw [List.length_take]; omega
    have e1 : List.take (k + 1) (cl.take k ++ v :: cl.drop (k + 1)) = cl.take k ++ [v] := by
      rw [List.take_append, h1, List.take_of_length_le (by omega), show k + 1 - k = 1 from by omega]; rfl
    have e2 : List.drop (k + 1 + vs.length) (cl.take k ++ v :: cl.drop (k + 1)) = cl.drop (k + (v :: vs).length) := by
      rw [List.drop_append, h1, List.drop_eq_nil_of_le (by omega), List.nil_append, show k + 1 + vs.length - k = vs.length + 1 from by omega, List.drop_succ_cons, List.drop_drop]
      congr 1
      simp; omega
    rw [e1, e2]
    simp
theorem FlatR.setAt {R : List Value → α → Prop} {cl cs : List Value} {l : List α} {i : Nat} {x : α} (h : FlatR R size cl l) (hx : R cs x) (hl : cs.length = size) (h1 : ∀ u ∈ cs, u.oneCell' = true) (hi : i < l.length) : FlatR R size (setMany cl (i * size) cs) (l.set i x) := by
  have h4 : i * size + size ≤ cl.length := by rw [h.len, ← Nat.succ_mul]; exact Nat.mul_le_mul_right _ hi
  rw [setMany_eq _ _ _ (by omega), List.set_eq_take_append_cons_drop, if_pos hi, hl]
  have h2 := ((h.take i (by omega)).append (FlatR.single hx hl h1)).append (h.drop (i + 1))
  rw [Nat.add_mul, Nat.one_mul] at h2
  simpa using h2
theorem own_set {base : Nat} {ty : TypeId} {g n c k : Nat} {cl : List Value} (h : w.ownsRow base ty size (.slice (some ⟨g, 0, none⟩) n c) n cl) (v : Value) : (w.setCell ⟨g, k, none⟩ v).ownsRow base ty size (.slice (some ⟨g, 0, none⟩) n c) n (cl.set k v) := by
  obtain ⟨h1, h2⟩ := h
  refine ⟨by simpa using h1, ?_⟩
  rcases h2 with ⟨h2, _⟩ | ⟨g', cap, cur, e1, e2, e3, e4, e5, e6, e7⟩
  · cases h2
  · injection e1 with e1 _ ec
    injection e1 with e1
    injection e1 with e1
    subst e1 ec
    have hb : Block w g cur.toList ty := by unfold Block; simpa using e3
    have hs := hb.set k v
    refine .inr ⟨g, c, cur.setIfInBounds k v, rfl, e2, ?_, e4, e5, by simpa using e6, ?_⟩
    · unfold Block at hs
      rw [hs]
      congr 2
      apply Array.ext'
      simp
    · rw [Array.toList_setIfInBounds, List.take_set, e7]
theorem own_cell {base : Nat} {ty : TypeId} {g n c k : Nat} {cl : List Value} {v : Value} (h : w.ownsRow base ty size (.slice (some ⟨g, 0, none⟩) n c) n cl) (hk : cl[k]? = some v) : w.cell? ⟨g, k, none⟩ = some v := by
  obtain ⟨a, c', e, _, hc⟩ := own_cells h
  injection e with e1
  subst e1
  rcases hc with hc | ⟨b, off, e1, _, hc⟩
  · rw [hc] at hk; cases hk
  · injection e1 with e1
    injection e1 with e1 e2
    subst e1 e2
    have := hc k v hk
    rwa [Nat.zero_add] at this
theorem own_free {base : Nat} {ty : TypeId} {g n c k : Nat} {cl : List Value} (h : w.ownsRow base ty size (.slice (some ⟨g, 0, none⟩) n c) n cl) : w.frozen? ⟨g, k, none⟩ = false := by
  obtain ⟨_, h2⟩ := h
  rcases h2 with ⟨h2, _⟩ | ⟨g', cap, cur, e1, _, e3, _⟩
  · cases h2
  · injection e1 with e1
    injection e1 with e1
    injection e1 with e1
    subst e1
    simp [World.frozen?, e3]
theorem own_some {base : Nat} {ty : TypeId} {a : Option Addr} {n c : Nat} {cl : List Value} (h : w.ownsRow base ty size (.slice a n c) n cl) (hn : 0 < n) : ∃ g, a = some ⟨g, 0, none⟩ ∧ base ≤ g ∧ g < w.heap.size := by
  obtain ⟨_, h2⟩ := h
  rcases h2 with ⟨_, h2⟩ | ⟨g', cap, cur, e1, e2, e3, _⟩
  · omega
  · injection e1 with e1
    exact ⟨g', e1, e2, (Array.getElem?_eq_some_iff.1 e3).1⟩
theorem IsRows.flat {cl : List Value} {bs : List Nat} {l : List α} (hR : OwnElem R size) (h : IsRows (R w) size cl 0 l bs) (hl : cl.length = l.length * size) (h1 : ∀ cs x b, R w cs x b → ∀ u ∈ cs, u.oneCell' = true) (hs : 0 < size) : FlatR (Keeps R (· ∈ bs) w) size cl l := by
  have hget : ∀ (i : Nat) (o : α), l[i]? = some o → ∃ cs, cs.length = size ∧ (cl.drop (i * size)).take size = cs ∧ ∃ b, R w cs o b ∧ ∀ q ∈ b, q ∈ bs := fun i o ho => by
    obtain ⟨cs, c1, c2, c3, g1, g2, g3⟩ := isRows_all l 0 bs h i o ho
    rw [Nat.zero_add] at g2
    have hi : i < l.length := (List.getElem?_eq_some_iff.1 ho).1
    have h4 : i * size + size ≤ cl.length := by rw [hl, ← Nat.succ_mul]; exact Nat.mul_le_mul_right _ hi
    refine ⟨cs, hR.len g3, List.ext_getElem? fun j => ?_, c2, g3, fun q hq => by rw [g1]; simp [hq]⟩
    by_cases hj : j < size
    · rw [List.getElem?_take_of_lt hj, List.getElem?_drop]
      have := hR.len g3
      rw [g2 j cs[j] (List.getElem?_eq_getElem (by omega)), List.getElem?_eq_getElem (by omega)]
    · rw [List.getElem?_eq_none (by rw [List.length_take]; omega), List.getElem?_eq_none (by have := hR.len g3; omega)]
  refine ⟨hl, fun u hu => ?_, fun i o ho => ?_⟩
  · obtain ⟨k, hk⟩ := List.getElem?_of_mem hu
    have hkl : k < l.length * size := by have := (List.getElem?_eq_some_iff.1 hk).1; omega
    have hq : k / size < l.length := Nat.div_lt_of_lt_mul (by rwa [Nat.mul_comm])
    obtain ⟨cs, e1, e2, b, e3, _⟩ := hget (k / size) _ (List.getElem?_eq_getElem hq)
    have hm := Nat.mod_lt k hs
    have e : k / size * size + k % size = k := by rw [Nat.mul_comm]; exact Nat.div_add_mod k size
    have h5 : cs[k % size]? = some u := by rw [← e2, List.getElem?_take_of_lt hm, List.getElem?_drop, e]; exact hk
    exact h1 _ _ _ e3 u (List.mem_of_getElem? h5)
  · obtain ⟨cs, _, e2, b, e3, e4⟩ := hget i o ho
    rw [e2]; exact ⟨b, e3, e4⟩
theorem IsNO.one : ∀ (cs : List Value) (n : Nt) (b : List Nat), IsNO w cs n b → ∀ u ∈ cs, u.oneCell' = true := by
  intro cs n b ⟨la, lc, ka, kc, va, vc, b1, b2, b3, h, _⟩ u hu
  subst h
  simp at hu
  rcases hu with rfl | rfl | rfl | rfl <;> rfl
theorem IsEO.one : ∀ (cs : List Value) (n : Et) (b : List Nat), IsEO w cs n b → ∀ u ∈ cs, u.oneCell' = true := by
  intro cs n b ⟨ka, kc, va, vc, b2, b3, h, _⟩ u hu
  subst h
  simp at hu
  rcases hu with rfl | rfl | rfl | rfl | rfl | rfl <;> rfl
/-- The row of such a state, as it is read. -/
theorem FlatR.ownRow {R' : List Value → α → Prop} {base : Nat} {ty : TypeId} {a : Option Addr} {n c : Nat} {cl : List Value} {l : List α} (hf : FlatR (Keeps R P w) size cl l) (hown : w.ownsRow base ty size (.slice a n c) n cl) (hs : 0 < size) (hR : ∀ cs x, Keeps R P w cs x → R' cs x) : SlOk a n c ∧ RowR R' size w.heap.size w a l := by
  obtain ⟨a', c', e, h1, h2⟩ := own_cells hown
  injection e with e1 _ e3
  subst e1 e3
  exact ⟨h1, (hf.mono hR).row hs h2⟩
end
theorem swap_list {α : Type} {l : List α} {n y : α} {m : Nat} (hy : l[m]? = some y) : ((l.take (m + 1) ++ n :: l.drop (m + 1)).set (m + 1) y).set m n = l.take m ++ n :: l.drop m := by
  have hm : m < l.length := (List.getElem?_eq_some_iff.1 hy).1
  have e1 : l.take (m + 1) = l.take m ++ [y] := take_succ_some hy
  have e2 : l.drop m = y :: l.drop (m + 1) := drop_some hy
  have hl : (l.take m).length = m := by rw [List.length_take]; omega
  rw [e1, e2, List.append_assoc, List.singleton_append]
  rw [List.set_append, hl, if_neg (by omega), show m + 1 - m = 1 from by omega]
  show (l.take m ++ y :: y :: l.drop (m + 1)).set m n = _
  rw [List.set_append, hl, if_neg (by omega), Nat.sub_self]
  rfl
end Go.Proofs.Ytoakloicjlfaaaa

/- Layer 14: a row that is changed in place, step by step. Conditions: none. -/
namespace Go.Proofs.Ytoakloicjlfaaaa
open Go.RowKit
set_option linter.unusedSimpArgs false
set_option linter.unusedVariables false

/-- Cells stored one behind the other. -/
abbrev setW (w : World) (g k : Nat) (cs : List Value) : World := w.setCells g k cs
theorem setW_other : ∀ (cs : List Value) (w : World) (g k q : Nat), q ≠ g → (setW w g k cs).heap[q]? = w.heap[q]?
  | [], _, _, _, _, _ => rfl
  | v :: vs, w, g, k, q, h => (setW_other vs _ g (k + 1) q h).trans (Below.heap_setCell _ _ _ _ h)
theorem setW_size : ∀ (cs : List Value) (w : World) (g k : Nat), (setW w g k cs).heap.size = w.heap.size
  | [], _, _, _ => rfl
  | v :: vs, w, g, k => (setW_size vs _ g (k + 1)).trans (by simp [World.setCell])
theorem setW_own {ty : TypeId} {size base g n c : Nat} : ∀ (cs : List Value) (w : World) (k : Nat) (cl : List Value), w.ownsRow base ty size (.slice (some ⟨g, 0, none⟩) n c) n cl → (setW w g k cs).ownsRow base ty size (.slice (some ⟨g, 0, none⟩) n c) n (setMany cl k cs)
  | [], _, _, _, h => h
  | v :: vs, w, k, cl, h => setW_own vs _ (k + 1) _ (own_set h v)
theorem Bx.far {w W : World} {L : List (List Value × TypeId)} (h : Bx w L W) {g : Nat} (hg : w.heap.size + L.length ≤ g) (k : Nat) (v : Value) : Bx w L (W.setCell ⟨g, k, none⟩ v) :=
  ⟨h.bel.setCell (by show w.heap.size ≤ g; omega) v, by simp [World.setCell]; exact h.len, fun i c t hi => (h.blk i c t hi).set_other (by have := (List.getElem?_eq_some_iff.1 hi).1; simp; omega) v⟩
theorem Bx.drew {w W : World} {L : List (List Value × TypeId)} (h : Bx w L W) : Bx w L W.drew := ⟨h.bel.drew, h.len, fun i c t hi => (h.blk i c t hi).drew⟩
theorem setW_bx {w : World} {L : List (List Value × TypeId)} {g : Nat} (hg : w.heap.size + L.length ≤ g) : ∀ (cs : List Value) (W : World) (k : Nat), Bx w L W → Bx w L (setW W g k cs)
  | [], _, _, h => h
  | v :: vs, W, k, h => setW_bx hg vs _ (k + 1) (h.far hg k v)
theorem own_there {ty : TypeId} {size base g n c k m : Nat} {cl : List Value} {w : World} (h : w.ownsRow base ty size (.slice (some ⟨g, 0, none⟩) n c) n cl) (hk : k + m ≤ cl.length) : w.there g k m := fun j hj => ⟨by rw [own_cell h (List.getElem?_eq_getElem (show k + j < cl.length by omega))]; rfl, own_free h⟩
theorem own_thereAt {ty : TypeId} {size base g n c p : Nat} {cl : List Value} {w : World} (h : w.ownsRow base ty size (.slice (some ⟨g, 0, none⟩) n c) n cl) (hp : p < n) : w.there g (p * size) size :=
  own_there h (by rw [h.1, ← Nat.succ_mul]; exact Nat.mul_le_mul_right _ hp)
theorem Block.there {w : World} {b : Nat} {cs : List Value} {t : TypeId} (h : Block w b cs t) : w.there b 0 cs.length := fun j hj => ⟨by rw [h.cell (show cs[0 + j]? = some (cs[0 + j]'(by omega)) from List.getElem?_eq_getElem _)]; rfl, h.free _⟩
theorem step_store_mid {P : Program} {ops : Array Oper} {o : Oper} {a : Act} {w : World} {K : Act → World → Prop} {Q : Exit → Act → World → Prop} {E : Prop} (hgd : o.guard = none) (ty : TypeId) (x y : Operand) (ho : o.op = .store ty x y)
    (b k : Nat) (cells : Array Value) (hx : a.eval x = .pointer (some ⟨b, k, none⟩)) (hy : a.eval y = .agg cells) (ht : w.there b k cells.size) (hi : (P.info? ty).map (·.size) = some cells.size) (h1 : cells.all (·.oneCell') = true)
    (h : K (a.put o.dst undef) (w.setCells b k cells.toList)) : if Region.wanted o (yielded ops a.tmps) = true then Oper.wp P o a w K Q else E := by
  rw [if_pos (by simp [Region.wanted, hgd])]
  exact wp_store_mid ty x y ho b k cells hx hy ht hi h1 h
/-- The row in block g is changed, and nothing else is (since wz). -/
structure InsSt {α : Type} (R : World → List Value → α → List Nat → Prop) (P : Nat → Prop) (ty : TypeId) (size B1 : Nat) (w : World) (L : List (List Value × TypeId)) (g c m : Nat) (wz : World) (l : List α) (cl : List Value) (wr : World) : Prop where
  bx : Bx w L wr
  ln : l.length = m
  own : wr.ownsRow B1 ty size (.slice (some ⟨g, 0, none⟩) m c) m cl
  flat : FlatR (Keeps R P wr) size cl l
  kp : ∀ q, q ≠ g → wr.heap[q]? = wz.heap[q]?
  sz : wr.heap.size = wz.heap.size
section
variable {α : Type} {R : World → List Value → α → List Nat → Prop} {P : Nat → Prop} {ty : TypeId} {size B1 g c m : Nat} {w wz wr : World} {L : List (List Value × TypeId)} {l : List α} {cl cs : List Value} {x : α}
theorem InsSt.drew (hR : OwnElem R size) (h : InsSt R P ty size B1 w L g c m wz l cl wr) : InsSt R P ty size B1 w L g c m wz l cl wr.drew :=
  ⟨h.bx.drew, h.ln, own_of_heap h.own fun _ _ => rfl, h.flat.mono fun _ _ hk => hk.same hR fun _ _ => rfl, h.kp, h.sz⟩
theorem InsSt.put (hR : OwnElem R size) (h : InsSt R P ty size B1 w L g c m wz l cl wr) (hg : w.heap.size + L.length ≤ g) (hP : ∀ q, P q → q ≠ g) {i : Nat} (hi : i < l.length) (hx : Keeps R P wr cs x) (h1 : ∀ u ∈ cs, u.oneCell' = true) :
    InsSt R P ty size B1 w L g c m wz (l.set i x) (setMany cl (i * size) cs) (setW wr g (i * size) cs) := by
  have hk : ∀ cs' y, Keeps R P wr cs' y → Keeps R P (setW wr g (i * size) cs) cs' y := fun _ _ h => h.same hR fun q hq => setW_other _ _ _ _ _ (hP q hq)
  refine ⟨setW_bx hg _ _ _ h.bx, by rw [List.length_set]; exact h.ln, setW_own _ _ _ _ h.own, (h.flat.mono hk).setAt (hk _ _ hx) (by obtain ⟨_, h2, _⟩ := hx; exact hR.len h2) h1 hi, fun q hq => (setW_other _ _ _ _ _ hq).trans (h.kp q hq), (setW_size _ _ _ _).trans h.sz⟩
theorem RowG.keep {lv : Value} {j : Nat} {bs : List Nat} {w' : World} (hR : OwnElem R size) (h : RowG R ty size B1 wr lv j cl l bs) (hs : ∀ q, q ∈ bs ∨ lv.ownBlock = some q → w'.heap[q]? = wr.heap[q]?) (hz : wr.heap.size ≤ w'.heap.size) : RowG R ty size B1 w' lv j cl l bs :=
  ⟨own_of_heap h.own fun k e => hs k (.inr e), h.os.same hR l 0 bs fun b hb' => hs b (.inl hb'), h.nd, fun b hb' => ⟨(h.lt b hb').1, Nat.lt_of_lt_of_le (h.lt b hb').2 hz⟩, h.ne, h.len⟩
theorem RowG.flat {lv : Value} {j : Nat} {bs : List Nat} (hR : OwnElem R size) (h1 : ∀ w cs x b, R w cs x b → ∀ u ∈ cs, u.oneCell' = true) (hs : 0 < size) (h : RowG R ty size B1 wr lv j cl l bs) : FlatR (Keeps R (· ∈ bs) wr) size cl l :=
  h.os.flat hR (by rw [h.own.1, h.len]) (h1 wr) hs
theorem FlatR.grow {cl cs : List Value} {Y : Obj} {w5 w7 : World} {row : Option Nat} (hR : OwnElem R size) (hf : FlatR (Keeps R P w5) size cl l) (hx : Keeps R P w5 cs x) (h1 : ∀ u ∈ cs, u.oneCell' = true) (hgrow : (w5.alloc Y).grownBy w7 row) (hP : ∀ q, P q → q < w5.heap.size ∧ row ≠ some q) :
    FlatR (Keeps R P w7) size (cl ++ cs) (l ++ [x]) := by
  have hk : ∀ cs' y, Keeps R P w5 cs' y → Keeps R P w7 cs' y := fun _ _ h => h.same hR fun q hq => by
    rw [hgrow.block q (by simp; have := (hP q hq).1; omega) (fun e => (hP q hq).2 e.symm)]
    exact Below.heap_alloc _ _ _ (hP q hq).1
  exact (hf.mono hk).append (FlatR.single (hk _ _ hx) (by obtain ⟨_, h2, _⟩ := hx; exact hR.len h2) h1)
theorem Keeps.imp {P' : Nat → Prop} {cs : List Value} (h : Keeps R P w cs x) (hP : ∀ q, P q → P' q) : Keeps R P' w cs x := by
  obtain ⟨bs, h1, h2⟩ := h
  exact ⟨bs, h1, fun b hb => hP b (h2 b hb)⟩
end
theorem RowG.readN {B1 : Nat} {wr : World} {a : Option Addr} {n c : Nat} {cl : List Value} {l : List Nt} {bs : List Nat} {ty : TypeId} (h : RowG IsNO ty 4 B1 wr (.slice a n c) n cl l bs) : SlOk a n c ∧ RowR (IsN wr.heap.size wr) 4 wr.heap.size wr a l :=
  (h.flat ownIsNO (fun _ => IsNO.one) (by decide)).ownRow h.own (by decide) (fun cs x ⟨b, h1, h2⟩ => h1.isN (fun q hq => (h.lt q (h2 q hq)).2))
theorem RowG.readE {B1 : Nat} {wr : World} {a : Option Addr} {n c : Nat} {cl : List Value} {l : List Et} {bs : List Nat} {ty : TypeId} (h : RowG IsEO ty 6 B1 wr (.slice a n c) n cl l bs) : SlOk a n c ∧ RowR (IsE wr.heap.size wr) 6 wr.heap.size wr a l :=
  (h.flat ownIsEO (fun _ => IsEO.one) (by decide)).ownRow h.own (by decide) (fun cs x ⟨b, h1, h2⟩ => h1.isE (fun q hq => (h.lt q (h2 q hq)).2))
/-- The graph lies in blocks from M on: it is read alike wherever these stand as in W. -/
def Lies (M : Nat) (W : World) (cs : List Value) (g : Gt) : Prop := ∀ u : World, W.heap.size ≤ u.heap.size → (∀ q, M ≤ q → q < W.heap.size → u.heap[q]? = W.heap[q]?) → IsG u.heap.size u cs g
theorem Lies.mono {M M' : Nat} {W : World} {cs : List Value} {g : Gt} (h : Lies M W cs g) (hM : M' ≤ M) : Lies M' W cs g := fun u h1 h2 => h u h1 (fun q h3 h4 => h2 q (Nat.le_trans hM h3) h4)
/-- What comes is a code and a graph that can be read, in new memory. -/
def ResK (r : Int × Gt) (w : World) (e : Ending) (w' : World) : Prop :=
  ∃ cs, e = .returned (.tuple #[.agg cs.toArray, .int .i64 r.1]) ∧ Below w.heap.size w w' ∧ Lies w.heap.size w' cs r.2
theorem IsGO.lies {w : World} {cs : List Value} {g : Gt} {bs : List Nat} {M : Nat} (h : IsGO w cs g bs) (hs : ∀ b ∈ bs, M ≤ b ∧ b < w.heap.size) : Lies M w cs g :=
  fun u h1 h2 => (h.same fun b hb => h2 b (hs b hb).1 (hs b hb).2).isG (fun b hb => Nat.lt_of_lt_of_le (hs b hb).2 h1)
theorem ResP.resK {r : Int × Gt} {w w' : World} {e : Ending} (h : ResP r w e w') : ResK r w e w' := by
  obtain ⟨cs, bs, h1, h2, h3, h4, h5⟩ := h
  exact ⟨cs, h1, h2, h3.lies h5⟩
/-- The end: the graph is told out of a box of its own. -/
theorem ins_node {P : Nat → Prop} {B1 g c m M : Nat} {w wz wr W : World} {L : List (List Value × TypeId)} {l : List Nt} {cl c2 : List Value} {b2 : List Nat} {e : Option Addr} {ec b : Nat} {es : List Et}
    (h : InsSt IsNO P 38 4 B1 w L g c m wz l cl wr) (ho : RowG IsEO 40 6 M wz (.slice e es.length ec) es.length c2 es b2) (hK : ∀ q, q ∈ b2 ∨ (Value.slice e es.length ec).ownBlock = some q → q ≠ g ∧ b + 1 ≤ q) (hP : ∀ q, P q → b + 1 ≤ q ∧ q < wr.heap.size) (hgb : b + 1 ≤ g)
    (hW : ∀ q, q ≠ b → W.heap[q]? = wr.heap[q]?) (hz : W.heap.size = wr.heap.size) : Lies (b + 1) W [.slice (some ⟨g, 0, none⟩) m c, .slice e es.length ec] ⟨l, es⟩ := by
  intro u hzu hu
  have hW' : ∀ q, b + 1 ≤ q → q < wr.heap.size → u.heap[q]? = wr.heap[q]? := fun q h1 h2 => by rw [hu q h1 (by rw [hz]; exact h2), hW q (by omega)]
  have hk : ∀ cs y, Keeps IsNO P wr cs y → Keeps IsNO P u cs y := fun _ _ h => h.same ownIsNO fun q hq => hW' q (hP q hq).1 (hP q hq).2
  have h1 := (h.flat.mono hk).ownRow (R' := IsN u.heap.size u) (own_of_heap h.own fun k e => hW' k (by injection e with e; subst e; exact hgb) (h.own.lt k e).2) (by decide) (fun cs x ⟨b, h1, h2⟩ => h1.isN (fun q hq => by have := (hP q (h2 q hq)).2; omega))
  have h2 := (ho.keep ownIsEO (w' := u) (fun q hq => by rw [hW' q (hK q hq).2 (by rw [h.sz]; rcases hq with hq | hq; exact (ho.lt q hq).2; exact (ho.own.lt q hq).2), h.kp q (hK q hq).1]) (by have := h.sz; omega)).readE
  have hln := h.ln
  subst hln
  exact ⟨_, _, _, _, rfl, h1.1, h2.1, h1.2, h2.2⟩
theorem ins_edge {P : Nat → Prop} {B1 g c m M : Nat} {w wz wr W : World} {L : List (List Value × TypeId)} {l : List Et} {cl c2 : List Value} {b2 : List Nat} {e : Option Addr} {ec b : Nat} {es : List Nt}
    (h : InsSt IsEO P 40 6 B1 w L g c m wz l cl wr) (ho : RowG IsNO 38 4 M wz (.slice e es.length ec) es.length c2 es b2) (hK : ∀ q, q ∈ b2 ∨ (Value.slice e es.length ec).ownBlock = some q → q ≠ g ∧ b + 1 ≤ q) (hP : ∀ q, P q → b + 1 ≤ q ∧ q < wr.heap.size) (hgb : b + 1 ≤ g)
    (hW : ∀ q, q ≠ b → W.heap[q]? = wr.heap[q]?) (hz : W.heap.size = wr.heap.size) : Lies (b + 1) W [.slice e es.length ec, .slice (some ⟨g, 0, none⟩) m c] ⟨es, l⟩ := by
  intro u hzu hu
  have hW' : ∀ q, b + 1 ≤ q → q < wr.heap.size → u.heap[q]? = wr.heap[q]? := fun q h1 h2 => by rw [hu q h1 (by rw [hz]; exact h2), hW q (by omega)]
  have hk : ∀ cs y, Keeps IsEO P wr cs y → Keeps IsEO P u cs y := fun _ _ h => h.same ownIsEO fun q hq => hW' q (hP q hq).1 (hP q hq).2
  have h1 := (h.flat.mono hk).ownRow (R' := IsE u.heap.size u) (own_of_heap h.own fun k e => hW' k (by injection e with e; subst e; exact hgb) (h.own.lt k e).2) (by decide) (fun cs x ⟨b, h1, h2⟩ => h1.isE (fun q hq => by have := (hP q (h2 q hq)).2; omega))
  have h2 := (ho.keep ownIsNO (w' := u) (fun q hq => by rw [hW' q (hK q hq).2 (by rw [h.sz]; rcases hq with hq | hq; exact (ho.lt q hq).2; exact (ho.own.lt q hq).2), h.kp q (hK q hq).1]) (by have := h.sz; omega)).readN
  have hln := h.ln
  subst hln
  exact ⟨_, _, _, _, rfl, h2.1, h1.1, h2.2, h1.2⟩
/-- Where a number is to stand: behind all that are less. -/
theorem posI_of {l : List Int} {id : Int} {j : Nat} (hr : RiseI l) (hno : hasI l id = false) (hj : j ≤ l.length) (h1 : ∀ (i : Nat) x, j ≤ i → l[i]? = some x → id < x) (h2 : ∀ x, j ≠ 0 → l[j - 1]? = some x → ¬ id < x) : posI l id = j := by
  refine posI_eq hj (fun i x hi hx => ?_) (fun x hx => by have := h1 j x (Nat.le_refl _) hx; omega)
  obtain ⟨y, hy⟩ := get_some (l := l) (j := j - 1) (by omega)
  have h3 := h2 y (by omega) hy
  have hne : x ≠ id := by
    intro e
    subst e
    have hp : posI l x = i := posI_eq (by omega) (fun k z hk hz => hr k i z x hk hz hx) (fun z hz => by rw [hx] at hz; injection hz with hz; omega)
    unfold hasI at hno
    rw [hp] at hno
    have := of_decide_eq_false hno
    exact this hx
  rcases Nat.lt_or_ge i (j - 1) with h | h
  · have := hr i (j - 1) x y h hx hy; omega
  · rw [show i = j - 1 from by omega, hy] at hx
    injection hx with hx
    omega
end Go.Proofs.Ytoakloicjlfaaaa

/- Layer 14: the program's Node and Edge. Conditions: the graph's numbers rise, the graph is small. -/
namespace Go.Proofs.Ytoakloicjlfaaaa
open Go.RowKit
set_option linter.unusedSimpArgs false
set_option linter.unusedVariables false
set_option maxRecDepth 100000

def zeroN : Nt := ⟨0, [], [], []⟩
def zeroE : Et := ⟨0, 0, 0, ⟨#[]⟩, [], []⟩
def nodeOf (g : Gt) (id : Int) : Nt := if hasI (idsN g) id = true then (g.nodes[posI (idsN g) id]?).getD zeroN else zeroN
def edgeOf (g : Gt) (id : Int) : Et := if hasI (idsE g) id = true then (g.edges[posI (idsE g) id]?).getD zeroE else zeroE
/-- What comes is x in new memory, and whether it was there. -/
def FoundP {α : Type} (R : World → List Value → α → List Nat → Prop) (x : α) (is : Bool) (w : World) (e : Ending) (w' : World) : Prop :=
  ∃ cs bs, e = .returned (.tuple #[.agg cs.toArray, .bool is]) ∧ Below w.heap.size w w' ∧ R w' cs x bs ∧ bs.Nodup ∧ ∀ b ∈ bs, w.heap.size ≤ b ∧ b < w'.heap.size
theorem zeroN_own (w : World) : IsNO w [.int .i64 0, .slice none 0 0, .slice none 0 0, .slice none 0 0] zeroN [] :=
  ⟨none, 0, none, 0, none, 0, [], [], [], rfl, by show in64 0; unfold in64; omega, ⟨⟨⟨Nat.le_refl _, by omega⟩, fun _ => rfl⟩, ⟨⟨Nat.le_refl _, by omega⟩, fun _ => rfl⟩, ⟨⟨Nat.le_refl _, by omega⟩, fun _ => rfl⟩⟩, rfl, .inl ⟨rfl, rfl⟩, .inl ⟨rfl, rfl⟩, .inl ⟨rfl, rfl⟩⟩
theorem zeroE_own (w : World) : IsEO w [.int .i64 0, .int .i64 0, .int .i64 0, .string ⟨#[]⟩, .slice none 0 0, .slice none 0 0] zeroE [] :=
  ⟨none, 0, none, 0, [], [], rfl, ⟨by show in64 0; unfold in64; omega, by show in64 0; unfold in64; omega, by show in64 0; unfold in64; omega⟩, ⟨⟨⟨Nat.le_refl _, by omega⟩, fun _ => rfl⟩, ⟨⟨Nat.le_refl _, by omega⟩, fun _ => rfl⟩⟩, rfl, .inl ⟨rfl, rfl⟩, .inl ⟨rfl, rfl⟩⟩

set_option maxHeartbeats 8000000 in
theorem node_any (g : Gt) (id : Int) (cs : List Value) (B : Nat) (w : World) (hg : IsG B w cs g) (hB : B ≤ w.heap.size) (hr : RiseI (idsN g)) (hsm : SmG g) :
    Calls Try.prog 23 #[.agg cs.toArray, .int .i64 id] w (FoundP IsNO (nodeOf g id) (hasI (idsN g) id) w) := by
  obtain ⟨na, nc, ea, ec, rfl, hnz, hez, hN, hE⟩ := hg
  show Calls Try.prog 23 #[.agg #[.slice na g.nodes.length nc, .slice ea g.edges.length ec], .int .i64 id] w _
  obtain ⟨⟨hnl, hel⟩, hs1, hs2⟩ := hsm
  obtain ⟨W0, hW0⟩ : ∃ W0, (w.alloc (.cells #[.slice na g.nodes.length nc, .slice ea g.edges.length ec] 25)).alloc (.cells #[.int .i64 0, .slice none 0 0, .slice none 0 0, .slice none 0 0] 38) = W0 := ⟨_, rfl⟩
  have HBX : Hid (Bx w [([.slice na g.nodes.length nc, .slice ea g.edges.length ec], 25), ([.int .i64 0, .slice none 0 0, .slice none 0 0, .slice none 0 0], 38)] W0) := Lib.hid (by rw [← hW0]; exact ((((Bx.nil w).alloc rfl [.slice na g.nodes.length nc, .slice ea g.edges.length ec] 25)).alloc (by simp) [.int .i64 0, .slice none 0 0, .slice none 0 0, .slice none 0 0] 38))
  have HW0 := Lib.hid hW0
  have HFI := Lib.hid (fun (w' : World) (hb : Below w.heap.size w w') => findNode_any g.nodes id na nc B w' (hN.below hb hB (fun _ _ h => h.below hb hB)) (Nat.le_trans hB hb.size) (by omega) hr)
  have HNS := Lib.hid hN
  have HSM := Lib.hid hs1
  have HPT := Lib.hid (fun h => posI_lt (l := idsN g) (id := id) h)
  have hil : (idsN g).length = g.nodes.length := by unfold idsN; simp
  rw [hil] at HPT
  have i0_0 : W0.cell? ⟨w.heap.size, 0, none⟩ = some (.slice na g.nodes.length nc) := HBX.out.cell 0 0 rfl rfl
  have i0_1 : W0.cell? ⟨w.heap.size, 1, none⟩ = some (.slice ea g.edges.length ec) := HBX.out.cell 0 1 rfl rfl
  have i1_0 : W0.cell? ⟨w.heap.size + 1, 0, none⟩ = some (.int .i64 0) := HBX.out.cell 1 0 rfl rfl
  have i1_1 : W0.cell? ⟨w.heap.size + 1, 1, none⟩ = some (.slice none 0 0) := HBX.out.cell 1 1 rfl rfl
  have i1_2 : W0.cell? ⟨w.heap.size + 1, 2, none⟩ = some (.slice none 0 0) := HBX.out.cell 1 2 rfl rfl
  have i1_3 : W0.cell? ⟨w.heap.size + 1, 3, none⟩ = some (.slice none 0 0) := HBX.out.cell 1 3 rfl rfl
  rw [← hW0] at i0_0 i0_1 i1_0 i1_1 i1_2 i1_3
  clear hW0 hN hE hnz hez hr hs1 hs2 hil
  go_enter Try.func23, Try.ntmps23
  go_wp2_with fail
  rw [HW0.out]
  refine (HFI.out _ HBX.out.bel).mono ?_
  rintro e w1 ⟨rfl, hb1⟩
  have HBX1 := Lib.hid (HBX.out.below hb1)
  clear i0_0 i0_1 i1_0 i1_1 i1_2 i1_3 hb1
  obtain ⟨p, hp⟩ : ∃ p, posI (idsN g) id = p := ⟨_, rfl⟩
  obtain ⟨is, his⟩ : ∃ is, hasI (idsN g) id = is := ⟨_, rfl⟩
  have HPI := Lib.hid hp
  have HII := Lib.hid his
  rw [hp] at HPT
  rw [his] at HPT ⊢
  change posI (g.nodes.map (·.id)) id = p at hp
  change hasI (g.nodes.map (·.id)) id = is at his
  rw [hp, his]
  clear hp his
  cases is with
  | false =>
    have HO : Hid (nodeOf g id = zeroN) := Lib.hid (by unfold nodeOf; rw [if_neg (by rw [HII.out]; simp)])
    have HT2 : Hid (w1.there (w.heap.size + 1) 0 4) := Lib.hid (show Block w1 (w.heap.size + 1) [.int .i64 0, .slice none 0 0, .slice none 0 0, .slice none 0 0] 38 from HBX1.out.blk 1 _ _ rfl).there
    obtain ⟨we, hwe⟩ : ∃ we, w1.setCells (w.heap.size + 1) 0 (#[.int .i64 0, .slice none 0 0, .slice none 0 0, .slice none 0 0] : Array Value).toList = we := ⟨_, rfl⟩
    have hbe : Block we (w.heap.size + 1) [.int .i64 0, .slice none 0 0, .slice none 0 0, .slice none 0 0] 38 := by rw [← hwe]; exact (((((HBX1.out.blk 1 _ _ rfl).set 0 (.int .i64 0)).set 1 (.slice none 0 0)).set 2 (.slice none 0 0)).set 3 (.slice none 0 0))
    have q0 : we.cell? ⟨w.heap.size + 1, 0, none⟩ = some (.int .i64 0) := hbe.cell rfl
    have q1 : we.cell? ⟨w.heap.size + 1, 1, none⟩ = some (.slice none 0 0) := hbe.cell rfl
    have q2 : we.cell? ⟨w.heap.size + 1, 2, none⟩ = some (.slice none 0 0) := hbe.cell rfl
    have q3 : we.cell? ⟨w.heap.size + 1, 3, none⟩ = some (.slice none 0 0) := hbe.cell rfl
    have HBE : Hid (Below w.heap.size w we) := Lib.hid (by rw [← hwe]; exact ((((HBX1.out.put 1 0 rfl (.int .i64 0)).put 1 1 rfl (.slice none 0 0)).put 1 2 rfl (.slice none 0 0)).put 1 3 rfl (.slice none 0 0)).bel)
    have HKE : Hid (∀ q, q ≠ w.heap.size + 1 → we.heap[q]? = w1.heap[q]?) := Lib.hid (fun q hq => by rw [← hwe]; exact setW_other _ _ _ _ _ hq)
    have HZE : Hid (we.heap.size = w1.heap.size) := Lib.hid (by rw [← hwe]; exact setW_size _ _ _ _)
    have HWE := Lib.hid hwe
    clear hbe hwe
    go_wp2_with (refine wpList_store_mid rfl 38 _ _ rfl (w.heap.size + 1) 0 #[.int .i64 0, .slice none 0 0, .slice none 0 0, .slice none 0 0] rfl rfl HT2.out (by kernel_rfl) (by simp [Value.oneCell']) ?_; rw [HWE.out])
    refine bodyPost_ret (by simp [results, Try.results23, go_sem, q0, q1, q2, q3]; rfl) rfl ?_
    rw [HO.out, HII.out]
    exact ⟨_, [], rfl, HBE.out, zeroN_own _, List.nodup_nil, by simp⟩
  | true =>
    have hplt := HPT.out rfl
    have hplt' : (p : Int) < g.nodes.length := by omega
    have hp0 : (0 : Int) ≤ (p : Int) := by omega
    obtain ⟨x, hx⟩ := get_some hplt
    have HO : Hid (nodeOf g id = x) := Lib.hid (by unfold nodeOf; rw [if_pos HII.out, HPI.out, hx]; rfl)
    obtain ⟨b, off, cs, e1, hbB, _, hc, hcell0⟩ := HNS.out.at hx
    have hcell : ∀ q v, cs[q]? = some v → w1.cell? ⟨b, off + p * 4 + q, none⟩ = some v := fun q v hv => by rw [HBX1.out.bel.cell (by show b < _; omega)]; exact hcell0 q v hv
    have HCN := Lib.hid (copyNode_any x cs B w1 (hc.below HBX1.out.bel hB) (Nat.le_trans hB HBX1.out.bel.size) (HSM.out p x hx))
    obtain ⟨la, lc, ka, kc, va, vc, rfl⟩ := node_cells hc
    subst e1
    have k0 : w1.cell? ⟨b, off + p * 4, none⟩ = some (.int .i64 x.id) := hcell 0 _ rfl
    have k1 := hcell 1 _ rfl
    have k2 := hcell 2 _ rfl
    have k3 := hcell 3 _ rfl
    have f0_0 : w1.cell? ⟨w.heap.size, 0, none⟩ = some (.slice (some ⟨b, off, none⟩) g.nodes.length nc) := HBX1.out.cell 0 0 rfl rfl
    have f0_1 : w1.cell? ⟨w.heap.size, 1, none⟩ = some (.slice ea g.edges.length ec) := HBX1.out.cell 0 1 rfl rfl
    clear hx hc hcell hcell0 hbB
    go_wp2_with fail
    refine HCN.out.mono ?_
    rintro e w2 ⟨cs2, bs2, rfl, hb2, ho2, hn2, hr2⟩
    clear f0_0 f0_1 k0 k1 k2 k3
    have ho3 := ho2
    obtain ⟨la', lc', ka', kc', va', vc', q1, q2, q3, rfl, -⟩ := ho3
    have HBX2 := Lib.hid (HBX1.out.below hb2)
    have HE2 := Lib.hid (show _ ∧ _ ∧ _ ∧ _ from ⟨hb2, ho2, hn2, hr2⟩)
    clear hb2 ho2 hn2 hr2
    have HT2 : Hid (w2.there (w.heap.size + 1) 0 4) := Lib.hid (show Block w2 (w.heap.size + 1) [.int .i64 0, .slice none 0 0, .slice none 0 0, .slice none 0 0] 38 from HBX2.out.blk 1 _ _ rfl).there
    obtain ⟨we, hwe⟩ : ∃ we, w2.setCells (w.heap.size + 1) 0 (#[.int .i64 x.id, .slice la' x.labels.length lc', .slice ka' x.keys.length kc', .slice va' x.vals.length vc'] : Array Value).toList = we := ⟨_, rfl⟩
    have hbe : Block we (w.heap.size + 1) [.int .i64 x.id, .slice la' x.labels.length lc', .slice ka' x.keys.length kc', .slice va' x.vals.length vc'] 38 := by rw [← hwe]; exact (((((HBX2.out.blk 1 _ _ rfl).set 0 (.int .i64 x.id)).set 1 (.slice la' x.labels.length lc')).set 2 (.slice ka' x.keys.length kc')).set 3 (.slice va' x.vals.length vc'))
    have q0 : we.cell? ⟨w.heap.size + 1, 0, none⟩ = some (.int .i64 x.id) := hbe.cell rfl
    have q1 : we.cell? ⟨w.heap.size + 1, 1, none⟩ = some (.slice la' x.labels.length lc') := hbe.cell rfl
    have q2 : we.cell? ⟨w.heap.size + 1, 2, none⟩ = some (.slice ka' x.keys.length kc') := hbe.cell rfl
    have q3 : we.cell? ⟨w.heap.size + 1, 3, none⟩ = some (.slice va' x.vals.length vc') := hbe.cell rfl
    have HBE : Hid (Below w.heap.size w we) := Lib.hid (by rw [← hwe]; exact ((((HBX2.out.put 1 0 rfl (.int .i64 x.id)).put 1 1 rfl (.slice la' x.labels.length lc')).put 1 2 rfl (.slice ka' x.keys.length kc')).put 1 3 rfl (.slice va' x.vals.length vc')).bel)
    have HKE : Hid (∀ q, q ≠ w.heap.size + 1 → we.heap[q]? = w2.heap[q]?) := Lib.hid (fun q hq => by rw [← hwe]; exact setW_other _ _ _ _ _ hq)
    have HZE : Hid (we.heap.size = w2.heap.size) := Lib.hid (by rw [← hwe]; exact setW_size _ _ _ _)
    have HWE := Lib.hid hwe
    clear hbe hwe
    go_wp2_with (refine wpList_store_mid rfl 38 _ _ rfl (w.heap.size + 1) 0 #[.int .i64 x.id, .slice la' x.labels.length lc', .slice ka' x.keys.length kc', .slice va' x.vals.length vc'] rfl rfl HT2.out (by kernel_rfl) (by simp [Value.oneCell']) ?_; rw [HWE.out])
    refine bodyPost_ret (by simp [results, Try.results23, go_sem, q0, q1, q2, q3]; rfl) rfl ?_
    rw [HO.out, HII.out]
    obtain ⟨hb2, ho2, hn2, hr2⟩ := HE2.out
    have hl1 := HBX1.out.len
    simp only [List.length_cons, List.length_nil] at hl1
    exact ⟨_, bs2, rfl, HBE.out, ownIsNO.same ho2 (fun q hq => HKE.out q (by have := (hr2 q hq).1; omega)), hn2, fun q hq => ⟨by have := (hr2 q hq).1; omega, by rw [HZE.out]; exact (hr2 q hq).2⟩⟩

set_option maxHeartbeats 8000000 in
theorem edge_any (g : Gt) (id : Int) (cs : List Value) (B : Nat) (w : World) (hg : IsG B w cs g) (hB : B ≤ w.heap.size) (hr : RiseI (idsE g)) (hsm : SmG g) :
    Calls Try.prog 24 #[.agg cs.toArray, .int .i64 id] w (FoundP IsEO (edgeOf g id) (hasI (idsE g) id) w) := by
  obtain ⟨na, nc, ea, ec, rfl, hnz, hez, hN, hE⟩ := hg
  show Calls Try.prog 24 #[.agg #[.slice na g.nodes.length nc, .slice ea g.edges.length ec], .int .i64 id] w _
  obtain ⟨⟨hnl, hel⟩, hs1, hs2⟩ := hsm
  obtain ⟨W0, hW0⟩ : ∃ W0, (w.alloc (.cells #[.slice na g.nodes.length nc, .slice ea g.edges.length ec] 25)).alloc (.cells #[.int .i64 0, .int .i64 0, .int .i64 0, .string ⟨#[]⟩, .slice none 0 0, .slice none 0 0] 40) = W0 := ⟨_, rfl⟩
  have HBX : Hid (Bx w [([.slice na g.nodes.length nc, .slice ea g.edges.length ec], 25), ([.int .i64 0, .int .i64 0, .int .i64 0, .string ⟨#[]⟩, .slice none 0 0, .slice none 0 0], 40)] W0) := Lib.hid (by rw [← hW0]; exact ((((Bx.nil w).alloc rfl [.slice na g.nodes.length nc, .slice ea g.edges.length ec] 25)).alloc (by simp) [.int .i64 0, .int .i64 0, .int .i64 0, .string ⟨#[]⟩, .slice none 0 0, .slice none 0 0] 40))
  have HW0 := Lib.hid hW0
  have HFI := Lib.hid (fun (w' : World) (hb : Below w.heap.size w w') => findEdge_any g.edges id ea ec B w' (hE.below hb hB (fun _ _ h => h.below hb hB)) (Nat.le_trans hB hb.size) (by omega) hr)
  have HNS := Lib.hid hE
  have HSM := Lib.hid hs2
  have HPT := Lib.hid (fun h => posI_lt (l := idsE g) (id := id) h)
  have hil : (idsE g).length = g.edges.length := by unfold idsE; simp
  rw [hil] at HPT
  have i0_0 : W0.cell? ⟨w.heap.size, 0, none⟩ = some (.slice na g.nodes.length nc) := HBX.out.cell 0 0 rfl rfl
  have i0_1 : W0.cell? ⟨w.heap.size, 1, none⟩ = some (.slice ea g.edges.length ec) := HBX.out.cell 0 1 rfl rfl
  have i1_0 : W0.cell? ⟨w.heap.size + 1, 0, none⟩ = some (.int .i64 0) := HBX.out.cell 1 0 rfl rfl
  have i1_1 : W0.cell? ⟨w.heap.size + 1, 1, none⟩ = some (.int .i64 0) := HBX.out.cell 1 1 rfl rfl
  have i1_2 : W0.cell? ⟨w.heap.size + 1, 2, none⟩ = some (.int .i64 0) := HBX.out.cell 1 2 rfl rfl
  have i1_3 : W0.cell? ⟨w.heap.size + 1, 3, none⟩ = some (.string ⟨#[]⟩) := HBX.out.cell 1 3 rfl rfl
  have i1_4 : W0.cell? ⟨w.heap.size + 1, 4, none⟩ = some (.slice none 0 0) := HBX.out.cell 1 4 rfl rfl
  have i1_5 : W0.cell? ⟨w.heap.size + 1, 5, none⟩ = some (.slice none 0 0) := HBX.out.cell 1 5 rfl rfl
  rw [← hW0] at i0_0 i0_1 i1_0 i1_1 i1_2 i1_3 i1_4 i1_5
  clear hW0 hN hE hnz hez hr hs1 hs2 hil
  go_enter Try.func24, Try.ntmps24
  go_wp2_with fail
  rw [HW0.out]
  refine (HFI.out _ HBX.out.bel).mono ?_
  rintro e w1 ⟨rfl, hb1⟩
  have HBX1 := Lib.hid (HBX.out.below hb1)
  clear i0_0 i0_1 i1_0 i1_1 i1_2 i1_3 i1_4 i1_5 hb1
  obtain ⟨p, hp⟩ : ∃ p, posI (idsE g) id = p := ⟨_, rfl⟩
  obtain ⟨is, his⟩ : ∃ is, hasI (idsE g) id = is := ⟨_, rfl⟩
  have HPI := Lib.hid hp
  have HII := Lib.hid his
  rw [hp] at HPT
  rw [his] at HPT ⊢
  change posI (g.edges.map (·.id)) id = p at hp
  change hasI (g.edges.map (·.id)) id = is at his
  rw [hp, his]
  clear hp his
  cases is with
  | false =>
    have HO : Hid (edgeOf g id = zeroE) := Lib.hid (by unfold edgeOf; rw [if_neg (by rw [HII.out]; simp)])
    have HT2 : Hid (w1.there (w.heap.size + 1) 0 6) := Lib.hid (show Block w1 (w.heap.size + 1) [.int .i64 0, .int .i64 0, .int .i64 0, .string ⟨#[]⟩, .slice none 0 0, .slice none 0 0] 40 from HBX1.out.blk 1 _ _ rfl).there
    obtain ⟨we, hwe⟩ : ∃ we, w1.setCells (w.heap.size + 1) 0 (#[.int .i64 0, .int .i64 0, .int .i64 0, .string ⟨#[]⟩, .slice none 0 0, .slice none 0 0] : Array Value).toList = we := ⟨_, rfl⟩
    have hbe : Block we (w.heap.size + 1) [.int .i64 0, .int .i64 0, .int .i64 0, .string ⟨#[]⟩, .slice none 0 0, .slice none 0 0] 40 := by rw [← hwe]; exact (((((((HBX1.out.blk 1 _ _ rfl).set 0 (.int .i64 0)).set 1 (.int .i64 0)).set 2 (.int .i64 0)).set 3 (.string ⟨#[]⟩)).set 4 (.slice none 0 0)).set 5 (.slice none 0 0))
    have q0 : we.cell? ⟨w.heap.size + 1, 0, none⟩ = some (.int .i64 0) := hbe.cell rfl
    have q1 : we.cell? ⟨w.heap.size + 1, 1, none⟩ = some (.int .i64 0) := hbe.cell rfl
    have q2 : we.cell? ⟨w.heap.size + 1, 2, none⟩ = some (.int .i64 0) := hbe.cell rfl
    have q3 : we.cell? ⟨w.heap.size + 1, 3, none⟩ = some (.string ⟨#[]⟩) := hbe.cell rfl
    have q4 : we.cell? ⟨w.heap.size + 1, 4, none⟩ = some (.slice none 0 0) := hbe.cell rfl
    have q5 : we.cell? ⟨w.heap.size + 1, 5, none⟩ = some (.slice none 0 0) := hbe.cell rfl
    have HBE : Hid (Below w.heap.size w we) := Lib.hid (by rw [← hwe]; exact ((((((HBX1.out.put 1 0 rfl (.int .i64 0)).put 1 1 rfl (.int .i64 0)).put 1 2 rfl (.int .i64 0)).put 1 3 rfl (.string ⟨#[]⟩)).put 1 4 rfl (.slice none 0 0)).put 1 5 rfl (.slice none 0 0)).bel)
    have HKE : Hid (∀ q, q ≠ w.heap.size + 1 → we.heap[q]? = w1.heap[q]?) := Lib.hid (fun q hq => by rw [← hwe]; exact setW_other _ _ _ _ _ hq)
    have HZE : Hid (we.heap.size = w1.heap.size) := Lib.hid (by rw [← hwe]; exact setW_size _ _ _ _)
    have HWE := Lib.hid hwe
    clear hbe hwe
    go_wp2_with (refine wpList_store_mid rfl 40 _ _ rfl (w.heap.size + 1) 0 #[.int .i64 0, .int .i64 0, .int .i64 0, .string ⟨#[]⟩, .slice none 0 0, .slice none 0 0] rfl rfl HT2.out (by kernel_rfl) (by simp [Value.oneCell']) ?_; rw [HWE.out])
    refine bodyPost_ret (by simp [results, Try.results24, go_sem, q0, q1, q2, q3, q4, q5]; rfl) rfl ?_
    rw [HO.out, HII.out]
    exact ⟨_, [], rfl, HBE.out, zeroE_own _, List.nodup_nil, by simp⟩
  | true =>
    have hplt := HPT.out rfl
    have hplt' : (p : Int) < g.edges.length := by omega
    have hp0 : (0 : Int) ≤ (p : Int) := by omega
    obtain ⟨x, hx⟩ := get_some hplt
    have HO : Hid (edgeOf g id = x) := Lib.hid (by unfold edgeOf; rw [if_pos HII.out, HPI.out, hx]; rfl)
    obtain ⟨b, off, cs, e1, hbB, _, hc, hcell0⟩ := HNS.out.at hx
    have hcell : ∀ q v, cs[q]? = some v → w1.cell? ⟨b, off + p * 6 + q, none⟩ = some v := fun q v hv => by rw [HBX1.out.bel.cell (by show b < _; omega)]; exact hcell0 q v hv
    have HCN := Lib.hid (copyEdge_any x cs B w1 (hc.below HBX1.out.bel hB) (Nat.le_trans hB HBX1.out.bel.size) (HSM.out p x hx))
    obtain ⟨ka, kc, va, vc, rfl⟩ := edge_cells hc
    subst e1
    have k0 : w1.cell? ⟨b, off + p * 6, none⟩ = some (.int .i64 x.id) := hcell 0 _ rfl
    have k1 := hcell 1 _ rfl
    have k2 := hcell 2 _ rfl
    have k3 := hcell 3 _ rfl
    have k4 := hcell 4 _ rfl
    have k5 := hcell 5 _ rfl
    have f0_0 : w1.cell? ⟨w.heap.size, 0, none⟩ = some (.slice na g.nodes.length nc) := HBX1.out.cell 0 0 rfl rfl
    have f0_1 : w1.cell? ⟨w.heap.size, 1, none⟩ = some (.slice (some ⟨b, off, none⟩) g.edges.length ec) := HBX1.out.cell 0 1 rfl rfl
    clear hx hc hcell hcell0 hbB
    go_wp2_with fail
    refine HCN.out.mono ?_
    rintro e w2 ⟨cs2, bs2, rfl, hb2, ho2, hn2, hr2⟩
    clear f0_0 f0_1 k0 k1 k2 k3 k4 k5
    have ho3 := ho2
    obtain ⟨ka', kc', va', vc', q1, q2, rfl, -⟩ := ho3
    have HBX2 := Lib.hid (HBX1.out.below hb2)
    have HE2 := Lib.hid (show _ ∧ _ ∧ _ ∧ _ from ⟨hb2, ho2, hn2, hr2⟩)
    clear hb2 ho2 hn2 hr2
    have HT2 : Hid (w2.there (w.heap.size + 1) 0 6) := Lib.hid (show Block w2 (w.heap.size + 1) [.int .i64 0, .int .i64 0, .int .i64 0, .string ⟨#[]⟩, .slice none 0 0, .slice none 0 0] 40 from HBX2.out.blk 1 _ _ rfl).there
    obtain ⟨we, hwe⟩ : ∃ we, w2.setCells (w.heap.size + 1) 0 (#[.int .i64 x.id, .int .i64 x.src, .int .i64 x.dst, .string x.ty, .slice ka' x.keys.length kc', .slice va' x.vals.length vc'] : Array Value).toList = we := ⟨_, rfl⟩
    have hbe : Block we (w.heap.size + 1) [.int .i64 x.id, .int .i64 x.src, .int .i64 x.dst, .string x.ty, .slice ka' x.keys.length kc', .slice va' x.vals.length vc'] 40 := by rw [← hwe]; exact (((((((HBX2.out.blk 1 _ _ rfl).set 0 (.int .i64 x.id)).set 1 (.int .i64 x.src)).set 2 (.int .i64 x.dst)).set 3 (.string x.ty)).set 4 (.slice ka' x.keys.length kc')).set 5 (.slice va' x.vals.length vc'))
    have q0 : we.cell? ⟨w.heap.size + 1, 0, none⟩ = some (.int .i64 x.id) := hbe.cell rfl
    have q1 : we.cell? ⟨w.heap.size + 1, 1, none⟩ = some (.int .i64 x.src) := hbe.cell rfl
    have q2 : we.cell? ⟨w.heap.size + 1, 2, none⟩ = some (.int .i64 x.dst) := hbe.cell rfl
    have q3 : we.cell? ⟨w.heap.size + 1, 3, none⟩ = some (.string x.ty) := hbe.cell rfl
    have q4 : we.cell? ⟨w.heap.size + 1, 4, none⟩ = some (.slice ka' x.keys.length kc') := hbe.cell rfl
    have q5 : we.cell? ⟨w.heap.size + 1, 5, none⟩ = some (.slice va' x.vals.length vc') := hbe.cell rfl
    have HBE : Hid (Below w.heap.size w we) := Lib.hid (by rw [← hwe]; exact ((((((HBX2.out.put 1 0 rfl (.int .i64 x.id)).put 1 1 rfl (.int .i64 x.src)).put 1 2 rfl (.int .i64 x.dst)).put 1 3 rfl (.string x.ty)).put 1 4 rfl (.slice ka' x.keys.length kc')).put 1 5 rfl (.slice va' x.vals.length vc')).bel)
    have HKE : Hid (∀ q, q ≠ w.heap.size + 1 → we.heap[q]? = w2.heap[q]?) := Lib.hid (fun q hq => by rw [← hwe]; exact setW_other _ _ _ _ _ hq)
    have HZE : Hid (we.heap.size = w2.heap.size) := Lib.hid (by rw [← hwe]; exact setW_size _ _ _ _)
    have HWE := Lib.hid hwe
    clear hbe hwe
    go_wp2_with (refine wpList_store_mid rfl 40 _ _ rfl (w.heap.size + 1) 0 #[.int .i64 x.id, .int .i64 x.src, .int .i64 x.dst, .string x.ty, .slice ka' x.keys.length kc', .slice va' x.vals.length vc'] rfl rfl HT2.out (by kernel_rfl) (by simp [Value.oneCell']) ?_; rw [HWE.out])
    refine bodyPost_ret (by simp [results, Try.results24, go_sem, q0, q1, q2, q3, q4, q5]; rfl) rfl ?_
    rw [HO.out, HII.out]
    obtain ⟨hb2, ho2, hn2, hr2⟩ := HE2.out
    have hl1 := HBX1.out.len
    simp only [List.length_cons, List.length_nil] at hl1
    exact ⟨_, bs2, rfl, HBE.out, ownIsEO.same ho2 (fun q hq => HKE.out q (by have := (hr2 q hq).1; omega)), hn2, fun q hq => ⟨by have := (hr2 q hq).1; omega, by rw [HZE.out]; exact (hr2 q hq).2⟩⟩
end Go.Proofs.Ytoakloicjlfaaaa

/- Layer 14: the contract of the reference's Spoil: it turns nothing but the graph's own memory. Conditions: the graph's memory is its own. -/
namespace Go.Proofs.Ytoakloicjlfaaaa
open Go.RowKit
set_option linter.unusedSimpArgs false
set_option linter.unusedVariables false
set_option maxRecDepth 100000

section
variable {α : Type} {R : World → List Value → α → List Nat → Prop} {size : Nat}
/-- A row in its own block, of which the elements from j on stand as they were. -/
def Spo (R : World → List Value → α → List Nat → Prop) (size : Nat) (w : World) (a : Option Addr) (l : List α) (j : Nat) (bs : List Nat) : Prop :=
  l = [] ∨ ∃ lb cu ty b4, a = some ⟨lb, 0, none⟩ ∧ Block w lb cu ty ∧ lb ∈ bs ∧ lb ∉ b4 ∧ b4.Nodup ∧ (∀ q ∈ b4, q ∈ bs) ∧ IsRows (R w) size cu j (l.drop j) b4
theorem Spo.start {w : World} {a : Option Addr} {l : List α} {bs : List Nat} (h : OwnRw R size w a l bs) (hn : bs.Nodup) : Spo R size w a l 0 bs := by
  rcases h with ⟨h, _⟩ | ⟨lb, cur, ty, b3, h1, h2, h3, h4⟩
  · exact .inl h
  · subst h2
    obtain ⟨n1, n2⟩ := List.nodup_cons.1 hn
    exact .inr ⟨lb, cur, ty, b3, h1, h3, by simp, n1, n2, fun q hq => by simp [hq], h4⟩
theorem Spo.at (hR : OwnElem R size) {w : World} {a : Option Addr} {l : List α} {j : Nat} {bs : List Nat} {t : α} (h : Spo R size w a l j bs) (ht : l[j]? = some t) (hlt : ∀ b ∈ bs, b < w.heap.size) :
    ∃ lb cu ty cs b5, a = some ⟨lb, 0, none⟩ ∧ Block w lb cu ty ∧ (∀ (q : Nat) v, cs[q]? = some v → cu[j * size + q]? = some v) ∧ R w cs t b5 ∧ b5.Nodup ∧ (∀ q ∈ b5, q ∈ bs) ∧ lb ∈ bs ∧ lb ∉ b5 ∧
      ∀ w' cu', Kept (lb :: b5) w w' → Block w' lb cu' ty → (∀ q, (j + 1) * size ≤ q → cu'[q]? = cu[q]?) → Spo R size w' a l (j + 1) bs := by
  rcases h with rfl | ⟨lb, cu, ty, b4, h1, h2, h3, h4, h5, h6, h7⟩
  · simp at ht
  · rw [drop_some ht] at h7
    obtain ⟨cs, b1, b2, e, hc, hx, hrest⟩ := h7
    subst e
    obtain ⟨n1, n2, n12⟩ := List.nodup_append.1 h5
    refine ⟨lb, cu, ty, cs, b1, h1, h2, hc, hx, n1, fun q hq => h6 q (by simp [hq]), h3, fun h => h4 (by simp [h]), fun w' cu' hk hb hq => ?_⟩
    refine .inr ⟨lb, cu', ty, b2, h1, hb, h3, fun h => h4 (by simp [h]), n2, fun q hq => h6 q (by simp [hq]), ?_⟩
    refine (hrest.same hR _ _ _ fun q hq2 => hk.block q (hlt q (h6 q (by simp [hq2]))) fun hm => ?_).cur hR _ _ _ (fun q hq1 _ => hq q hq1)
    rcases List.mem_cons.1 hm with rfl | hm
    · exact h4 (by simp [hq2])
    · exact n12 q hm q hq2 rfl
end
theorem ownStr_head {w : World} {ka : Option Addr} {ks : List ByteArray} {bs : List Nat} (h : OwnStr w ka ks bs) :
    ∃ kb kcur kty, (ks ≠ [] → ka = some ⟨kb, 0, none⟩) ∧ (ks ≠ [] → kb ∈ bs) ∧ (ks ≠ [] → Block w kb kcur kty) ∧ ks.length ≤ kcur.length := by
  rcases h with ⟨rfl, _⟩ | ⟨kb, cur, ty, h1, h2, h3, h4⟩
  · exact ⟨0, [], 0, fun h => absurd rfl h, fun h => absurd rfl h, fun h => absurd rfl h, by simp⟩
  · refine ⟨kb, cur, ty, fun _ => h1, fun _ => by rw [h2]; simp, fun _ => h3, ?_⟩
    by_cases h0 : ks.length = 0
    · omega
    · obtain ⟨x, hx⟩ : ∃ x, ks[ks.length - 1]? = some x := get_some (by omega)
      have := (List.getElem?_eq_some_iff.1 (h4 _ x hx)).1
      omega
theorem there6 {w : World} {b : Nat} {cu : List Value} {ty : TypeId} (h : Block w b cu ty) {off : Nat} (hl : off + 6 ≤ cu.length) : w.there b off 6 := by
  intro j hj
  exact ⟨by rw [h.cell (show cu[off + j]? = some (cu[off + j]'(by omega)) from List.getElem?_eq_getElem _)]; rfl, h.free _⟩
set_option maxHeartbeats 16000000 in
theorem spoilG_any (g : Gt) (cs : List Value) (bs : List Nat) (w : World) (hO : IsGO w cs g bs) (hnd : bs.Nodup) (hlt : ∀ b ∈ bs, b < w.heap.size) :
    Calls Try.prog 15 #[.agg cs.toArray] w fun e w' => e = .returned (.tuple #[]) ∧ Kept bs w w' := by
  obtain ⟨na, nc, ea, ec, B1, B2, rfl, ⟨⟨⟨hlc, hlm⟩, hnz⟩, ⟨⟨hec, hem⟩, hez⟩⟩, rfl, hN, hE⟩ := hO
  obtain ⟨hn1, hn2, hn12⟩ := List.nodup_append.1 hnd
  show Calls Try.prog 15 #[.agg #[.slice na g.nodes.length nc, .slice ea g.edges.length ec]] w _
  obtain ⟨W0, hW0⟩ : ∃ W0, w.alloc (.cells #[.slice na g.nodes.length nc, .slice ea g.edges.length ec] 25) = W0 := ⟨_, rfl⟩
  have hX0 : Block W0 w.heap.size [.slice na g.nodes.length nc, .slice ea g.edges.length ec] 25 := by rw [← hW0]; exact Block.new w _ _
  have hBW : Below w.heap.size w W0 := by rw [← hW0]; exact (Below.refl _ _).alloc (Nat.le_refl _) _
  have HX0 := Lib.hid hX0
  have HBW := Lib.hid hBW
  have HZ0 : Hid (W0.heap.size = w.heap.size + 1) := Lib.hid (by rw [← hW0]; simp)
  have HW0 := Lib.hid hW0
  have HL1 : Hid (∀ q ∈ B1, q < w.heap.size) := Lib.hid (fun q hq => hlt q (by simp [hq]))
  have HL2 : Hid (∀ q ∈ B2, q < w.heap.size) := Lib.hid (fun q hq => hlt q (by simp [hq]))
  have HSN : Hid (Spo IsNO 4 W0 na g.nodes 0 B1) := Lib.hid (Spo.start (hN.same ownIsNO (fun q hq => hBW.block q (HL1.out q hq))) hn1)
  have HSE : Hid (OwnRw IsEO 6 W0 ea g.edges B2) := Lib.hid (hE.same ownIsEO (fun q hq => hBW.block q (HL2.out q hq)))
  have HND := Lib.hid (show _ ∧ _ ∧ _ from ⟨hn1, hn2, hn12⟩)
  clear hX0 hBW hW0 hN hE hnd hlt hn1 hn2 hn12 hnz hez
  go_enter Try.func15, Try.ntmps15
  go_wp2_with fail
  rw [HW0.out]
  go_loopw [2] (fun iv wr => ∃ (j : Nat), iv = .int .i64 j ∧ j ≤ g.nodes.length ∧ Hid (Kept B1 W0 wr) ∧ Hid (Spo IsNO 4 wr na g.nodes j B1)) (fun iv _ => g.nodes.length - (intOf iv).toNat)
  case atStart => exact ⟨0, rfl, Nat.zero_le _, Lib.hid (Kept.refl _ _), HSN⟩
  case round =>
    obtain ⟨j, rfl, hj, HK, HS⟩ := hrel
    clear HSN
    have HX : Hid (Block wr w.heap.size [.slice na g.nodes.length nc, .slice ea g.edges.length ec] 25) := Lib.hid (HX0.out.of_heap (HK.out.block _ HX0.out.lt (fun h => by have := HL1.out _ h; omega)))
    have c0 := HX.out.cell (i := 0) rfl
    by_cases hlt : j < g.nodes.length
    · have hlt' : (j : Int) < g.nodes.length := by omega
      have hj0 : (0 : Int) ≤ (j : Int) := by omega
      obtain ⟨x, hx⟩ := get_some hlt
      have hzr := HK.out.size
      have hz0 := HZ0.out
      obtain ⟨lb, cu, ty, cs, b5, rfl, hblk, hcs, hxo, hnd5, hm5, hlb, hlb5, hstep⟩ := HS.out.at ownIsNO hx (fun q hq => by have := HL1.out q hq; omega)
      obtain ⟨la, lc, ka, kc, va, vc, b1, b2, b3, rfl, hid, ⟨⟨⟨q1, q2⟩, q3⟩, -, ⟨⟨q4, q5⟩, q6⟩⟩, rfl, hlab, -, hval⟩ := hxo
      have k0 := hblk.cell (hcs 0 _ rfl)
      have k1 := hblk.cell (hcs 1 _ rfl)
      have k2 := hblk.cell (hcs 2 _ rfl)
      have k3 := hblk.cell (hcs 3 _ rfl)
      rw [Nat.add_zero] at k0
      have hcl := (List.getElem?_eq_some_iff.1 (hcs 3 _ rfl)).1
      obtain ⟨W1, hW1⟩ : ∃ W1, wr.alloc (.cells #[.int .i64 x.id, .slice la x.labels.length lc, .slice ka x.keys.length kc, .slice va x.vals.length vc] 38) = W1 := ⟨_, rfl⟩
      have hb1 : Below wr.heap.size wr W1 := by rw [← hW1]; exact (Below.refl _ _).alloc (Nat.le_refl _) _
      have HY1 : Hid (Block W1 wr.heap.size [.int .i64 x.id, .slice la x.labels.length lc, .slice ka x.keys.length kc, .slice va x.vals.length vc] 38) := Lib.hid (by rw [← hW1]; exact Block.new wr _ _)
      have HB1 := Lib.hid hb1
      have HZ1 : Hid (W1.heap.size = wr.heap.size + 1) := Lib.hid (by rw [← hW1]; simp)
      have HW1 := Lib.hid hW1
      have h5w : ∀ q ∈ b1 ++ (b2 ++ b3), q < w.heap.size := fun q hq => HL1.out q (hm5 q hq)
      have h5r : ∀ q ∈ b1 ++ (b2 ++ b3), q < wr.heap.size := fun q hq => by have := h5w q hq; omega
      have HLB : Hid (OwnStr W1 la x.labels b1) := Lib.hid (hlab.same fun q hq => hb1.block q (h5r q (by simp [hq])))
      have HVL : Hid (OwnRw IsO 6 W1 va x.vals b3) := Lib.hid (hval.same ownIsO fun q hq => hb1.block q (h5r q (by simp [hq])))
      have HBL : Hid (Block W1 lb cu ty) := Lib.hid (hblk.below hb1 hblk.lt)
      have HST := Lib.hid hstep
      have HM5 := Lib.hid (show _ ∧ _ ∧ _ ∧ _ ∧ _ ∧ _ ∧ _ from ⟨hnd5, hm5, hlb, hlb5, h5w, h5r, hcl⟩)
      have h3 : b3.Nodup := (List.nodup_append.1 (List.nodup_append.1 hnd5).2.1).2.1
      have h13 : ∀ q ∈ b3, q ∉ b1 := fun q hq hq1 => (List.nodup_append.1 hnd5).2.2 q hq1 q (by simp [hq]) rfl
      have HND3 := Lib.hid (show _ ∧ _ from ⟨h3, h13⟩)
      obtain ⟨kb, kcur, kty, hka, hkm, hkb, hkl⟩ : ∃ kb kcur kty, (x.labels ≠ [] → la = some ⟨kb, 0, none⟩) ∧ (x.labels ≠ [] → kb ∈ b1) ∧ (x.labels ≠ [] → Block W1 kb kcur kty) ∧ x.labels.length ≤ kcur.length := ownStr_head HLB.out
      have HKA := Lib.hid hka
      have HKM := Lib.hid hkm
      have HKB := Lib.hid hkb
      have HKL := Lib.hid hkl
      clear hx hblk hcs hid hlab hval hb1 hW1 h5w h5r hstep hnd5 hm5 hlb hlb5 hcl h3 h13 hka hkm hkb hkl hzr hz0
      go_wp2_with fail
      rw [HW1.out]
      go_loopw [4] (fun iv w3 => ∃ (q : Nat) (kcu : List Value), iv = .int .i64 q ∧ q ≤ x.labels.length ∧ Hid (Kept b1 W1 w3) ∧ Hid (x.labels ≠ [] → Block w3 kb kcu kty) ∧ Hid (x.labels.length ≤ kcu.length)) (fun iv _ => x.labels.length - (intOf iv).toNat)
      case atStart => exact ⟨0, kcur, rfl, Nat.zero_le _, Lib.hid (Kept.refl _ _), HKB, HKL⟩
      case round =>
        rename World => w3
        obtain ⟨q, kcu, rfl, hq, HK3, HKB3, HKL3⟩ := hrel
        have HY3 := Lib.hid (HY1.out.of_heap (HK3.out.block _ HY1.out.lt (fun h => by have := HM5.out.2.2.2.2.2.1 _ (show wr.heap.size ∈ b1 ++ (b2 ++ b3) by simp [h]); omega)))
        have r1 := HY3.out.cell (i := 1) rfl
        by_cases hlt3 : q < x.labels.length
        · have hlt3' : (q : Int) < x.labels.length := by omega
          have hq0 : (0 : Int) ≤ (q : Int) := by omega
          have hne : x.labels ≠ [] := by intro h; rw [h] at hlt3; simp at hlt3
          obtain rfl := HKA.out hne
          obtain ⟨y, hy⟩ : ∃ y, kcu[q]? = some y := get_some (by have := HKL3.out; omega)
          have e0 := (HKB3.out hne).free q
          have e1 := (HKB3.out hne).cell hy
          have HNE := Lib.hid hne
          clear hne hy k0 k1 k2 k3 c0
          go_wp2_with fail
          go_roundw
          case rel => exact ⟨q + 1, kcu.set q (.string ⟨#[115, 112, 111, 105, 108, 116]⟩), by go_num, by omega, Lib.hid (HK3.out.setCell (.inl (HKM.out HNE.out)) _), Lib.hid (fun _ => (HKB3.out HNE.out).set q _), Lib.hid (by rw [List.length_set]; exact HKL3.out)⟩
          case measure => simp [intOf]; omega
        · have hlt3' : ¬ (q : Int) < x.labels.length := by omega
          have HK5 : Hid (Kept (b1 ++ (b2 ++ b3)) W1 w3) := Lib.hid (HK3.out.mono (fun q hq => by simp [hq]))
          have HVS : Hid (Spo IsO 6 w3 va x.vals 0 b3) := Lib.hid (Spo.start (HVL.out.same ownIsO fun q hq => HK3.out.block q (by have := HM5.out.2.2.2.2.2.1 q (by simp [hq]); have := HZ1.out; omega) (HND3.out.2 q hq)) HND3.out.1)
          clear k0 k1 k2 k3 c0
          go_wp2_with fail
          go_loopw [5] (fun iv w4 => ∃ (q : Nat), iv = .int .i64 q ∧ q ≤ x.vals.length ∧ Hid (Kept (b1 ++ (b2 ++ b3)) W1 w4) ∧ Hid (Spo IsO 6 w4 va x.vals q b3)) (fun iv _ => x.vals.length - (intOf iv).toNat)
          case atStart => exact ⟨0, rfl, Nat.zero_le _, HK5, HVS⟩
          case round =>
            rename World => w4
            obtain ⟨q, rfl, hq, HK4, HS4⟩ := hrel
            clear HVS HK5
            have HY4 : Hid (Block w4 wr.heap.size [.int .i64 x.id, .slice la x.labels.length lc, .slice ka x.keys.length kc, .slice va x.vals.length vc] 38) := Lib.hid (HY1.out.of_heap (HK4.out.block _ HY1.out.lt (fun h => by have := HM5.out.2.2.2.2.2.1 _ h; omega)))
            have r3 := HY4.out.cell (i := 3) rfl
            by_cases hlt4 : q < x.vals.length
            · have hlt4' : (q : Int) < x.vals.length := by omega
              have hq0 : (0 : Int) ≤ (q : Int) := by omega
              obtain ⟨t, ht⟩ := get_some hlt4
              obtain ⟨vb, vcu, vty, vcs, v5, rfl, hvb, hvcs, hto, hv5, hvm, hvbm, hvb5, hvst⟩ := HS4.out.at ownIsO ht (fun q hq => by have := HM5.out.2.2.2.2.2.1 q (by simp [hq]); have := HK4.out.size; have := HZ1.out; omega)
              have HSP := Lib.hid (spoil_any t vcs v5 w4 hto hv5 (fun q hq => by have := HM5.out.2.2.2.2.2.1 q (by simp [hvm q hq]); have := HK4.out.size; have := HZ1.out; omega))
              obtain ⟨tk, tb, ti, ts, tl, tks⟩ := t
              have ht3 := hto
              unfold IsO at ht3
              obtain ⟨la2, lc2, ka2, kc2, x1, x2, rfl, -, -, -, -⟩ := ht3
              have g0 := hvb.cell (hvcs 0 _ rfl)
              have g1 := hvb.cell (hvcs 1 _ rfl)
              have g2 := hvb.cell (hvcs 2 _ rfl)
              have g3 := hvb.cell (hvcs 3 _ rfl)
              have g4 := hvb.cell (hvcs 4 _ rfl)
              have g5 := hvb.cell (hvcs 5 _ rfl)
              rw [Nat.add_zero] at g0
              have hvl := (List.getElem?_eq_some_iff.1 (hvcs 5 _ rfl)).1
              have HV := Lib.hid (show _ ∧ _ ∧ _ ∧ _ ∧ _ ∧ _ from ⟨hvb, hvm, hvbm, hvb5, hvst, hvl⟩)
              clear hto ht hvb hvcs hv5 hvm hvbm hvb5 hvst hvl
              go_wp2_with fail
              refine HSP.out.mono ?_
              rintro e w5 ⟨rfl, hk5⟩
              have hvb5 : Block w5 vb vcu vty := HV.out.1.of_heap (hk5.block vb HV.out.1.lt HV.out.2.2.2.1)
              have hY5 : Block w5 wr.heap.size [.int .i64 x.id, .slice la x.labels.length lc, .slice ka x.keys.length kc, .slice (some ⟨vb, 0, none⟩) x.vals.length vc] 38 := HY4.out.of_heap (hk5.block _ HY4.out.lt (fun h => by have := HM5.out.2.2.2.2.2.1 _ (show wr.heap.size ∈ b1 ++ (b2 ++ b3) by simp [HV.out.2.1 _ h]); omega))
              have d3 := hY5.cell (i := 3) rfl
              obtain ⟨we, hwe⟩ : ∃ we, w5.setCells vb (q * 6) (#[.int .i64 0, .bool false, .int .i64 0, .string ⟨#[]⟩, .slice none 0 0, .slice none 0 0] : Array Value).toList = we := ⟨_, rfl⟩
              have HT : Hid (w5.there vb (q * 6) 6) := Lib.hid (there6 hvb5 (by have := HV.out.2.2.2.2.2; omega))
              have hbe : Block we vb (put6 vcu (q * 6) (.int .i64 0) (.bool false) (.int .i64 0) (.string ⟨#[]⟩) (.slice none 0 0) (.slice none 0 0)) vty := by rw [← hwe]; exact hvb5.set6 (q * 6) _ _ _ _ _ _
              have HKW : Hid (Kept (vb :: v5) w4 we) := Lib.hid (by rw [← hwe]; exact (((((((hk5.mono (fun q hq => by simp [hq])).setCell (.inl (by simp)) _).setCell (.inl (by simp)) _).setCell (.inl (by simp)) _).setCell (.inl (by simp)) _).setCell (.inl (by simp)) _).setCell (.inl (by simp)) _))
              have HSX : Hid (Spo IsO 6 we (some ⟨vb, 0, none⟩) x.vals (q + 1) b3) := Lib.hid (HV.out.2.2.2.2.1 we _ HKW.out hbe (fun q hq => put6_out _ _ _ _ _ _ _ _ q (by omega)))
              have HWE := Lib.hid hwe
              clear g0 g1 g2 g3 g4 g5 r3 hvb5 hY5 hk5 hwe hbe
              go_wp2_with (refine wpList_store_mid rfl 71 _ _ rfl vb (q * 6) #[.int .i64 0, .bool false, .int .i64 0, .string ⟨#[]⟩, .slice none 0 0, .slice none 0 0] rfl rfl HT.out (by kernel_rfl) (by simp [Value.oneCell']) ?_; rw [HWE.out])
              go_roundw
              case rel => exact ⟨q + 1, by go_num, by omega, Lib.hid (HK4.out.trans HKW.out (fun q hq => .inl (by rcases List.mem_cons.1 hq with rfl | hq; simp [HV.out.2.2.1]; simp [HV.out.2.1 q hq]))), HSX⟩
              case measure => simp [intOf]; omega
            · have hlt4' : ¬ (q : Int) < x.vals.length := by omega
              have hX4 : Block w4 w.heap.size [.slice (some ⟨lb, 0, none⟩) g.nodes.length nc, .slice ea g.edges.length ec] 25 := (HX.out.below HB1.out HX.out.lt).of_heap (HK4.out.block _ (HX.out.below HB1.out HX.out.lt).lt (fun h => by have := HM5.out.2.2.2.2.1 _ h; omega))
              have hB4 : Block w4 lb cu ty := HBL.out.of_heap (HK4.out.block _ HBL.out.lt HM5.out.2.2.2.1)
              have d0 := hX4.cell (i := 0) rfl
              have d1 := hB4.free (j * 4)
              obtain ⟨y, hy⟩ : ∃ y, cu[j * 4]? = some y := get_some (by have := HM5.out.2.2.2.2.2.2; omega)
              have d2 := hB4.cell hy
              have HB4 := Lib.hid hB4
              have hKL : Kept (lb :: (b1 ++ (b2 ++ b3))) wr w4 := by
                have h1 := HK4.out
                have h2 := HB1.out
                exact ⟨h1.os.trans h2.os, h1.tape.trans h2.tape, h1.output.trans h2.output, Nat.le_trans h2.size h1.size, fun x hx hn => by rw [h1.block x (by have := h2.size; omega) (fun h => hn (by simp [h])), h2.block x hx]⟩
              have HKL := Lib.hid hKL
              clear hX4 hB4 hy hKL
              go_wp2_with fail
              go_roundw
              case rel =>
                refine ⟨j + 1, by go_num, by omega, Lib.hid (HK.out.trans (HKL.out.setCell (.inl (by simp)) _) (fun q hq => .inl (by rcases List.mem_cons.1 hq with rfl | hq; exact HM5.out.2.2.1; exact HM5.out.2.1 q hq))), Lib.hid (HST.out _ _ (HKL.out.setCell (.inl (by simp)) _) (HB4.out.set (j * 4) _) (fun q hq => List.getElem?_set_ne (by omega)))⟩
              case measure => simp [intOf]; omega
    · have hlt' : ¬ (j : Int) < g.nodes.length := by omega
      have c1 := HX.out.cell (i := 1) rfl
      have HSE2 : Hid (Spo IsEO 6 wr ea g.edges 0 B2) := Lib.hid (Spo.start (HSE.out.same ownIsEO (fun q hq => HK.out.block q (by have := HL2.out q hq; have := HZ0.out; omega) (fun h => HND.out.2.2 q h q hq rfl))) HND.out.2.1)
      have HKE : Hid (Kept (B1 ++ B2) W0 wr) := Lib.hid (HK.out.mono (fun q hq => by simp [hq]))
      clear HS HK HX
      go_wp2_with fail
      clear c0 c1
      go_loopw [6] (fun iv wr => ∃ (j : Nat), iv = .int .i64 j ∧ j ≤ g.edges.length ∧ Hid (Kept (B1 ++ B2) W0 wr) ∧ Hid (Spo IsEO 6 wr ea g.edges j B2)) (fun iv _ => g.edges.length - (intOf iv).toNat)
      case atStart => exact ⟨0, rfl, Nat.zero_le _, HKE, HSE2⟩
      case round =>
        rename World => wr
        obtain ⟨j, rfl, hj, HK, HS⟩ := hrel
        clear HSE2 HKE
        have HX : Hid (Block wr w.heap.size [.slice na g.nodes.length nc, .slice ea g.edges.length ec] 25) := Lib.hid (HX0.out.of_heap (HK.out.block _ HX0.out.lt (fun h => by rcases List.mem_append.1 h with h | h; exact absurd (HL1.out _ h) (by omega); exact absurd (HL2.out _ h) (by omega))))
        have c1 := HX.out.cell (i := 1) rfl
        by_cases hlt : j < g.edges.length
        · have hlt' : (j : Int) < g.edges.length := by omega
          have hj0 : (0 : Int) ≤ (j : Int) := by omega
          obtain ⟨x, hx⟩ := get_some hlt
          have hzr := HK.out.size
          have hz0 := HZ0.out
          obtain ⟨lb, cu, ty, cs, b5, rfl, hblk, hcs, hxo, hnd5, hm5, hlb, hlb5, hstep⟩ := HS.out.at ownIsEO hx (fun q hq => by have := HL2.out q hq; omega)
          obtain ⟨ka, kc, va, vc, b2, b3, rfl, hid, ⟨-, ⟨⟨q4, q5⟩, q6⟩⟩, rfl, -, hval⟩ := hxo
          have k0 := hblk.cell (hcs 0 _ rfl)
          have k1 := hblk.cell (hcs 1 _ rfl)
          have k2 := hblk.cell (hcs 2 _ rfl)
          have k3 := hblk.cell (hcs 3 _ rfl)
          have k4 := hblk.cell (hcs 4 _ rfl)
          have k5 := hblk.cell (hcs 5 _ rfl)
          rw [Nat.add_zero] at k0
          have hcl := (List.getElem?_eq_some_iff.1 (hcs 5 _ rfl)).1
          obtain ⟨W1, hW1⟩ : ∃ W1, wr.alloc (.cells #[.int .i64 x.id, .int .i64 x.src, .int .i64 x.dst, .string x.ty, .slice ka x.keys.length kc, .slice va x.vals.length vc] 40) = W1 := ⟨_, rfl⟩
          have hb1 : Below wr.heap.size wr W1 := by rw [← hW1]; exact (Below.refl _ _).alloc (Nat.le_refl _) _
          have HY1 : Hid (Block W1 wr.heap.size [.int .i64 x.id, .int .i64 x.src, .int .i64 x.dst, .string x.ty, .slice ka x.keys.length kc, .slice va x.vals.length vc] 40) := Lib.hid (by rw [← hW1]; exact Block.new wr _ _)
          have HB1 := Lib.hid hb1
          have HZ1 : Hid (W1.heap.size = wr.heap.size + 1) := Lib.hid (by rw [← hW1]; simp)
          have HW1 := Lib.hid hW1
          have h5w : ∀ q ∈ b2 ++ b3, q < w.heap.size := fun q hq => HL2.out q (hm5 q hq)
          have h5r : ∀ q ∈ b2 ++ b3, q < wr.heap.size := fun q hq => by have := h5w q hq; omega
          have h3 : b3.Nodup := (List.nodup_append.1 hnd5).2.1
          have HVS : Hid (Spo IsO 6 W1 va x.vals 0 b3) := Lib.hid (Spo.start (hval.same ownIsO fun q hq => hb1.block q (h5r q (by simp [hq]))) h3)
          have HBL : Hid (Block W1 lb cu ty) := Lib.hid (hblk.below hb1 hblk.lt)
          have HST := Lib.hid hstep
          have HM5 := Lib.hid (show _ ∧ _ ∧ _ ∧ _ ∧ _ ∧ _ ∧ _ from ⟨hnd5, hm5, hlb, hlb5, h5w, h5r, hcl⟩)
          have HK5 : Hid (Kept (b2 ++ b3) W1 W1) := Lib.hid (Kept.refl _ _)
          clear hx hblk hcs hid hval hb1 hW1 h5w h5r hstep hnd5 hm5 hlb hlb5 hcl h3 hzr hz0
          go_wp2_with fail
          rw [HW1.out]
          clear k0 k1 k2 k3 k4 k5 c1
          go_loopw [8] (fun iv w4 => ∃ (q : Nat), iv = .int .i64 q ∧ q ≤ x.vals.length ∧ Hid (Kept (b2 ++ b3) W1 w4) ∧ Hid (Spo IsO 6 w4 va x.vals q b3)) (fun iv _ => x.vals.length - (intOf iv).toNat)
          case atStart => exact ⟨0, rfl, Nat.zero_le _, HK5, HVS⟩
          case round =>
            rename World => w4
            obtain ⟨q, rfl, hq, HK4, HS4⟩ := hrel
            clear HVS HK5
            have HY4 : Hid (Block w4 wr.heap.size [.int .i64 x.id, .int .i64 x.src, .int .i64 x.dst, .string x.ty, .slice ka x.keys.length kc, .slice va x.vals.length vc] 40) := Lib.hid (HY1.out.of_heap (HK4.out.block _ HY1.out.lt (fun h => by have := HM5.out.2.2.2.2.2.1 _ h; omega)))
            have r3 := HY4.out.cell (i := 5) rfl
            by_cases hlt4 : q < x.vals.length
            · have hlt4' : (q : Int) < x.vals.length := by omega
              have hq0 : (0 : Int) ≤ (q : Int) := by omega
              obtain ⟨t, ht⟩ := get_some hlt4
              obtain ⟨vb, vcu, vty, vcs, v5, rfl, hvb, hvcs, hto, hv5, hvm, hvbm, hvb5, hvst⟩ := HS4.out.at ownIsO ht (fun q hq => by have := HM5.out.2.2.2.2.2.1 q (by simp [hq]); have := HK4.out.size; have := HZ1.out; omega)
              have HSP := Lib.hid (spoil_any t vcs v5 w4 hto hv5 (fun q hq => by have := HM5.out.2.2.2.2.2.1 q (by simp [hvm q hq]); have := HK4.out.size; have := HZ1.out; omega))
              obtain ⟨tk, tb, ti, ts, tl, tks⟩ := t
              have ht3 := hto
              unfold IsO at ht3
              obtain ⟨la2, lc2, ka2, kc2, x1, x2, rfl, -, -, -, -⟩ := ht3
              have g0 := hvb.cell (hvcs 0 _ rfl)
              have g1 := hvb.cell (hvcs 1 _ rfl)
              have g2 := hvb.cell (hvcs 2 _ rfl)
              have g3 := hvb.cell (hvcs 3 _ rfl)
              have g4 := hvb.cell (hvcs 4 _ rfl)
              have g5 := hvb.cell (hvcs 5 _ rfl)
              rw [Nat.add_zero] at g0
              have hvl := (List.getElem?_eq_some_iff.1 (hvcs 5 _ rfl)).1
              have HV := Lib.hid (show _ ∧ _ ∧ _ ∧ _ ∧ _ ∧ _ from ⟨hvb, hvm, hvbm, hvb5, hvst, hvl⟩)
              clear hto ht hvb hvcs hv5 hvm hvbm hvb5 hvst hvl
              go_wp2_with fail
              refine HSP.out.mono ?_
              rintro e w5 ⟨rfl, hk5⟩
              have hvb5 : Block w5 vb vcu vty := HV.out.1.of_heap (hk5.block vb HV.out.1.lt HV.out.2.2.2.1)
              have hY5 : Block w5 wr.heap.size [.int .i64 x.id, .int .i64 x.src, .int .i64 x.dst, .string x.ty, .slice ka x.keys.length kc, .slice (some ⟨vb, 0, none⟩) x.vals.length vc] 40 := HY4.out.of_heap (hk5.block _ HY4.out.lt (fun h => by have := HM5.out.2.2.2.2.2.1 _ (show wr.heap.size ∈ b2 ++ b3 by simp [HV.out.2.1 _ h]); omega))
              have d3 := hY5.cell (i := 5) rfl
              obtain ⟨we, hwe⟩ : ∃ we, w5.setCells vb (q * 6) (#[.int .i64 0, .bool false, .int .i64 0, .string ⟨#[]⟩, .slice none 0 0, .slice none 0 0] : Array Value).toList = we := ⟨_, rfl⟩
              have HT : Hid (w5.there vb (q * 6) 6) := Lib.hid (there6 hvb5 (by have := HV.out.2.2.2.2.2; omega))
              have hbe : Block we vb (put6 vcu (q * 6) (.int .i64 0) (.bool false) (.int .i64 0) (.string ⟨#[]⟩) (.slice none 0 0) (.slice none 0 0)) vty := by rw [← hwe]; exact hvb5.set6 (q * 6) _ _ _ _ _ _
              have HKW : Hid (Kept (vb :: v5) w4 we) := Lib.hid (by rw [← hwe]; exact (((((((hk5.mono (fun q hq => by simp [hq])).setCell (.inl (by simp)) _).setCell (.inl (by simp)) _).setCell (.inl (by simp)) _).setCell (.inl (by simp)) _).setCell (.inl (by simp)) _).setCell (.inl (by simp)) _))
              have HSX : Hid (Spo IsO 6 we (some ⟨vb, 0, none⟩) x.vals (q + 1) b3) := Lib.hid (HV.out.2.2.2.2.1 we _ HKW.out hbe (fun q hq => put6_out _ _ _ _ _ _ _ _ q (by omega)))
              have HWE := Lib.hid hwe
              clear g0 g1 g2 g3 g4 g5 r3 hvb5 hY5 hk5 hwe hbe
              go_wp2_with (refine wpList_store_mid rfl 71 _ _ rfl vb (q * 6) #[.int .i64 0, .bool false, .int .i64 0, .string ⟨#[]⟩, .slice none 0 0, .slice none 0 0] rfl rfl HT.out (by kernel_rfl) (by simp [Value.oneCell']) ?_; rw [HWE.out])
              go_roundw
              case rel => exact ⟨q + 1, by go_num, by omega, Lib.hid (HK4.out.trans HKW.out (fun q hq => .inl (by rcases List.mem_cons.1 hq with rfl | hq; simp [HV.out.2.2.1]; simp [HV.out.2.1 q hq]))), HSX⟩
              case measure => simp [intOf]; omega
            · have hlt4' : ¬ (q : Int) < x.vals.length := by omega
              have hX4 : Block w4 w.heap.size [.slice na g.nodes.length nc, .slice (some ⟨lb, 0, none⟩) g.edges.length ec] 25 := (HX.out.below HB1.out HX.out.lt).of_heap (HK4.out.block _ (HX.out.below HB1.out HX.out.lt).lt (fun h => by have := HM5.out.2.2.2.2.1 _ h; omega))
              have hB4 : Block w4 lb cu ty := HBL.out.of_heap (HK4.out.block _ HBL.out.lt HM5.out.2.2.2.1)
              have d0 := hX4.cell (i := 1) rfl
              have d1 := hB4.free (j * 6 + 1)
              obtain ⟨y, hy⟩ : ∃ y, cu[j * 6 + 1]? = some y := get_some (by have := HM5.out.2.2.2.2.2.2; omega)
              have d2 := hB4.cell hy
              have HB4 := Lib.hid hB4
              have hKL : Kept (lb :: (b2 ++ b3)) wr w4 := by
                have h1 := HK4.out
                have h2 := HB1.out
                exact ⟨h1.os.trans h2.os, h1.tape.trans h2.tape, h1.output.trans h2.output, Nat.le_trans h2.size h1.size, fun x hx hn => by rw [h1.block x (by have := h2.size; omega) (fun h => hn (by simp [h])), h2.block x hx]⟩
              have HKL := Lib.hid hKL
              clear hX4 hB4 hy hKL
              go_wp2_with fail
              go_roundw
              case rel =>
                refine ⟨j + 1, by go_num, by omega, Lib.hid (HK.out.trans (HKL.out.setCell (.inl (by simp)) _) (fun q hq => .inl (by rcases List.mem_cons.1 hq with rfl | hq; exact List.mem_append_right _ HM5.out.2.2.1; exact List.mem_append_right _ (HM5.out.2.1 q hq)))), Lib.hid (HST.out _ _ (HKL.out.setCell (.inl (by simp)) _) (HB4.out.set (j * 6 + 1) _) (fun q hq => List.getElem?_set_ne (by omega)))⟩
              case measure => simp [intOf]; omega
        · have hlt' : ¬ (j : Int) < g.edges.length := by omega
          go_wp2_with fail
          go_end0
          exact ⟨rfl, by
            have h1 := HK.out
            exact ⟨h1.os.trans HBW.out.os, h1.tape.trans HBW.out.tape, h1.output.trans HBW.out.output, Nat.le_trans HBW.out.size h1.size, fun x hx hn => by rw [h1.block x (by have := HBW.out.size; omega) hn, HBW.out.block x hx]⟩⟩
end Go.Proofs.Ytoakloicjlfaaaa
