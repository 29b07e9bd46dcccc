/- The texts G18, G19, G33, G34 of this seat, one behind the other. Conditions: each says its own. -/
import Derived.Test.YtoakloicjlfaaaaM5

/- Layer 14: whether two nodes, edges, graphs are the same: the reference's answer. Conditions: none. -/
namespace Go.Proofs.Ytoakloicjlfaaaa
open Go.RowKit
set_option linter.unusedSimpArgs false
set_option linter.unusedVariables false
set_option maxRecDepth 100000

def sameN (n m : Nt) : Bool := decide (n.id = m.id) && (decide (n.labels = m.labels) && (decide (n.keys = m.keys) && sameVs n.vals m.vals))
def sameE (n m : Et) : Bool := decide (n.id = m.id) && (decide (n.src = m.src) && (decide (n.dst = m.dst) && (decide (n.ty = m.ty) && (decide (n.keys = m.keys) && sameVs n.vals m.vals))))
theorem sameVs_eq (l m : List Vt) : sameVs l m = true ↔ l = m := sameVs_iff l m (fun _ t _ u => sameV_iff t u)
theorem sameN_iff (n m : Nt) : sameN n m = true ↔ n = m := by
  obtain ⟨a1, a2, a3, a4⟩ := n
  obtain ⟨b1, b2, b3, b4⟩ := m
  simp [sameN, sameVs_eq]
theorem sameE_iff (n m : Et) : sameE n m = true ↔ n = m := by
  obtain ⟨a1, a2, a3, a4, a5, a6⟩ := n
  obtain ⟨b1, b2, b3, b4, b5, b6⟩ := m
  simp [sameE, sameVs_eq]
/-- One by one. -/
def sameL {α : Type} (f : α → α → Bool) : List α → List α → Bool
  | [], [] => true
  | x :: xs, y :: ys => f x y && sameL f xs ys
  | _, _ => false
theorem sameL_iff {α : Type} {f : α → α → Bool} (hf : ∀ x y, f x y = true ↔ x = y) : ∀ l m : List α, sameL f l m = true ↔ l = m
  | [], [] => by simp [sameL]
  | [], y :: ys => by simp [sameL]
  | x :: xs, [] => by simp [sameL]
  | x :: xs, y :: ys => by simp [sameL, hf, sameL_iff hf xs ys]
theorem sameL_len {α : Type} {f : α → α → Bool} : ∀ {l m : List α}, l.length ≠ m.length → sameL f l m = false
  | [], [], h => by simp at h
  | [], y :: ys, _ => rfl
  | x :: xs, [], _ => rfl
  | x :: xs, y :: ys, h => by simp only [sameL]; rw [sameL_len (l := xs) (m := ys) (fun e => h (by simp [e]))]; simp
theorem sameL_at {α : Type} {f : α → α → Bool} : ∀ {l m : List α} {j : Nat} {t u : α}, l[j]? = some t → m[j]? = some u → sameL f (l.drop j) (m.drop j) = (f t u && sameL f (l.drop (j + 1)) (m.drop (j + 1)))
  | x :: xs, y :: ys, 0, t, u, h1, h2 => by simp at h1 h2; subst h1 h2; rfl
  | x :: xs, y :: ys, j + 1, t, u, h1, h2 => by simpa using sameL_at (l := xs) (m := ys) (j := j) (by simpa using h1) (by simpa using h2)
  | [], _, j, t, u, h1, _ => by simp at h1
  | _ :: _, [], j, t, u, _, h2 => by simp at h2
def sameG (g h : Gt) : Bool := sameL sameN g.nodes h.nodes && sameL sameE g.edges h.edges
theorem sameG_iff (g h : Gt) : sameG g h = true ↔ g = h := by
  obtain ⟨a1, a2⟩ := g
  obtain ⟨b1, b2⟩ := h
  simp [sameG, sameL_iff sameN_iff, sameL_iff sameE_iff]
theorem sameList_all (l m : List Vt) (la ma : Option Addr) (lc mc : Nat) (B : Nat) (w : World) (hl : IsVs B w la 0 l) (hm : IsVs B w ma 0 m) (hB : B ≤ w.heap.size) (hll : l.length ≤ 9223372036854775807) (hml : m.length ≤ 9223372036854775807) :
    Calls Try.prog 68 #[.slice la l.length lc, .slice ma m.length mc] w fun e w' => e = .returned (.bool (sameVs l m)) ∧ Below w.heap.size w w' :=
  sameList_any l m (fun _ t _ => same_any t) la ma lc mc B w hl hm hB hll hml
/-- A row seen from whatever world grows out of one. -/
theorem RowR.ext {α : Type} {R : Nat → World → List Value → α → Prop} {size B M : Nat} {w W0 : World} {a : Option Addr} {l : List α} (h : RowR (R B w) size B w a l) (hbe : ∀ u : Ext M W0, Below w.heap.size w u.w) (hB : B ≤ w.heap.size) {j : Nat} {x : α} (hx : l[j]? = some x) :
    ∃ b off cs, a = some ⟨b, off, none⟩ ∧ b < B ∧ cs.length = size ∧ R B w cs x ∧ ∀ (u : Ext M W0) q v, cs[q]? = some v → u.w.cell? ⟨b, off + j * size + q, none⟩ = some v := by
  obtain ⟨b, off, cs, h1, h2, h3, h4, h5⟩ := h.at hx
  exact ⟨b, off, cs, h1, h2, h3, h4, fun u q v hv => by rw [(hbe u).cell (by show b < _; omega)]; exact h5 q v hv⟩

set_option maxHeartbeats 8000000 in
theorem sameN_any (n m : Nt) (cs ds : List Value) (B : Nat) (w : World) (hn : IsN B w cs n) (hm : IsN B w ds m) (hB : B ≤ w.heap.size) :
    Calls Try.prog 39 #[.agg cs.toArray, .agg ds.toArray] w fun e w' => e = .returned (.bool (sameN n m)) ∧ Below w.heap.size w w' := by
  obtain ⟨la, lc, ka, kc, va, vc, rfl, hid, hlo, hls, hko, hvo, hks, hvs⟩ := hn
  obtain ⟨mla, mlc, mka, mkc, mva, mvc, rfl, hid2, hlo2, hls2, hko2, hvo2, hks2, hvs2⟩ := hm
  show Calls Try.prog 39 #[.agg #[.int .i64 n.id, .slice la n.labels.length lc, .slice ka n.keys.length kc, .slice va n.vals.length vc], .agg #[.int .i64 m.id, .slice mla m.labels.length mlc, .slice mka m.keys.length mkc, .slice mva m.vals.length mvc]] w _
  obtain ⟨W0, hw0⟩ : ∃ w0, (w.alloc (.cells #[.int .i64 n.id, .slice la n.labels.length lc, .slice ka n.keys.length kc, .slice va n.vals.length vc] 38)).alloc (.cells #[.int .i64 m.id, .slice mla m.labels.length mlc, .slice mka m.keys.length mkc, .slice mva m.vals.length mvc] 38) = w0 := ⟨_, rfl⟩
  have hb0 : Below w.heap.size w W0 := by rw [← hw0]; exact ((Below.refl _ _).alloc (Nat.le_refl _) _).alloc (by simp) _
  have hX : Block W0 w.heap.size [.int .i64 n.id, .slice la n.labels.length lc, .slice ka n.keys.length kc, .slice va n.vals.length vc] 38 := by rw [← hw0]; exact (Block.new w _ _).alloc _
  have hY : Block W0 (w.heap.size + 1) [.int .i64 m.id, .slice mla m.labels.length mlc, .slice mka m.keys.length mkc, .slice mva m.vals.length mvc] 38 := by rw [← hw0]; have := Block.new (w.alloc (.cells #[.int .i64 n.id, .slice la n.labels.length lc, .slice ka n.keys.length kc, .slice va n.vals.length vc] 38)) [.int .i64 m.id, .slice mla m.labels.length mlc, .slice mka m.keys.length mkc, .slice mva m.vals.length mvc] 38; simpa using this
  have hsz : w.heap.size + 2 ≤ W0.heap.size := by rw [← hw0]; simp
  have hl0 : w.heap.size < w.heap.size + 2 := by omega
  have hl1 : w.heap.size + 1 < w.heap.size + 2 := by omega
  have hbe : ∀ u : Ext (w.heap.size + 2) W0, Below w.heap.size w u.w := fun u => hb0.trans (u.below.mono (by omega))
  have x0 : ∀ u : Ext (w.heap.size + 2) W0, u.w.cell? ⟨w.heap.size, 0, none⟩ = some (.int .i64 n.id) := fun u => u.cell hl0 (hX.cell rfl)
  have x1 : ∀ u : Ext (w.heap.size + 2) W0, u.w.cell? ⟨w.heap.size, 1, none⟩ = some (.slice la n.labels.length lc) := fun u => u.cell hl0 (hX.cell rfl)
  have x2 : ∀ u : Ext (w.heap.size + 2) W0, u.w.cell? ⟨w.heap.size, 2, none⟩ = some (.slice ka n.keys.length kc) := fun u => u.cell hl0 (hX.cell rfl)
  have x3 : ∀ u : Ext (w.heap.size + 2) W0, u.w.cell? ⟨w.heap.size, 3, none⟩ = some (.slice va n.vals.length vc) := fun u => u.cell hl0 (hX.cell rfl)
  have y0 : ∀ u : Ext (w.heap.size + 2) W0, u.w.cell? ⟨w.heap.size + 1, 0, none⟩ = some (.int .i64 m.id) := fun u => u.cell hl1 (hY.cell rfl)
  have y1 : ∀ u : Ext (w.heap.size + 2) W0, u.w.cell? ⟨w.heap.size + 1, 1, none⟩ = some (.slice mla m.labels.length mlc) := fun u => u.cell hl1 (hY.cell rfl)
  have y2 : ∀ u : Ext (w.heap.size + 2) W0, u.w.cell? ⟨w.heap.size + 1, 2, none⟩ = some (.slice mka m.keys.length mkc) := fun u => u.cell hl1 (hY.cell rfl)
  have y3 : ∀ u : Ext (w.heap.size + 2) W0, u.w.cell? ⟨w.heap.size + 1, 3, none⟩ = some (.slice mva m.vals.length mvc) := fun u => u.cell hl1 (hY.cell rfl)
  have HSL := Lib.hid (fun u : Ext (w.heap.size + 2) W0 => ext_call u hsz (sameNames_any n.labels m.labels la mla lc mlc B u.w (hls.below (hbe u) hB) (hls2.below (hbe u) hB) (Nat.le_trans hB (hbe u).size) (by have := hlo.1; omega) (by have := hlo2.1; omega)))
  have HSK := Lib.hid (fun u : Ext (w.heap.size + 2) W0 => ext_call u hsz (sameNames_any n.keys m.keys ka mka kc mkc B u.w (hks.below (hbe u) hB) (hks2.below (hbe u) hB) (Nat.le_trans hB (hbe u).size) (by have := hko.1; omega) (by have := hko2.1; omega)))
  have HSV := Lib.hid (fun u : Ext (w.heap.size + 2) W0 => ext_call u hsz (sameList_all n.vals m.vals va mva vc mvc B u.w (hvs.below (hbe u) hB) (hvs2.below (hbe u) hB) (Nat.le_trans hB (hbe u).size) (by have := hvo.1; omega) (by have := hvo2.1; omega)))
  have HBE := Lib.hid hbe
  have HW0 := Lib.hid hw0
  obtain ⟨u0, hu0⟩ := Ext.start (w.heap.size + 2) W0
  have HU0 := Lib.hid hu0
  have HR : Hid (∀ r, sameN n m = r → ∀ (u : Ext (w.heap.size + 2) W0), Ending.returned (.bool r) = Ending.returned (.bool (sameN n m)) ∧ Below w.heap.size w u.w) := Lib.hid (fun r h u => ⟨by rw [h], hbe u⟩)
  obtain ⟨Q, hQ⟩ : ∃ Q : Ending → World → Prop, (fun e w' => e = .returned (.bool (sameN n m)) ∧ Below w.heap.size w w') = Q := ⟨_, rfl⟩
  have HQ : Hid (∀ r, sameN n m = r → ∀ (u : Ext (w.heap.size + 2) W0), Q (.returned (.bool r)) u.w) := Lib.hid (fun r h u => by rw [← hQ]; exact ⟨by rw [h], hbe u⟩)
  rw [hQ]
  clear hQ HR hX hY hsz hl0 hl1 hbe hw0 hb0 hu0 hid hid2 hko hko2 hvo hvo2 hks hks2 hvs hvs2 hlo hlo2 hls hls2
  unfold sameN at HQ
  generalize decide (n.labels = m.labels) = rlabels at *
  generalize decide (n.keys = m.keys) = rkeys at *
  generalize sameVs n.vals m.vals = rvals at *
  generalize n.labels.length = nlabels at *
  generalize m.labels.length = mlabels at *
  generalize n.keys.length = nkeys at *
  generalize m.keys.length = mkeys at *
  generalize n.vals.length = nvals at *
  generalize m.vals.length = mvals at *
  generalize n.id = aid at *
  generalize m.id = bid at *
  by_cases hne : aid = bid
  · subst hne
    cases rlabels with
    | false =>
      have HF := Lib.hid (fun u => HQ.out false (by simp) u)
      clear HQ
      go_enter Try.func39, Try.ntmps39
      go_wp2_with fail
      rw [HW0.out, HU0.out]
      go_wp2_with (first | (go_at_call 67; (first | (with_reducible refine (HSK.out _).mono ?_) | (with_reducible refine (HSL.out _).mono ?_)); rintro e w1 ⟨rfl, u1, rfl⟩) | (go_at_call 68; with_reducible refine (HSV.out _).mono ?_; rintro e w1 ⟨rfl, u1, rfl⟩))
      exact HF.out _
    | true =>
      cases rkeys with
      | false =>
        have HF := Lib.hid (fun u => HQ.out false (by simp) u)
        clear HQ
        go_enter Try.func39, Try.ntmps39
        go_wp2_with fail
        rw [HW0.out, HU0.out]
        go_wp2_with (first | (go_at_call 67; (first | (with_reducible refine (HSK.out _).mono ?_) | (with_reducible refine (HSL.out _).mono ?_)); rintro e w1 ⟨rfl, u1, rfl⟩) | (go_at_call 68; with_reducible refine (HSV.out _).mono ?_; rintro e w1 ⟨rfl, u1, rfl⟩))
        exact HF.out _
      | true =>
        cases rvals with
        | false =>
          have HF := Lib.hid (fun u => HQ.out false (by simp) u)
          clear HQ
          go_enter Try.func39, Try.ntmps39
          go_wp2_with fail
          rw [HW0.out, HU0.out]
          go_wp2_with (first | (go_at_call 67; (first | (with_reducible refine (HSK.out _).mono ?_) | (with_reducible refine (HSL.out _).mono ?_)); rintro e w1 ⟨rfl, u1, rfl⟩) | (go_at_call 68; with_reducible refine (HSV.out _).mono ?_; rintro e w1 ⟨rfl, u1, rfl⟩))
          exact HF.out _
        | true =>
          have HF := Lib.hid (fun u => HQ.out true (by simp) u)
          clear HQ
          go_enter Try.func39, Try.ntmps39
          go_wp2_with fail
          rw [HW0.out, HU0.out]
          go_wp2_with (first | (go_at_call 67; (first | (with_reducible refine (HSK.out _).mono ?_) | (with_reducible refine (HSL.out _).mono ?_)); rintro e w1 ⟨rfl, u1, rfl⟩) | (go_at_call 68; with_reducible refine (HSV.out _).mono ?_; rintro e w1 ⟨rfl, u1, rfl⟩))
          exact HF.out _
  · have HF := Lib.hid (fun u => HQ.out false (by simp [hne]) u)
    clear HQ
    have hne2 : (aid == bid) = false := by simpa using hne
    clear hne
    go_enter Try.func39, Try.ntmps39
    go_wp2_with fail
    rw [HW0.out, HU0.out]
    go_wp2_with (first | (go_at_call 67; (first | (with_reducible refine (HSK.out _).mono ?_) | (with_reducible refine (HSL.out _).mono ?_)); rintro e w1 ⟨rfl, u1, rfl⟩) | (go_at_call 68; with_reducible refine (HSV.out _).mono ?_; rintro e w1 ⟨rfl, u1, rfl⟩))
    exact HF.out _

set_option maxHeartbeats 8000000 in
theorem sameE_any (n m : Et) (cs ds : List Value) (B : Nat) (w : World) (hn : IsE B w cs n) (hm : IsE B w ds m) (hB : B ≤ w.heap.size) :
    Calls Try.prog 60 #[.agg cs.toArray, .agg ds.toArray] w fun e w' => e = .returned (.bool (sameE n m)) ∧ Below w.heap.size w w' := by
  obtain ⟨ka, kc, va, vc, rfl, hid, hko, hvo, hks, hvs⟩ := hn
  obtain ⟨mka, mkc, mva, mvc, rfl, hid2, hko2, hvo2, hks2, hvs2⟩ := hm
  show Calls Try.prog 60 #[.agg #[.int .i64 n.id, .int .i64 n.src, .int .i64 n.dst, .string n.ty, .slice ka n.keys.length kc, .slice va n.vals.length vc], .agg #[.int .i64 m.id, .int .i64 m.src, .int .i64 m.dst, .string m.ty, .slice mka m.keys.length mkc, .slice mva m.vals.length mvc]] w _
  obtain ⟨W0, hw0⟩ : ∃ w0, (w.alloc (.cells #[.int .i64 n.id, .int .i64 n.src, .int .i64 n.dst, .string n.ty, .slice ka n.keys.length kc, .slice va n.vals.length vc] 40)).alloc (.cells #[.int .i64 m.id, .int .i64 m.src, .int .i64 m.dst, .string m.ty, .slice mka m.keys.length mkc, .slice mva m.vals.length mvc] 40) = w0 := ⟨_, rfl⟩
  have hb0 : Below w.heap.size w W0 := by rw [← hw0]; exact ((Below.refl _ _).alloc (Nat.le_refl _) _).alloc (by simp) _
  have hX : Block W0 w.heap.size [.int .i64 n.id, .int .i64 n.src, .int .i64 n.dst, .string n.ty, .slice ka n.keys.length kc, .slice va n.vals.length vc] 40 := by rw [← hw0]; exact (Block.new w _ _).alloc _
  have hY : Block W0 (w.heap.size + 1) [.int .i64 m.id, .int .i64 m.src, .int .i64 m.dst, .string m.ty, .slice mka m.keys.length mkc, .slice mva m.vals.length mvc] 40 := by rw [← hw0]; have := Block.new (w.alloc (.cells #[.int .i64 n.id, .int .i64 n.src, .int .i64 n.dst, .string n.ty, .slice ka n.keys.length kc, .slice va n.vals.length vc] 40)) [.int .i64 m.id, .int .i64 m.src, .int .i64 m.dst, .string m.ty, .slice mka m.keys.length mkc, .slice mva m.vals.length mvc] 40; simpa using this
  have hsz : w.heap.size + 2 ≤ W0.heap.size := by rw [← hw0]; simp
  have hl0 : w.heap.size < w.heap.size + 2 := by omega
  have hl1 : w.heap.size + 1 < w.heap.size + 2 := by omega
  have hbe : ∀ u : Ext (w.heap.size + 2) W0, Below w.heap.size w u.w := fun u => hb0.trans (u.below.mono (by omega))
  have x0 : ∀ u : Ext (w.heap.size + 2) W0, u.w.cell? ⟨w.heap.size, 0, none⟩ = some (.int .i64 n.id) := fun u => u.cell hl0 (hX.cell rfl)
  have x1 : ∀ u : Ext (w.heap.size + 2) W0, u.w.cell? ⟨w.heap.size, 1, none⟩ = some (.int .i64 n.src) := fun u => u.cell hl0 (hX.cell rfl)
  have x2 : ∀ u : Ext (w.heap.size + 2) W0, u.w.cell? ⟨w.heap.size, 2, none⟩ = some (.int .i64 n.dst) := fun u => u.cell hl0 (hX.cell rfl)
  have x3 : ∀ u : Ext (w.heap.size + 2) W0, u.w.cell? ⟨w.heap.size, 3, none⟩ = some (.string n.ty) := fun u => u.cell hl0 (hX.cell rfl)
  have x4 : ∀ u : Ext (w.heap.size + 2) W0, u.w.cell? ⟨w.heap.size, 4, none⟩ = some (.slice ka n.keys.length kc) := fun u => u.cell hl0 (hX.cell rfl)
  have x5 : ∀ u : Ext (w.heap.size + 2) W0, u.w.cell? ⟨w.heap.size, 5, none⟩ = some (.slice va n.vals.length vc) := fun u => u.cell hl0 (hX.cell rfl)
  have y0 : ∀ u : Ext (w.heap.size + 2) W0, u.w.cell? ⟨w.heap.size + 1, 0, none⟩ = some (.int .i64 m.id) := fun u => u.cell hl1 (hY.cell rfl)
  have y1 : ∀ u : Ext (w.heap.size + 2) W0, u.w.cell? ⟨w.heap.size + 1, 1, none⟩ = some (.int .i64 m.src) := fun u => u.cell hl1 (hY.cell rfl)
  have y2 : ∀ u : Ext (w.heap.size + 2) W0, u.w.cell? ⟨w.heap.size + 1, 2, none⟩ = some (.int .i64 m.dst) := fun u => u.cell hl1 (hY.cell rfl)
  have y3 : ∀ u : Ext (w.heap.size + 2) W0, u.w.cell? ⟨w.heap.size + 1, 3, none⟩ = some (.string m.ty) := fun u => u.cell hl1 (hY.cell rfl)
  have y4 : ∀ u : Ext (w.heap.size + 2) W0, u.w.cell? ⟨w.heap.size + 1, 4, none⟩ = some (.slice mka m.keys.length mkc) := fun u => u.cell hl1 (hY.cell rfl)
  have y5 : ∀ u : Ext (w.heap.size + 2) W0, u.w.cell? ⟨w.heap.size + 1, 5, none⟩ = some (.slice mva m.vals.length mvc) := fun u => u.cell hl1 (hY.cell rfl)
  have HSK := Lib.hid (fun u : Ext (w.heap.size + 2) W0 => ext_call u hsz (sameNames_any n.keys m.keys ka mka kc mkc B u.w (hks.below (hbe u) hB) (hks2.below (hbe u) hB) (Nat.le_trans hB (hbe u).size) (by have := hko.1; omega) (by have := hko2.1; omega)))
  have HSV := Lib.hid (fun u : Ext (w.heap.size + 2) W0 => ext_call u hsz (sameList_all n.vals m.vals va mva vc mvc B u.w (hvs.below (hbe u) hB) (hvs2.below (hbe u) hB) (Nat.le_trans hB (hbe u).size) (by have := hvo.1; omega) (by have := hvo2.1; omega)))
  have HBE := Lib.hid hbe
  have HW0 := Lib.hid hw0
  obtain ⟨u0, hu0⟩ := Ext.start (w.heap.size + 2) W0
  have HU0 := Lib.hid hu0
  have HR : Hid (∀ r, sameE n m = r → ∀ (u : Ext (w.heap.size + 2) W0), Ending.returned (.bool r) = Ending.returned (.bool (sameE n m)) ∧ Below w.heap.size w u.w) := Lib.hid (fun r h u => ⟨by rw [h], hbe u⟩)
  obtain ⟨Q, hQ⟩ : ∃ Q : Ending → World → Prop, (fun e w' => e = .returned (.bool (sameE n m)) ∧ Below w.heap.size w w') = Q := ⟨_, rfl⟩
  have HQ : Hid (∀ r, sameE n m = r → ∀ (u : Ext (w.heap.size + 2) W0), Q (.returned (.bool r)) u.w) := Lib.hid (fun r h u => by rw [← hQ]; exact ⟨by rw [h], hbe u⟩)
  rw [hQ]
  clear hQ HR hX hY hsz hl0 hl1 hbe hw0 hb0 hu0 hid hid2 hko hko2 hvo hvo2 hks hks2 hvs hvs2
  unfold sameE at HQ
  generalize decide (n.keys = m.keys) = rkeys at *
  generalize sameVs n.vals m.vals = rvals at *
  generalize n.keys.length = nkeys at *
  generalize m.keys.length = mkeys at *
  generalize n.vals.length = nvals at *
  generalize m.vals.length = mvals at *
  generalize n.id = aid at *
  generalize m.id = bid at *
  generalize n.src = asrc at *
  generalize m.src = bsrc at *
  generalize n.dst = adst at *
  generalize m.dst = bdst at *
  generalize n.ty = aty at *
  generalize m.ty = bty at *
  by_cases hne : aid = bid
  · subst hne
    by_cases hne : asrc = bsrc
    · subst hne
      by_cases hne : adst = bdst
      · subst hne
        by_cases hne : aty = bty
        · subst hne
          cases rkeys with
          | false =>
            have HF := Lib.hid (fun u => HQ.out false (by simp) u)
            clear HQ
            go_enter Try.func60, Try.ntmps60
            go_wp2_with fail
            rw [HW0.out, HU0.out]
            go_wp2_with (first | (go_at_call 67; (first | (with_reducible refine (HSK.out _).mono ?_)); rintro e w1 ⟨rfl, u1, rfl⟩) | (go_at_call 68; with_reducible refine (HSV.out _).mono ?_; rintro e w1 ⟨rfl, u1, rfl⟩))
            exact HF.out _
          | true =>
            cases rvals with
            | false =>
              have HF := Lib.hid (fun u => HQ.out false (by simp) u)
              clear HQ
              go_enter Try.func60, Try.ntmps60
              go_wp2_with fail
              rw [HW0.out, HU0.out]
              go_wp2_with (first | (go_at_call 67; (first | (with_reducible refine (HSK.out _).mono ?_)); rintro e w1 ⟨rfl, u1, rfl⟩) | (go_at_call 68; with_reducible refine (HSV.out _).mono ?_; rintro e w1 ⟨rfl, u1, rfl⟩))
              exact HF.out _
            | true =>
              have HF := Lib.hid (fun u => HQ.out true (by simp) u)
              clear HQ
              go_enter Try.func60, Try.ntmps60
              go_wp2_with fail
              rw [HW0.out, HU0.out]
              go_wp2_with (first | (go_at_call 67; (first | (with_reducible refine (HSK.out _).mono ?_)); rintro e w1 ⟨rfl, u1, rfl⟩) | (go_at_call 68; with_reducible refine (HSV.out _).mono ?_; rintro e w1 ⟨rfl, u1, rfl⟩))
              exact HF.out _
        · have HF := Lib.hid (fun u => HQ.out false (by simp [hne]) u)
          clear HQ
          have hne2 : (aty.toList == bty.toList) = false := by rw [ba_beq]; simpa using hne
          have hne3 : ¬ aty.toList = bty.toList := by simpa using hne2
          clear hne
          go_enter Try.func60, Try.ntmps60
          go_wp2_with fail
          rw [HW0.out, HU0.out]
          go_wp2_with (first | (go_at_call 67; (first | (with_reducible refine (HSK.out _).mono ?_)); rintro e w1 ⟨rfl, u1, rfl⟩) | (go_at_call 68; with_reducible refine (HSV.out _).mono ?_; rintro e w1 ⟨rfl, u1, rfl⟩))
          exact HF.out _
      · have HF := Lib.hid (fun u => HQ.out false (by simp [hne]) u)
        clear HQ
        have hne2 : (adst == bdst) = false := by simpa using hne
        clear hne
        go_enter Try.func60, Try.ntmps60
        go_wp2_with fail
        rw [HW0.out, HU0.out]
        go_wp2_with (first | (go_at_call 67; (first | (with_reducible refine (HSK.out _).mono ?_)); rintro e w1 ⟨rfl, u1, rfl⟩) | (go_at_call 68; with_reducible refine (HSV.out _).mono ?_; rintro e w1 ⟨rfl, u1, rfl⟩))
        exact HF.out _
    · have HF := Lib.hid (fun u => HQ.out false (by simp [hne]) u)
      clear HQ
      have hne2 : (asrc == bsrc) = false := by simpa using hne
      clear hne
      go_enter Try.func60, Try.ntmps60
      go_wp2_with fail
      rw [HW0.out, HU0.out]
      go_wp2_with (first | (go_at_call 67; (first | (with_reducible refine (HSK.out _).mono ?_)); rintro e w1 ⟨rfl, u1, rfl⟩) | (go_at_call 68; with_reducible refine (HSV.out _).mono ?_; rintro e w1 ⟨rfl, u1, rfl⟩))
      exact HF.out _
  · have HF := Lib.hid (fun u => HQ.out false (by simp [hne]) u)
    clear HQ
    have hne2 : (aid == bid) = false := by simpa using hne
    clear hne
    go_enter Try.func60, Try.ntmps60
    go_wp2_with fail
    rw [HW0.out, HU0.out]
    go_wp2_with (first | (go_at_call 67; (first | (with_reducible refine (HSK.out _).mono ?_)); rintro e w1 ⟨rfl, u1, rfl⟩) | (go_at_call 68; with_reducible refine (HSV.out _).mono ?_; rintro e w1 ⟨rfl, u1, rfl⟩))
    exact HF.out _
end Go.Proofs.Ytoakloicjlfaaaa

/- Layer 14: whether two lists of edges, two graphs are the same: the reference's answer. Conditions: none. -/
namespace Go.Proofs.Ytoakloicjlfaaaa
open Go.RowKit
set_option linter.unusedSimpArgs false
set_option linter.unusedVariables false
set_option maxRecDepth 100000

theorem sameL_nil {α : Type} {f : α → α → Bool} {l m : List α} (h : l.length = m.length) : sameL f (l.drop l.length) (m.drop l.length) = true := by
  rw [List.drop_eq_nil_of_le (Nat.le_refl _), List.drop_eq_nil_of_le (by omega)]; rfl

set_option maxHeartbeats 8000000 in
theorem sameEdges_any (l m : List Et) (a b : Option Addr) (c d B : Nat) (w : World) (hl : RowR (IsE B w) 6 B w a l) (hm : RowR (IsE B w) 6 B w b m) (hB : B ≤ w.heap.size) (hll : l.length ≤ 9223372036854775807) (hml : m.length ≤ 9223372036854775807) :
    Calls Try.prog 28 #[.slice a l.length c, .slice b m.length d] w fun e w' => e = .returned (.bool (sameL sameE l m)) ∧ Below w.heap.size w w' := by
  obtain ⟨W0, hw0⟩ : ∃ w0, w = w0 := ⟨_, rfl⟩
  have hbe : ∀ u : Ext w.heap.size W0, Below w.heap.size w u.w := by subst hw0; exact fun u => u.below
  have hsz : w.heap.size ≤ W0.heap.size := by rw [← hw0]; exact Nat.le_refl _
  have HBE := Lib.hid hbe
  have HSZ := Lib.hid hsz
  have HL := Lib.hid hl
  have HM := Lib.hid hm
  obtain ⟨Q, hQ⟩ : ∃ Q : Ending → World → Prop, (fun e w' => e = .returned (.bool (sameL sameE l m)) ∧ Below w.heap.size w w') = Q := ⟨_, rfl⟩
  have HQ : Hid (∀ r, sameL sameE l m = r → ∀ (u : Ext w.heap.size W0), Q (.returned (.bool r)) u.w) := Lib.hid (fun r h u => by rw [← hQ]; exact ⟨by rw [h], hbe u⟩)
  rw [hQ]
  clear hQ
  obtain ⟨u0, hu0⟩ := Ext.start w.heap.size W0
  have HU0 := Lib.hid (hw0.trans hu0)
  obtain ⟨n1, hn1⟩ : ∃ n, l.length = n := ⟨_, rfl⟩
  obtain ⟨n2, hn2⟩ : ∃ n, m.length = n := ⟨_, rfl⟩
  rw [hn1, hn2]
  rw [hn1] at hll
  rw [hn2] at hml
  by_cases hne : n1 = n2
  · have HLEN : Hid (l.length = n1 ∧ m.length = n1) := Lib.hid ⟨hn1, hn2.trans hne.symm⟩
    clear hl hm hbe hsz hw0 hu0 hml
    rw [← hne]
    clear hne hn2 hn1 n2
    go_enter Try.func28, Try.ntmps28
    go_wp2_with fail
    rw [HU0.out]
    go_loopw [5] (fun iv wr => ∃ (j : Nat) (u : Ext w.heap.size W0), iv = .int .i64 j ∧ j ≤ n1 ∧ Hid (sameL sameE l m = sameL sameE (l.drop j) (m.drop j)) ∧ wr = u.w) (fun iv _ => n1 - (intOf iv).toNat)
    case atStart => exact ⟨0, u0, rfl, Nat.zero_le _, Lib.hid rfl, rfl⟩
    case round =>
      obtain ⟨j, u, rfl, hj, HST, rfl⟩ := hrel
      by_cases hlt : j < n1
      · have hlt' : (j : Int) < n1 := by omega
        have hj0 : (0 : Int) ≤ (j : Int) := by omega
        have hwi : IntKind.i64.wrap ((j : Int) + 1) = (j : Int) + 1 := IntWalk.i64_in _ (by omega)
        obtain ⟨n, hnj⟩ : ∃ n, l[j]? = some n := by have := HLEN.out; obtain ⟨n, h⟩ := get_some (l := l) (j := j) (by omega); exact ⟨n, h⟩
        obtain ⟨m1, hmj⟩ : ∃ n, m[j]? = some n := by have := HLEN.out; obtain ⟨n, h⟩ := get_some (l := m) (j := j) (by omega); exact ⟨n, h⟩
        obtain ⟨b, off, cs, rfl, hbB, _, hc, hcell⟩ := HL.out.ext HBE.out hB hnj
        obtain ⟨b2, off2, cs2, rfl, hbB2, _, hc2, hcell2⟩ := HM.out.ext HBE.out hB hmj
        have HCS := Lib.hid (fun u : Ext w.heap.size W0 => ext_call u HSZ.out (sameE_any n m1 cs cs2 B u.w (hc.below (HBE.out u) hB) (hc2.below (HBE.out u) hB) (Nat.le_trans hB (HBE.out u).size)))
        have hst := sameL_at (f := sameE) hnj hmj
        obtain ⟨ka, kc, va, vc, rfl, -, -⟩ := hc
        obtain ⟨mka, mkc, mva, mvc, rfl, -, -⟩ := hc2
        have k0 : ∀ u : Ext w.heap.size W0, u.w.cell? ⟨b, off + j * 6, none⟩ = some (.int .i64 n.id) := fun u => hcell u 0 _ rfl
        have q0 : ∀ u : Ext w.heap.size W0, u.w.cell? ⟨b2, off2 + j * 6, none⟩ = some (.int .i64 m1.id) := fun u => hcell2 u 0 _ rfl
        have k1 := fun u => hcell u 1 _ rfl
        have q1 := fun u => hcell2 u 1 _ rfl
        have k2 := fun u => hcell u 2 _ rfl
        have q2 := fun u => hcell2 u 2 _ rfl
        have k3 := fun u => hcell u 3 _ rfl
        have q3 := fun u => hcell2 u 3 _ rfl
        have k4 := fun u => hcell u 4 _ rfl
        have q4 := fun u => hcell2 u 4 _ rfl
        have k5 := fun u => hcell u 5 _ rfl
        have q5 := fun u => hcell2 u 5 _ rfl
        clear hcell hcell2 hnj hmj
        cases hok : sameE n m1 with
        | false =>
          rw [hok] at HCS hst
          have HF := Lib.hid (HST.out.trans (hst.trans (Bool.false_and _)))
          clear hok hst
          generalize n.keys.length = nkeys at *
          generalize n.vals.length = nvals at *
          generalize m1.keys.length = mkeys at *
          generalize m1.vals.length = mvals at *
          generalize n.id = i0 at *
          generalize m1.id = i1 at *
          generalize n.src = a0 at *
          generalize m1.src = a1 at *
          generalize n.dst = d0 at *
          generalize m1.dst = d1 at *
          generalize n.ty = t0 at *
          generalize m1.ty = t1 at *
          go_wp2_with fail
          refine wp_region_at u (by kernel_rfl) (by kernel_rfl) ?_
          repeat (go_big_quiet_step (first | (with_reducible exact HCS.out _)))
          refine wpQuiet_nil ?_
          rintro w2 ⟨u2, rfl⟩
          go_wp2_with fail
          exact HQ.out _ (HF.out) u2
        | true =>
          rw [hok] at HCS hst
          have HF := Lib.hid (HST.out.trans (hst.trans (Bool.true_and _)))
          clear hok hst
          generalize n.keys.length = nkeys at *
          generalize n.vals.length = nvals at *
          generalize m1.keys.length = mkeys at *
          generalize m1.vals.length = mvals at *
          generalize n.id = i0 at *
          generalize m1.id = i1 at *
          generalize n.src = a0 at *
          generalize m1.src = a1 at *
          generalize n.dst = d0 at *
          generalize m1.dst = d1 at *
          generalize n.ty = t0 at *
          generalize m1.ty = t1 at *
          go_wp2_with fail
          refine wp_region_at u (by kernel_rfl) (by kernel_rfl) ?_
          repeat (go_big_quiet_step (first | (with_reducible exact HCS.out _)))
          refine wpQuiet_nil ?_
          rintro w2 ⟨u2, rfl⟩
          go_wp2_with fail
          go_roundw
          case rel => exact ⟨j + 1, u2, by go_num, by omega, HF, rfl⟩
          case measure => simp [intOf]; omega
      · have hlt' : ¬ (j : Int) < n1 := by omega
        have hjn : j = n1 := by omega
        have HF : Hid (sameL sameE l m = true) := Lib.hid (by have h1 := HST.out; have h2 := HLEN.out; rw [h1, hjn, ← h2.1]; exact sameL_nil (h2.1.trans h2.2.symm))
        clear hjn
        go_wp2_with fail
        exact HQ.out _ HF.out u
  · have hne' : ((n1 : Int) == (n2 : Int)) = false := by simp; omega
    have hne2 : ¬ (n1 : Int) = (n2 : Int) := by omega
    have hne3 : ((n1 : Int) != (n2 : Int)) = true := by simp; omega
    have HF : Hid (sameL sameE l m = false) := Lib.hid (sameL_len (by omega))
    clear hl hm hbe hsz hw0 hu0 hne hn1 hn2
    go_enter Try.func28, Try.ntmps28
    go_wp2_with fail
    rw [HU0.out]
    exact HQ.out _ HF.out u0

set_option maxHeartbeats 8000000 in
theorem sameG_any (g h : Gt) (cs ds : List Value) (B : Nat) (w : World) (hg : IsG B w cs g) (hh : IsG B w ds h) (hB : B ≤ w.heap.size) :
    Calls Try.prog 10 #[.agg cs.toArray, .agg ds.toArray] w fun e w' => e = .returned (.bool (sameG g h)) ∧ Below w.heap.size w w' := by
  obtain ⟨na, nc, ea, ec, rfl, hn, he, hN, hE⟩ := hg
  obtain ⟨mna, mnc, mea, mec, rfl, hn2, he2, hN2, hE2⟩ := hh
  show Calls Try.prog 10 #[.agg #[.slice na g.nodes.length nc, .slice ea g.edges.length ec], .agg #[.slice mna h.nodes.length mnc, .slice mea h.edges.length mec]] w _
  obtain ⟨W0, hw0⟩ : ∃ w0, (w.alloc (.cells #[.slice na g.nodes.length nc, .slice ea g.edges.length ec] 25)).alloc (.cells #[.slice mna h.nodes.length mnc, .slice mea h.edges.length mec] 25) = w0 := ⟨_, rfl⟩
  have hb0 : Below w.heap.size w W0 := by rw [← hw0]; exact ((Below.refl _ _).alloc (Nat.le_refl _) _).alloc (by simp) _
  have hX : Block W0 w.heap.size [.slice na g.nodes.length nc, .slice ea g.edges.length ec] 25 := by rw [← hw0]; exact (Block.new w _ _).alloc _
  have hY : Block W0 (w.heap.size + 1) [.slice mna h.nodes.length mnc, .slice mea h.edges.length mec] 25 := by rw [← hw0]; have := Block.new (w.alloc (.cells #[.slice na g.nodes.length nc, .slice ea g.edges.length ec] 25)) [.slice mna h.nodes.length mnc, .slice mea h.edges.length mec] 25; simpa using this
  have hsz : w.heap.size + 2 ≤ W0.heap.size := by rw [← hw0]; simp
  have hl0 : w.heap.size < w.heap.size + 2 := by omega
  have hl1 : w.heap.size + 1 < w.heap.size + 2 := by omega
  have hbe : ∀ u : Ext (w.heap.size + 2) W0, Below w.heap.size w u.w := fun u => hb0.trans (u.below.mono (by omega))
  have x0 : ∀ u : Ext (w.heap.size + 2) W0, u.w.cell? ⟨w.heap.size, 0, none⟩ = some (.slice na g.nodes.length nc) := fun u => u.cell hl0 (hX.cell rfl)
  have x1 : ∀ u : Ext (w.heap.size + 2) W0, u.w.cell? ⟨w.heap.size, 1, none⟩ = some (.slice ea g.edges.length ec) := fun u => u.cell hl0 (hX.cell rfl)
  have y0 : ∀ u : Ext (w.heap.size + 2) W0, u.w.cell? ⟨w.heap.size + 1, 0, none⟩ = some (.slice mna h.nodes.length mnc) := fun u => u.cell hl1 (hY.cell rfl)
  have y1 : ∀ u : Ext (w.heap.size + 2) W0, u.w.cell? ⟨w.heap.size + 1, 1, none⟩ = some (.slice mea h.edges.length mec) := fun u => u.cell hl1 (hY.cell rfl)
  have HSE := Lib.hid (fun u : Ext (w.heap.size + 2) W0 => ext_call u hsz (sameEdges_any g.edges h.edges ea mea ec mec B u.w (hE.below (hbe u) hB (fun _ _ h => h.below (hbe u) hB)) (hE2.below (hbe u) hB (fun _ _ h => h.below (hbe u) hB)) (Nat.le_trans hB (hbe u).size) (by have := he.1; omega) (by have := he2.1; omega)))
  have HBE := Lib.hid hbe
  have HSZ := Lib.hid hsz
  have HL := Lib.hid hN
  have HM := Lib.hid hN2
  obtain ⟨Q, hQ⟩ : ∃ Q : Ending → World → Prop, (fun e w' => e = .returned (.bool (sameG g h)) ∧ Below w.heap.size w w') = Q := ⟨_, rfl⟩
  have HQ : Hid (∀ r, sameG g h = r → ∀ (u : Ext (w.heap.size + 2) W0), Q (.returned (.bool r)) u.w) := Lib.hid (fun r h u => by rw [← hQ]; exact ⟨by rw [h], hbe u⟩)
  rw [hQ]
  clear hQ
  have HW0 := Lib.hid hw0
  obtain ⟨u0, hu0⟩ := Ext.start (w.heap.size + 2) W0
  have HU0 := Lib.hid hu0
  have hll : g.nodes.length ≤ 9223372036854775807 := by have := hn.1; omega
  have hml : h.nodes.length ≤ 9223372036854775807 := by have := hn2.1; omega
  clear hX hY hsz hl0 hl1 hbe hw0 hb0 hu0 hE hE2 hN hN2 hn hn2 he he2
  generalize hrE : sameL sameE g.edges h.edges = rE at *
  have HRE := Lib.hid hrE
  clear hrE
  generalize g.edges.length = e1 at *
  generalize h.edges.length = e2 at *
  obtain ⟨n1, hn1⟩ : ∃ n, g.nodes.length = n := ⟨_, rfl⟩
  obtain ⟨n2, hn2⟩ : ∃ n, h.nodes.length = n := ⟨_, rfl⟩
  rw [hn1] at hll x0 HW0 ⊢
  rw [hn2] at hml y0 HW0 ⊢
  by_cases hne : n1 = n2
  · have HLEN : Hid (g.nodes.length = n1 ∧ h.nodes.length = n1) := Lib.hid ⟨hn1, hn2.trans hne.symm⟩
    subst hne
    clear hn2 hn1 hml
    go_enter Try.func10, Try.ntmps10
    go_wp2_with fail
    rw [HW0.out, HU0.out]
    go_wp2_with fail
    go_loopw [5] (fun iv wr => ∃ (j : Nat) (u : Ext (w.heap.size + 2) W0), iv = .int .i64 j ∧ j ≤ n1 ∧ Hid (sameL sameN g.nodes h.nodes = sameL sameN (g.nodes.drop j) (h.nodes.drop j)) ∧ wr = u.w) (fun iv _ => n1 - (intOf iv).toNat)
    case atStart => exact ⟨0, u0, rfl, Nat.zero_le _, Lib.hid rfl, rfl⟩
    case round =>
      obtain ⟨j, u, rfl, hj, HST, rfl⟩ := hrel
      by_cases hlt : j < n1
      · have hlt' : (j : Int) < n1 := by omega
        have hj0 : (0 : Int) ≤ (j : Int) := by omega
        have hwi : IntKind.i64.wrap ((j : Int) + 1) = (j : Int) + 1 := IntWalk.i64_in _ (by omega)
        obtain ⟨n, hnj⟩ : ∃ n, g.nodes[j]? = some n := by have := HLEN.out; obtain ⟨n, h⟩ := get_some (l := g.nodes) (j := j) (by omega); exact ⟨n, h⟩
        obtain ⟨m1, hmj⟩ : ∃ n, h.nodes[j]? = some n := by have := HLEN.out; obtain ⟨n, h⟩ := get_some (l := h.nodes) (j := j) (by omega); exact ⟨n, h⟩
        obtain ⟨b, off, cs, rfl, hbB, _, hc, hcell⟩ := HL.out.ext HBE.out hB hnj
        obtain ⟨b2, off2, cs2, rfl, hbB2, _, hc2, hcell2⟩ := HM.out.ext HBE.out hB hmj
        have HCS := Lib.hid (fun u : Ext (w.heap.size + 2) W0 => ext_call u HSZ.out (sameN_any n m1 cs cs2 B u.w (hc.below (HBE.out u) hB) (hc2.below (HBE.out u) hB) (Nat.le_trans hB (HBE.out u).size)))
        have hst := sameL_at (f := sameN) hnj hmj
        obtain ⟨la, lc, ka, kc, va, vc, rfl, -, -, -, -⟩ := hc
        obtain ⟨mla, mlc, mka, mkc, mva, mvc, rfl, -, -, -, -⟩ := hc2
        have k0 : ∀ u : Ext (w.heap.size + 2) W0, u.w.cell? ⟨b, off + j * 4, none⟩ = some (.int .i64 n.id) := fun u => hcell u 0 _ rfl
        have q0 : ∀ u : Ext (w.heap.size + 2) W0, u.w.cell? ⟨b2, off2 + j * 4, none⟩ = some (.int .i64 m1.id) := fun u => hcell2 u 0 _ rfl
        have k1 := fun u => hcell u 1 _ rfl
        have q1 := fun u => hcell2 u 1 _ rfl
        have k2 := fun u => hcell u 2 _ rfl
        have q2 := fun u => hcell2 u 2 _ rfl
        have k3 := fun u => hcell u 3 _ rfl
        have q3 := fun u => hcell2 u 3 _ rfl
        clear hcell hcell2 hnj hmj
        cases hok : sameN n m1 with
        | false =>
          rw [hok] at HCS hst
          have HF := Lib.hid (HST.out.trans (hst.trans (Bool.false_and _)))
          clear hok hst
          generalize n.labels.length = nlabels at *
          generalize n.keys.length = nkeys at *
          generalize n.vals.length = nvals at *
          generalize m1.labels.length = mlabels at *
          generalize m1.keys.length = mkeys at *
          generalize m1.vals.length = mvals at *
          generalize n.id = i0 at *
          generalize m1.id = i1 at *
          go_wp2_with fail
          refine wp_region_at u (by kernel_rfl) (by kernel_rfl) ?_
          repeat (go_big_quiet_step (first | (with_reducible exact HCS.out _)))
          refine wpQuiet_nil ?_
          rintro w2 ⟨u2, rfl⟩
          go_wp2_with fail
          exact HQ.out _ (by unfold sameG; rw [HF.out]; rfl) u2
        | true =>
          rw [hok] at HCS hst
          have HF := Lib.hid (HST.out.trans (hst.trans (Bool.true_and _)))
          clear hok hst
          generalize n.labels.length = nlabels at *
          generalize n.keys.length = nkeys at *
          generalize n.vals.length = nvals at *
          generalize m1.labels.length = mlabels at *
          generalize m1.keys.length = mkeys at *
          generalize m1.vals.length = mvals at *
          generalize n.id = i0 at *
          generalize m1.id = i1 at *
          go_wp2_with fail
          refine wp_region_at u (by kernel_rfl) (by kernel_rfl) ?_
          repeat (go_big_quiet_step (first | (with_reducible exact HCS.out _)))
          refine wpQuiet_nil ?_
          rintro w2 ⟨u2, rfl⟩
          go_wp2_with fail
          go_roundw
          case rel => exact ⟨j + 1, u2, by go_num, by omega, HF, rfl⟩
          case measure => simp [intOf]; omega
      · have hlt' : ¬ (j : Int) < n1 := by omega
        have hjn : j = n1 := by omega
        have HF : Hid (sameL sameN g.nodes h.nodes = true) := Lib.hid (by have h1 := HST.out; have h2 := HLEN.out; rw [h1, hjn, ← h2.1]; exact sameL_nil (h2.1.trans h2.2.symm))
        clear hjn
        go_wp2_with fail
        refine (HSE.out u).mono ?_
        rintro e w2 ⟨rfl, u2, rfl⟩
        go_wp2_with fail
        exact HQ.out _ (by unfold sameG; rw [HF.out, HRE.out]; rfl) u2
  · have hne' : ((n1 : Int) == (n2 : Int)) = false := by simp; omega
    have hne2 : ¬ (n1 : Int) = (n2 : Int) := by omega
    have hne3 : ((n1 : Int) != (n2 : Int)) = true := by simp; omega
    have HF : Hid (sameG g h = false) := Lib.hid (by unfold sameG; rw [sameL_len (f := sameN) (by omega)]; rfl)
    clear hne hn1 hn2
    go_enter Try.func10, Try.ntmps10
    go_wp2_with fail
    rw [HW0.out, HU0.out]
    go_wp2_with fail
    exact HQ.out _ HF.out u0
end Go.Proofs.Ytoakloicjlfaaaa

/- Layer 14, in plain words: a node that is put and dropped again, an edge that is joined and cut again, leave the graph as it was. Conditions: the graph may be. -/
namespace Go.Proofs.Ytoakloicjlfaaaa
open Go.RowKit
set_option linter.unusedSimpArgs false
set_option linter.unusedVariables false

theorem rise_step {l : List Int} (h : ∀ (m : Nat) x y, l[m]? = some x → l[m + 1]? = some y → x < y) : RiseI l := by
  have key : ∀ (d i : Nat) x y, l[i]? = some x → l[i + d + 1]? = some y → x < y := by
    intro d
    induction d with
    | zero => exact fun i x y hx hy => h i x y hx hy
    | succ d ih =>
      intro i x y hx hy
      have hlt : i + (d + 1) + 1 < l.length := (List.getElem?_eq_some_iff.1 hy).1
      obtain ⟨z, hz⟩ := get_some (l := l) (j := i + d + 1) (by omega)
      have h1 := ih i x z hx hz
      have h2 := h (i + d + 1) z y hz (by rw [show i + d + 1 + 1 = i + (d + 1) + 1 from by omega]; exact hy)
      omega
  intro i j x y hij hx hy
  exact key (j - i - 1) i x y hx (by rw [show i + (j - i - 1) + 1 = j from by omega]; exact hy)
structure MayG (g : Gt) : Prop where
  nodes : ∀ (j : Nat) n, g.nodes[j]? = some n → mayN n = true
  edges : ∀ (j : Nat) n, g.edges[j]? = some n → mayE n = true
  riseN : RiseI (idsN g)
  riseE : RiseI (idsE g)
  ends : ∀ (j : Nat) e, g.edges[j]? = some e → hasI (idsN g) e.src = true ∧ hasI (idsN g) e.dst = true
  lenN : g.nodes.length ≤ 4096
  lenE : g.edges.length ≤ 4096
theorem MayG.of {g : Gt} (h : mayG g = true) : MayG g := by
  unfold mayG at h
  simp only [Bool.and_eq_true, decide_eq_true_eq] at h
  obtain ⟨⟨⟨h1, h2⟩, h3⟩, h4⟩ := h
  have hn : ∀ (j : Nat) n, g.nodes[j]? = some n → nodeOk g.nodes j = true := fun j n hj => allB_at h1 (List.getElem?_eq_some_iff.1 hj).1
  have he : ∀ (j : Nat) n, g.edges[j]? = some n → ordE g.edges j = true ∧ endsE g j = true := fun j n hj => by
    have := allB_at h2 (i := j) (List.getElem?_eq_some_iff.1 hj).1
    unfold edgeOk at this
    simpa [Bool.and_eq_true] using this
  have hmn : ∀ (j : Nat) n, g.nodes[j]? = some n → mayN n = true := fun j n hj => by
    cases hm : mayN n with
    | true => rfl
    | false => have := hn j n hj; rw [nodeOk_no hj hm] at this; cases this
  have hme : ∀ (j : Nat) n, g.edges[j]? = some n → mayE n = true := fun j n hj => by
    cases hm : mayE n with
    | true => rfl
    | false => have := (he j n hj).1; rw [ordE_no hj hm] at this; cases this
  have hrn : RiseI (idsN g) := rise_step fun m x y hx hy => by
    unfold idsN at hx hy
    rw [List.getElem?_map] at hx hy
    obtain ⟨p, hp, rfl⟩ := Option.map_eq_some_iff.1 hx
    obtain ⟨n, hn', rfl⟩ := Option.map_eq_some_iff.1 hy
    have := hn _ _ hn'
    rw [nodeOk_succ hn' hp (hmn _ _ hn')] at this
    exact of_decide_eq_true this
  have hre : RiseI (idsE g) := rise_step fun m x y hx hy => by
    unfold idsE at hx hy
    rw [List.getElem?_map] at hx hy
    obtain ⟨p, hp, rfl⟩ := Option.map_eq_some_iff.1 hx
    obtain ⟨n, hn', rfl⟩ := Option.map_eq_some_iff.1 hy
    have := (he _ _ hn').1
    rw [ordE_succ hn' hp (hme _ _ hn')] at this
    exact of_decide_eq_true this
  refine ⟨hmn, hme, hrn, hre, fun j e hj => ?_, h3, h4⟩
  have := (he j e hj).2
  unfold endsE at this
  rw [hj] at this
  simp only [Bool.and_eq_true, decide_eq_true_eq] at this
  exact ⟨by rw [(hasI_idx hrn e.src).1]; exact decide_eq_true this.1, by rw [(hasI_idx hrn e.dst).1]; exact decide_eq_true this.2⟩
theorem posI_spec {l : List Int} (hr : RiseI l) (id : Int) : (∀ (i : Nat) x, i < posI l id → l[i]? = some x → x < id) ∧ ∀ (i : Nat) x, posI l id ≤ i → l[i]? = some x → ¬ x < id := by
  have h1 : ∀ (i : Nat) x, i < posI l id → l[i]? = some x → x < id := fun i x hi hx => by
    unfold posI at hi
    clear hr
    induction l generalizing i with
    | nil => simp at hx
    | cons a l ih =>
      rw [List.takeWhile_cons] at hi
      split at hi
      · next ha =>
        cases i with
        | zero => simp at hx; subst hx; simpa using ha
        | succ i => exact ih i (by simpa using hi) (by simpa using hx)
      · simp at hi
  have h2 : ∀ x, l[posI l id]? = some x → ¬ x < id := fun x hx => by
    unfold posI at hx
    clear hr h1
    induction l with
    | nil => simp at hx
    | cons a l ih =>
      rw [List.takeWhile_cons] at hx
      split at hx
      · exact ih (by simpa using hx)
      · next ha => simp at hx; subst hx; simpa using ha
  refine ⟨h1, fun i x hi hx => ?_⟩
  rcases Nat.lt_or_ge (posI l id) i with h | h
  · obtain ⟨y, hy⟩ := get_some (l := l) (j := posI l id) (by have := (List.getElem?_eq_some_iff.1 hx).1; omega)
    have h3 := h2 y hy
    have h4 := hr _ _ _ _ h hy hx
    omega
  · rw [show i = posI l id from by omega] at hx
    exact h2 x hx
/-- A list of numbers with one more. -/
theorem ins_rise {l : List Int} {id : Int} (hr : RiseI l) (hno : hasI l id = false) : RiseI (setL l (posI l id) false id) ∧ posI (setL l (posI l id) false id) id = posI l id ∧ hasI (setL l (posI l id) false id) id = true := by
  obtain ⟨h1, h2⟩ := posI_spec hr id
  have hne : ∀ (i : Nat) x, l[i]? = some x → x ≠ id := fun i x hx e => by
    subst e
    have hp : posI l x = i := posI_eq (Nat.le_of_lt (List.getElem?_eq_some_iff.1 hx).1) (fun k z hk hz => hr k i z x hk hz hx) (fun z hz => by rw [hx] at hz; injection hz with hz; omega)
    unfold hasI at hno
    rw [hp] at hno
    exact of_decide_eq_false hno hx
  have hp := posI_le l id
  obtain ⟨p, hpe⟩ : ∃ p, posI l id = p := ⟨_, rfl⟩
  rw [hpe] at h1 h2 hp ⊢
  have hg : ∀ (i : Nat) x, (setL l p false id)[i]? = some x → (i < p ∧ l[i]? = some x) ∨ (i = p ∧ x = id) ∨ (p < i ∧ l[i - 1]? = some x) := fun i x hx => by
    have hx : (l.take p ++ (id :: l.drop p))[i]? = some x := hx
    have ht : (l.take p).length = p := by rw [List.length_take]; omega
    rcases Nat.lt_or_ge i p with h | h
    · rw [List.getElem?_append_left (by omega), List.getElem?_take_of_lt h] at hx
      exact .inl ⟨h, hx⟩
    · rw [List.getElem?_append_right (by omega), ht] at hx
      rcases Nat.eq_or_lt_of_le h with h | h
      · subst h; simp at hx; exact .inr (.inl ⟨rfl, hx.symm⟩)
      · obtain ⟨k, hk⟩ : ∃ k, i - p = k + 1 := ⟨i - p - 1, by omega⟩
        rw [hk, List.getElem?_cons_succ, List.getElem?_drop] at hx
        exact .inr (.inr ⟨h, by rw [show i - 1 = p + k from by omega]; exact hx⟩)
  have hat : (setL l p false id)[p]? = some id := by
    show (l.take p ++ (id :: l.drop p))[p]? = some id
    have ht : (l.take p).length = p := by rw [List.length_take]; omega
    rw [List.getElem?_append_right (by omega), ht, Nat.sub_self]
    rfl
  have hrise : RiseI (setL l p false id) := by
    intro i j x y hij hx hy
    rcases hg i x hx with ⟨a1, a2⟩ | ⟨a1, a2⟩ | ⟨a1, a2⟩ <;> rcases hg j y hy with ⟨b1, b2⟩ | ⟨b1, b2⟩ | ⟨b1, b2⟩ <;> try omega
    · exact hr i j x y hij a2 b2
    · rw [b2]; exact h1 i x a1 a2
    · exact hr i (j - 1) x y (by omega) a2 b2
    · have h3 := h2 (j - 1) y (by omega) b2
      have h4 := hne (j - 1) y b2
      omega
    · exact hr (i - 1) (j - 1) x y (by omega) a2 b2
  have hpos : posI (setL l p false id) id = p := posI_eq (by have := (List.getElem?_eq_some_iff.1 hat).1; omega) (fun i x hi hx => by
    rcases hg i x hx with ⟨a1, a2⟩ | ⟨a1, a2⟩ | ⟨a1, a2⟩
    · exact h1 i x a1 a2
    · omega
    · omega) (fun x hx => by rw [hat] at hx; injection hx with hx; omega)
  exact ⟨hrise, hpos, by unfold hasI; rw [hpos]; exact decide_eq_true hat⟩
theorem setL_map {α β : Type} (f : α → β) (l : List α) (p : Nat) (x : α) : (setL l p false x).map f = setL (l.map f) p false (f x) := by
  show (l.take p ++ (x :: l.drop p)).map f = (l.map f).take p ++ (f x :: (l.map f).drop p)
  rw [List.map_append, List.map_cons, List.map_take, List.map_drop]
theorem setL_away {α : Type} {l : List α} {p : Nat} {x : α} (hp : p ≤ l.length) : (setL l p false x).take p ++ (setL l p false x).drop (p + 1) = l := by
  show (l.take p ++ (x :: l.drop p)).take p ++ (l.take p ++ (x :: l.drop p)).drop (p + 1) = l
  have ht : (l.take p).length = p := by rw [List.length_take]; omega
  rw [List.take_append_of_le_length (by omega), List.take_of_length_le (by omega), List.drop_append, ht, List.drop_eq_nil_of_le (by omega), List.nil_append, show p + 1 - p = 1 from by omega]
  exact List.take_append_drop p l
theorem put_drop {g : Gt} {n : Nt} (h : MayG g) (hno : hasI (idsN g) n.id = false) (hsm : g.nodes.length < 60) (hm : mayN n = true) :
    putG g n = (0, ⟨setL g.nodes (posI (idsN g) n.id) false n, g.edges⟩) ∧ RiseI (idsN ⟨setL g.nodes (posI (idsN g) n.id) false n, g.edges⟩) ∧ dropG ⟨setL g.nodes (posI (idsN g) n.id) false n, g.edges⟩ n.id = (0, g) := by
  have hids : idsN ⟨setL g.nodes (posI (idsN g) n.id) false n, g.edges⟩ = setL (idsN g) (posI (idsN g) n.id) false n.id := setL_map _ _ _ _
  obtain ⟨r1, r2, r3⟩ := ins_rise h.riseN hno
  have hil : (idsN g).length = g.nodes.length := by unfold idsN; simp
  refine ⟨?_, by rw [hids]; exact r1, ?_⟩
  · unfold putG
    rw [if_neg (by rw [hm]; simp), if_neg (fun h => by omega), hno]
  · have har : (aroundG ⟨setL g.nodes (posI (idsN g) n.id) false n, g.edges⟩ n.id 2 ⟨#[]⟩).isEmpty = true := by
      unfold aroundG
      rw [List.isEmpty_iff, List.filter_eq_nil_iff]
      intro e he
      obtain ⟨j, hj⟩ := List.getElem?_of_mem he
      obtain ⟨e1, e2⟩ := h.ends j e hj
      unfold atE
      have h1 : e.src ≠ n.id := fun h => by rw [h, hno] at e1; cases e1
      have h2 : e.dst ≠ n.id := fun h => by rw [h, hno] at e2; cases e2
      simp [h1, h2]
    unfold dropG
    rw [hids, r2, r3, if_neg (by simp), if_neg (by rw [har]; simp)]
    show (0, (⟨(setL g.nodes (posI (idsN g) n.id) false n).take (posI (idsN g) n.id) ++ (setL g.nodes (posI (idsN g) n.id) false n).drop (posI (idsN g) n.id + 1), g.edges⟩ : Gt)) = (0, g)
    rw [setL_away (by have := posI_le (idsN g) n.id; omega)]
theorem put_no {g : Gt} {n : Nt} (hm : mayN n = false) : putG g n = (20, noG) := by
  unfold putG
  rw [if_pos hm]
theorem join_cut {g : Gt} {n : Et} (h : MayG g) (hno : hasI (idsE g) n.id = false) (hsm : g.edges.length < 60) :
    (∃ c, c ≠ 0 ∧ joinG g n = (c, noG)) ∨ (joinG g n = (0, ⟨g.nodes, setL g.edges (posI (idsE g) n.id) false n⟩) ∧ RiseI (idsE ⟨g.nodes, setL g.edges (posI (idsE g) n.id) false n⟩) ∧ cutG ⟨g.nodes, setL g.edges (posI (idsE g) n.id) false n⟩ n.id = (0, g)) := by
  have hids : idsE ⟨g.nodes, setL g.edges (posI (idsE g) n.id) false n⟩ = setL (idsE g) (posI (idsE g) n.id) false n.id := setL_map _ _ _ _
  obtain ⟨r1, r2, r3⟩ := ins_rise h.riseE hno
  have hil : (idsE g).length = g.edges.length := by unfold idsE; simp
  by_cases c1 : mayE n = false
  · exact .inl ⟨20, by omega, by unfold joinG; rw [if_pos c1]⟩
  by_cases c2 : hasI (idsN g) n.src = false ∨ hasI (idsN g) n.dst = false
  · exact .inl ⟨23, by omega, by unfold joinG; rw [if_neg c1, if_pos c2]⟩
  refine .inr ⟨?_, by rw [hids]; exact r1, ?_⟩
  · unfold joinG
    rw [if_neg c1, if_neg c2, if_neg (fun h => by rw [hno] at h; cases h.1), if_neg (fun h => by omega), hno]
  · unfold cutG
    rw [hids, r2, r3, if_neg (by simp)]
    show (0, (⟨g.nodes, (setL g.edges (posI (idsE g) n.id) false n).take (posI (idsE g) n.id) ++ (setL g.edges (posI (idsE g) n.id) false n).drop (posI (idsE g) n.id + 1)⟩ : Gt)) = (0, g)
    rw [setL_away (by have := posI_le (idsE g) n.id; omega)]
end Go.Proofs.Ytoakloicjlfaaaa

/- Layer 14: the law GraphBack as a call. Conditions: what is read is small. -/
namespace Go.Proofs.Ytoakloicjlfaaaa
open Go.RowKit
set_option linter.unusedSimpArgs false
set_option linter.unusedVariables false
set_option maxRecDepth 100000

theorem wtVs_at {l : List Vt} {j : Nat} {t : Vt} (h : l[j]? = some t) : wtV t ≤ wtVs l := wtVs_get h
theorem wtS_len (l : List ByteArray) : l.length ≤ wtS l := by
  unfold wtS
  induction l with
  | nil => simp
  | cons x xs ih => simp only [List.length_cons, List.map_cons, List.sum_cons]; omega
theorem smPr_of {ks : List ByteArray} {vs : List Vt} (h : wtS ks + wtVs vs ≤ 1048576) : SmPr ks vs :=
  ⟨by have := wtS_len ks; omega, by have := wtVs_len vs; omega, fun j t ht => by have := wtVs_get ht; omega⟩
theorem smN_of {n : Nt} (h : wtN n ≤ 1048576) : SmN n := by
  unfold wtN at h
  exact ⟨by have := wtS_len n.labels; omega, smPr_of (by omega)⟩
theorem smE_of {n : Et} (h : wtE n ≤ 1048576) : SmE n := by
  unfold wtE at h
  exact smPr_of (by omega)
theorem len_sum {α : Type} (f : α → Nat) (hf : ∀ x, 1 ≤ f x) (l : List α) : l.length ≤ (l.map f).sum := by
  induction l with
  | nil => simp
  | cons x xs ih => have := hf x; simp only [List.length_cons, List.map_cons, List.sum_cons]; omega
theorem smG_of {g : Gt} (h : wtG g ≤ 1048576) : SmG g := by
  unfold wtG at h
  refine ⟨⟨?_, ?_⟩, fun j n hj => smN_of ?_, fun j n hj => smE_of ?_⟩
  · have := len_sum wtN (fun x => by unfold wtN; omega) g.nodes; omega
  · have := len_sum wtE (fun x => by unfold wtE; omega) g.edges; omega
  · have := sum_get wtN hj; omega
  · have := sum_get wtE hj; omega
theorem setL_small {α : Type} {l : List α} {p : Nat} {x : α} (hp : p ≤ l.length) (hl : l.length < 60) : (setL l p false x).length ≤ 1048576 := by
  rw [setL_length hp]
  simp
  omega
theorem posN_le (g : Gt) (id : Int) : posI (idsN g) id ≤ g.nodes.length := by
  have := posI_le (idsN g) id
  unfold idsN at this
  rw [List.length_map] at this
  exact this
theorem posE_le (g : Gt) (id : Int) : posI (idsE g) id ≤ g.edges.length := by
  have := posI_le (idsE g) id
  unfold idsE at this
  rw [List.length_map] at this
  exact this
def smallB (g : Gt) : Bool := decide (g.nodes.length < 60) && decide (g.edges.length < 60)
set_option maxHeartbeats 4000000 in
theorem small_any (na ea : Option Addr) (nc ec n m : Nat) (w : World) :
    Calls Try.prog 11 #[.agg #[.slice na n nc, .slice ea m ec]] w fun e w' => e = .returned (.bool (decide (n < 60) && decide (m < 60))) ∧ Below w.heap.size w w' := by
  obtain ⟨W0, hW0⟩ : ∃ W0, w.alloc (.cells #[.slice na n nc, .slice ea m ec] 25) = W0 := ⟨_, rfl⟩
  have hb0 : Below w.heap.size w W0 := by rw [← hW0]; exact (Below.refl _ _).alloc (Nat.le_refl _) _
  have hblk : Block W0 w.heap.size [.slice na n nc, .slice ea m ec] 25 := by rw [← hW0]; exact Block.new _ _ _
  have c0 := hblk.cell (i := 0) rfl
  have c1 := hblk.cell (i := 1) rfl
  rw [← hW0] at c0 c1
  have HB0 := Lib.hid (show Below w.heap.size w (w.alloc (.cells #[.slice na n nc, .slice ea m ec] 25)) by rw [hW0]; exact hb0)
  clear hW0 hb0 hblk
  by_cases h1 : n < 60
  · have h1' : (n : Int) < 60 := by omega
    by_cases h2 : m < 60
    · have h2' : (m : Int) < 60 := by omega
      rw [decide_eq_true h1, decide_eq_true h2]
      go_enter Try.func11, Try.ntmps11
      go_wp2_with fail
      go_ret
      exact ⟨rfl, HB0.out⟩
    · have h2' : ¬ (m : Int) < 60 := by omega
      rw [decide_eq_true h1, decide_eq_false h2]
      go_enter Try.func11, Try.ntmps11
      go_wp2_with fail
      go_ret
      exact ⟨rfl, HB0.out⟩
  · have h1' : ¬ (n : Int) < 60 := by omega
    rw [decide_eq_false h1]
    go_enter Try.func11, Try.ntmps11
    go_wp2_with fail
    go_ret
    exact ⟨rfl, HB0.out⟩

set_option maxHeartbeats 64000000 in
theorem gback_any (g : Gt) (n : Nt) (d : Et) (cs ds es : List Value) (w : World) (hg : IsG w.heap.size w cs g) (hn : IsN w.heap.size w ds n) (hd : IsE w.heap.size w es d) (hwg : wtG g ≤ 1048576) (hwn : wtN n ≤ 1048576) (hwd : wtE d ≤ 1048576) :
    Calls Try.prog 5 #[.agg cs.toArray, .agg ds.toArray, .agg es.toArray] w fun e w' => e = .returned (.bool true) ∧ Below w.heap.size w w' := by
  have hg0 := hg
  obtain ⟨na, nc, ea, ec, rfl, hnz, hez, hN, hE⟩ := hg
  have hn0 := hn
  obtain ⟨la, lc, ka, kc, va, vc, rfl⟩ := node_cells hn0
  have hd0 := hd
  obtain ⟨dka, dkc, dva, dvc, rfl⟩ := edge_cells hd0
  show Calls Try.prog 5 #[.agg #[.slice na g.nodes.length nc, .slice ea g.edges.length ec], .agg #[.int .i64 n.id, .slice la n.labels.length lc, .slice ka n.keys.length kc, .slice va n.vals.length vc], .agg #[.int .i64 d.id, .int .i64 d.src, .int .i64 d.dst, .string d.ty, .slice dka d.keys.length dkc, .slice dva d.vals.length dvc]] w _
  have hsm := smG_of hwg
  have hsn := smN_of hwn
  have hsd := smE_of hwd
  obtain ⟨W0, hW0⟩ : ∃ W0, ((w.alloc (.cells #[.slice na g.nodes.length nc, .slice ea g.edges.length ec] 25)).alloc (.cells #[.int .i64 n.id, .slice la n.labels.length lc, .slice ka n.keys.length kc, .slice va n.vals.length vc] 38)).alloc (.cells #[.int .i64 d.id, .int .i64 d.src, .int .i64 d.dst, .string d.ty, .slice dka d.keys.length dkc, .slice dva d.vals.length dvc] 40) = W0 := ⟨_, rfl⟩
  have HBX : Hid (Bx w [([.slice na g.nodes.length nc, .slice ea g.edges.length ec], 25), ([.int .i64 n.id, .slice la n.labels.length lc, .slice ka n.keys.length kc, .slice va n.vals.length vc], 38), ([.int .i64 d.id, .int .i64 d.src, .int .i64 d.dst, .string d.ty, .slice dka d.keys.length dkc, .slice dva d.vals.length dvc], 40)] W0) := Lib.hid (by rw [← hW0]; exact ((((((Bx.nil w).alloc rfl [.slice na g.nodes.length nc, .slice ea g.edges.length ec] 25)).alloc (by simp) [.int .i64 n.id, .slice la n.labels.length lc, .slice ka n.keys.length kc, .slice va n.vals.length vc] 38)).alloc (by simp) [.int .i64 d.id, .int .i64 d.src, .int .i64 d.dst, .string d.ty, .slice dka d.keys.length dkc, .slice dva d.vals.length dvc] 40))
  have HW0 := Lib.hid hW0
  have HGG := Lib.hid (fun (w' : World) (hb : Below w.heap.size w w') => hg0.below hb (Nat.le_refl _))
  have HSM := Lib.hid (fun (w' : World) => small_any na ea nc ec g.nodes.length g.edges.length w')
  have HMY := Lib.hid (fun (w' : World) (hb : Below w.heap.size w w') => rmayG_any g _ _ w' (hg0.below hb (Nat.le_refl _)) hb.size)
  have HMN := Lib.hid (fun (w' : World) (hb : Below w.heap.size w w') => rMayNode_any n _ _ w' (hn.below hb (Nat.le_refl _)) hb.size)
  have HATN := Lib.hid (fun (w' : World) (hb : Below w.heap.size w w') => nodeAt_any g n.id _ _ w' (hg0.below hb (Nat.le_refl _)) hb.size)
  have HATE := Lib.hid (fun (w' : World) (hb : Below w.heap.size w w') => edgeAt_any g d.id _ _ w' (hg0.below hb (Nat.le_refl _)) hb.size)
  have HPUT0 := Lib.hid (fun (hr : RiseI (idsN g)) (w' : World) (hb : Below w.heap.size w w') => put_any g n _ _ _ w' (hg0.below hb (Nat.le_refl _)) (hn.below hb (Nat.le_refl _)) hb.size hr hsm hsn)
  have HJOIN0 := Lib.hid (fun (hr : RiseI (idsN g)) (hre : RiseI (idsE g)) (w' : World) (hb : Below w.heap.size w w') => join_any g d _ _ _ w' (hg0.below hb (Nat.le_refl _)) (hd.below hb (Nat.le_refl _)) hb.size hr hre hsm hsd)
  have HSMP : Hid (∀ i is, ((setL g.nodes i is n).length ≤ 1048576) → SmG ⟨setL g.nodes i is n, g.edges⟩) := Lib.hid (fun i is h => ⟨⟨h, hsm.1.2⟩, fun j y hy => by rcases mem_setL hy with rfl | ⟨k, hk⟩; exact hsn; exact hsm.2.1 k y hk, hsm.2.2⟩)
  have HSMJ : Hid (∀ i is, ((setL g.edges i is d).length ≤ 1048576) → SmG ⟨g.nodes, setL g.edges i is d⟩) := Lib.hid (fun i is h => ⟨⟨hsm.1.1, h⟩, hsm.2.1, fun j y hy => by rcases mem_setL hy with rfl | ⟨k, hk⟩; exact hsd; exact hsm.2.2 k y hk⟩)
  obtain ⟨Q, hQ⟩ : ∃ Q : Ending → World → Prop, (fun e w' => e = .returned (.bool true) ∧ Below w.heap.size w w') = Q := ⟨_, rfl⟩
  have HQ : Hid (∀ u, Below w.heap.size w u → Q (.returned (.bool true)) u) := Lib.hid (fun u h => by rw [← hQ]; exact ⟨rfl, h⟩)
  rw [hQ]
  have i0_0 : W0.cell? ⟨w.heap.size, 0, none⟩ = some (.slice na g.nodes.length nc) := HBX.out.cell 0 0 rfl rfl
  have i0_1 : W0.cell? ⟨w.heap.size, 1, none⟩ = some (.slice ea g.edges.length ec) := HBX.out.cell 0 1 rfl rfl
  have i1_0 : W0.cell? ⟨w.heap.size + 1, 0, none⟩ = some (.int .i64 n.id) := HBX.out.cell 1 0 rfl rfl
  have i1_1 : W0.cell? ⟨w.heap.size + 1, 1, none⟩ = some (.slice la n.labels.length lc) := HBX.out.cell 1 1 rfl rfl
  have i1_2 : W0.cell? ⟨w.heap.size + 1, 2, none⟩ = some (.slice ka n.keys.length kc) := HBX.out.cell 1 2 rfl rfl
  have i1_3 : W0.cell? ⟨w.heap.size + 1, 3, none⟩ = some (.slice va n.vals.length vc) := HBX.out.cell 1 3 rfl rfl
  have i2_0 : W0.cell? ⟨w.heap.size + 2, 0, none⟩ = some (.int .i64 d.id) := HBX.out.cell 2 0 rfl rfl
  have i2_1 : W0.cell? ⟨w.heap.size + 2, 1, none⟩ = some (.int .i64 d.src) := HBX.out.cell 2 1 rfl rfl
  have i2_2 : W0.cell? ⟨w.heap.size + 2, 2, none⟩ = some (.int .i64 d.dst) := HBX.out.cell 2 2 rfl rfl
  have i2_3 : W0.cell? ⟨w.heap.size + 2, 3, none⟩ = some (.string d.ty) := HBX.out.cell 2 3 rfl rfl
  have i2_4 : W0.cell? ⟨w.heap.size + 2, 4, none⟩ = some (.slice dka d.keys.length dkc) := HBX.out.cell 2 4 rfl rfl
  have i2_5 : W0.cell? ⟨w.heap.size + 2, 5, none⟩ = some (.slice dva d.vals.length dvc) := HBX.out.cell 2 5 rfl rfl
  rw [← hW0] at i0_0 i0_1 i1_0 i1_1 i1_2 i1_3 i2_0 i2_1 i2_2 i2_3 i2_4 i2_5
  clear hQ hW0 hg0 hN hE hn hn0 hd hd0 hnz hez hsm hsn hsd hwg hwn hwd
  go_enter Try.func5, Try.ntmps5
  go_wp2_with fail
  (try rw [show w.heap.size + 1 + 1 = w.heap.size + 2 from rfl])
  rw [HW0.out]
  refine (HSM.out _).mono ?_
  rintro e w1 ⟨rfl, hb1⟩
  have HBX1 := Lib.hid (HBX.out.below hb1)
  clear i0_0 i0_1 i1_0 i1_1 i1_2 i1_3 i2_0 i2_1 i2_2 i2_3 i2_4 i2_5 hb1
  cases hsml : (decide (g.nodes.length < 60) && decide (g.edges.length < 60)) with
  | false =>
    go_wp2_with fail
    refine (gworks_any w1).mono ?_
    rintro e wl ⟨rfl, hbl⟩
    have HBL := Lib.hid (HBX1.out.below hbl)
    clear hbl
    go_wp2_with fail
    exact HQ.out _ HBL.out.bel
  | true =>
    simp only [Bool.and_eq_true, decide_eq_true_eq] at hsml
    have HLEN := Lib.hid hsml
    clear hsml
    have f0_0 : w1.cell? ⟨w.heap.size, 0, none⟩ = some (.slice na g.nodes.length nc) := HBX1.out.cell 0 0 rfl rfl
    have f0_1 : w1.cell? ⟨w.heap.size, 1, none⟩ = some (.slice ea g.edges.length ec) := HBX1.out.cell 0 1 rfl rfl
    go_wp2_with fail
    refine (HMY.out _ HBX1.out.bel).mono ?_
    rintro e w2 ⟨rfl, hb2⟩
    have HBX2 := Lib.hid (HBX1.out.below hb2)
    clear f0_0 f0_1 hb2
    cases hmg : mayG g with
    | false =>
      go_wp2_with fail
      refine (gworks_any w2).mono ?_
      rintro e wl ⟨rfl, hbl⟩
      have HBL := Lib.hid (HBX2.out.below hbl)
      clear hbl
      go_wp2_with fail
      exact HQ.out _ HBL.out.bel
    | true =>
      have HMG := Lib.hid (MayG.of hmg)
      have HHIN := Lib.hid (hasI_idx HMG.out.riseN n.id).1
      have HHIE := Lib.hid (hasI_idx HMG.out.riseE d.id).1
      have HPUT := Lib.hid (HPUT0.out HMG.out.riseN)
      have HJOIN := Lib.hid (HJOIN0.out HMG.out.riseN HMG.out.riseE)
      clear hmg HPUT0 HJOIN0
      have f0_0 : w2.cell? ⟨w.heap.size, 0, none⟩ = some (.slice na g.nodes.length nc) := HBX2.out.cell 0 0 rfl rfl
      have f0_1 : w2.cell? ⟨w.heap.size, 1, none⟩ = some (.slice ea g.edges.length ec) := HBX2.out.cell 0 1 rfl rfl
      have f1_0 : w2.cell? ⟨w.heap.size + 1, 0, none⟩ = some (.int .i64 n.id) := HBX2.out.cell 1 0 rfl rfl
      have f1_1 : w2.cell? ⟨w.heap.size + 1, 1, none⟩ = some (.slice la n.labels.length lc) := HBX2.out.cell 1 1 rfl rfl
      have f1_2 : w2.cell? ⟨w.heap.size + 1, 2, none⟩ = some (.slice ka n.keys.length kc) := HBX2.out.cell 1 2 rfl rfl
      have f1_3 : w2.cell? ⟨w.heap.size + 1, 3, none⟩ = some (.slice va n.vals.length vc) := HBX2.out.cell 1 3 rfl rfl
      have f2_0 : w2.cell? ⟨w.heap.size + 2, 0, none⟩ = some (.int .i64 d.id) := HBX2.out.cell 2 0 rfl rfl
      have f2_1 : w2.cell? ⟨w.heap.size + 2, 1, none⟩ = some (.int .i64 d.src) := HBX2.out.cell 2 1 rfl rfl
      have f2_2 : w2.cell? ⟨w.heap.size + 2, 2, none⟩ = some (.int .i64 d.dst) := HBX2.out.cell 2 2 rfl rfl
      have f2_3 : w2.cell? ⟨w.heap.size + 2, 3, none⟩ = some (.string d.ty) := HBX2.out.cell 2 3 rfl rfl
      have f2_4 : w2.cell? ⟨w.heap.size + 2, 4, none⟩ = some (.slice dka d.keys.length dkc) := HBX2.out.cell 2 4 rfl rfl
      have f2_5 : w2.cell? ⟨w.heap.size + 2, 5, none⟩ = some (.slice dva d.vals.length dvc) := HBX2.out.cell 2 5 rfl rfl
      go_wp2_with fail
      refine (HATN.out _ HBX2.out.bel).mono ?_
      rintro e y3 ⟨rfl, hby3⟩
      have HBY3 := Lib.hid (HBX2.out.below hby3)
      clear f0_0 f0_1 f1_0 f1_1 f1_2 f1_3 f2_0 f2_1 f2_2 f2_3 f2_4 f2_5 hby3
      obtain ⟨at3, hat3⟩ : ∃ x, idxOf (g.nodes.map (·.id)) n.id = x := ⟨_, rfl⟩
      have HI3 : Hid (hasI (idsN g) n.id = decide (0 ≤ at3)) := Lib.hid (by rw [← hat3]; exact HHIN.out)
      rw [hat3]
      clear hat3
      by_cases hc3 : 0 ≤ at3
      · have hc3' : ¬ at3 < 0 := by omega
        have f0_0 : y3.cell? ⟨w.heap.size, 0, none⟩ = some (.slice na g.nodes.length nc) := HBY3.out.cell 0 0 rfl rfl
        have f0_1 : y3.cell? ⟨w.heap.size, 1, none⟩ = some (.slice ea g.edges.length ec) := HBY3.out.cell 0 1 rfl rfl
        have f1_0 : y3.cell? ⟨w.heap.size + 1, 0, none⟩ = some (.int .i64 n.id) := HBY3.out.cell 1 0 rfl rfl
        have f1_1 : y3.cell? ⟨w.heap.size + 1, 1, none⟩ = some (.slice la n.labels.length lc) := HBY3.out.cell 1 1 rfl rfl
        have f1_2 : y3.cell? ⟨w.heap.size + 1, 2, none⟩ = some (.slice ka n.keys.length kc) := HBY3.out.cell 1 2 rfl rfl
        have f1_3 : y3.cell? ⟨w.heap.size + 1, 3, none⟩ = some (.slice va n.vals.length vc) := HBY3.out.cell 1 3 rfl rfl
        have f2_0 : y3.cell? ⟨w.heap.size + 2, 0, none⟩ = some (.int .i64 d.id) := HBY3.out.cell 2 0 rfl rfl
        have f2_1 : y3.cell? ⟨w.heap.size + 2, 1, none⟩ = some (.int .i64 d.src) := HBY3.out.cell 2 1 rfl rfl
        have f2_2 : y3.cell? ⟨w.heap.size + 2, 2, none⟩ = some (.int .i64 d.dst) := HBY3.out.cell 2 2 rfl rfl
        have f2_3 : y3.cell? ⟨w.heap.size + 2, 3, none⟩ = some (.string d.ty) := HBY3.out.cell 2 3 rfl rfl
        have f2_4 : y3.cell? ⟨w.heap.size + 2, 4, none⟩ = some (.slice dka d.keys.length dkc) := HBY3.out.cell 2 4 rfl rfl
        have f2_5 : y3.cell? ⟨w.heap.size + 2, 5, none⟩ = some (.slice dva d.vals.length dvc) := HBY3.out.cell 2 5 rfl rfl
        go_wp2_with fail
        refine (HATE.out _ HBY3.out.bel).mono ?_
        rintro e y5 ⟨rfl, hby5⟩
        have HBY5 := Lib.hid (HBY3.out.below hby5)
        clear f0_0 f0_1 f1_0 f1_1 f1_2 f1_3 f2_0 f2_1 f2_2 f2_3 f2_4 f2_5 hby5
        obtain ⟨at5, hat5⟩ : ∃ x, idxOf (g.edges.map (·.id)) d.id = x := ⟨_, rfl⟩
        have HI5 : Hid (hasI (idsE g) d.id = decide (0 ≤ at5)) := Lib.hid (by rw [← hat5]; exact HHIE.out)
        rw [hat5]
        clear hat5
        by_cases hc5 : 0 ≤ at5
        · have hc5' : ¬ at5 < 0 := by omega
          go_wp2_with fail
          refine (gworks_any y5).mono ?_
          rintro e wl ⟨rfl, hbl⟩
          have HBL := Lib.hid (HBY5.out.below hbl)
          clear hbl
          go_wp2_with fail
          exact HQ.out _ HBL.out.bel
        · skip
          have hc5' : at5 < 0 := by omega
          have HNO5 : Hid (hasI (idsE g) d.id = false) := Lib.hid (by rw [HI5.out]; exact decide_eq_false hc5)
          rcases join_cut HMG.out HNO5.out HLEN.out.2 with ⟨code, hcz, hbad⟩ | hgood
          · skip
            have HC9 := Lib.hid (HJOIN.out _ HBY5.out.bel)
            rw [hbad] at HC9
            clear hbad
            have hcz1 : (code == 0) = false := by simpa using hcz
            have hcz2 : ¬ code = 0 := hcz
            have f0_0 : y5.cell? ⟨w.heap.size, 0, none⟩ = some (.slice na g.nodes.length nc) := HBY5.out.cell 0 0 rfl rfl
            have f0_1 : y5.cell? ⟨w.heap.size, 1, none⟩ = some (.slice ea g.edges.length ec) := HBY5.out.cell 0 1 rfl rfl
            have f1_0 : y5.cell? ⟨w.heap.size + 1, 0, none⟩ = some (.int .i64 n.id) := HBY5.out.cell 1 0 rfl rfl
            have f1_1 : y5.cell? ⟨w.heap.size + 1, 1, none⟩ = some (.slice la n.labels.length lc) := HBY5.out.cell 1 1 rfl rfl
            have f1_2 : y5.cell? ⟨w.heap.size + 1, 2, none⟩ = some (.slice ka n.keys.length kc) := HBY5.out.cell 1 2 rfl rfl
            have f1_3 : y5.cell? ⟨w.heap.size + 1, 3, none⟩ = some (.slice va n.vals.length vc) := HBY5.out.cell 1 3 rfl rfl
            have f2_0 : y5.cell? ⟨w.heap.size + 2, 0, none⟩ = some (.int .i64 d.id) := HBY5.out.cell 2 0 rfl rfl
            have f2_1 : y5.cell? ⟨w.heap.size + 2, 1, none⟩ = some (.int .i64 d.src) := HBY5.out.cell 2 1 rfl rfl
            have f2_2 : y5.cell? ⟨w.heap.size + 2, 2, none⟩ = some (.int .i64 d.dst) := HBY5.out.cell 2 2 rfl rfl
            have f2_3 : y5.cell? ⟨w.heap.size + 2, 3, none⟩ = some (.string d.ty) := HBY5.out.cell 2 3 rfl rfl
            have f2_4 : y5.cell? ⟨w.heap.size + 2, 4, none⟩ = some (.slice dka d.keys.length dkc) := HBY5.out.cell 2 4 rfl rfl
            have f2_5 : y5.cell? ⟨w.heap.size + 2, 5, none⟩ = some (.slice dva d.vals.length dvc) := HBY5.out.cell 2 5 rfl rfl
            go_wp2_with fail
            refine (HC9.out).mono ?_
            rintro e v5c ⟨cs5c, bs5c, rfl, hb5c, hG5c, -, hr5c⟩
            obtain ⟨ra5c, rc5c, rd5c, re5c, rfl⟩ := hG5c.form
            obtain ⟨X5c, hX5c⟩ : ∃ X, v5c.alloc (.cells #[.slice ra5c noG.nodes.length rc5c, .slice rd5c noG.edges.length re5c] 25) = X := ⟨_, rfl⟩
            have hba5c : Below v5c.heap.size v5c X5c := by rw [← hX5c]; exact (Below.refl _ _).alloc (Nat.le_refl _) _
            have hbk5c : Block X5c v5c.heap.size [.slice ra5c noG.nodes.length rc5c, .slice rd5c noG.edges.length re5c] 25 := by rw [← hX5c]; exact Block.new _ _ _
            have HBX5c := Lib.hid ((HBY5.out.below hb5c).below hba5c)
            have HG5c := Lib.hid ((hG5c.isG (fun b hb => (hr5c b hb).2)).below hba5c (Nat.le_refl _))
            have HZ5c := Lib.hid (show v5c.heap.size < X5c.heap.size by rw [← hX5c]; simp)
            have HK5c := Lib.hid hbk5c
            have HX5c := Lib.hid hX5c
            have x5c_0 := hbk5c.cell (i := 0) rfl
            have x5c_1 := hbk5c.cell (i := 1) rfl
            clear f0_0 f0_1 f1_0 f1_1 f1_2 f1_3 f2_0 f2_1 f2_2 f2_3 f2_4 f2_5
            rw [← hX5c] at x5c_0 x5c_1
            clear hX5c hba5c hbk5c hb5c hr5c hG5c
            go_wp2_with fail
            rw [HX5c.out]
            refine (gworks_any X5c).mono ?_
            rintro e wl ⟨rfl, hbl⟩
            have HBL := Lib.hid (HBX5c.out.below hbl)
            clear hbl
            go_wp2_with fail
            exact HQ.out _ HBL.out.bel
          · skip
            obtain ⟨G2, hG2⟩ : ∃ G2 : Gt, ⟨g.nodes, setL g.edges (posI (idsE g) d.id) false d⟩ = G2 := ⟨_, rfl⟩
            rw [hG2] at hgood
            obtain ⟨hq1, hq2, hq3⟩ := hgood
            have HQ2 := Lib.hid hq2
            have HQ3 := Lib.hid hq3
            have HC9 := Lib.hid (HJOIN.out _ HBY5.out.bel)
            rw [hq1] at HC9
            have HSG2 : Hid (SmG G2) := Lib.hid (by rw [← hG2]; exact HSMJ.out _ _ (setL_small (posE_le g d.id) HLEN.out.2))
            clear hq1 hq2 hq3 hG2
            have f0_0 : y5.cell? ⟨w.heap.size, 0, none⟩ = some (.slice na g.nodes.length nc) := HBY5.out.cell 0 0 rfl rfl
            have f0_1 : y5.cell? ⟨w.heap.size, 1, none⟩ = some (.slice ea g.edges.length ec) := HBY5.out.cell 0 1 rfl rfl
            have f1_0 : y5.cell? ⟨w.heap.size + 1, 0, none⟩ = some (.int .i64 n.id) := HBY5.out.cell 1 0 rfl rfl
            have f1_1 : y5.cell? ⟨w.heap.size + 1, 1, none⟩ = some (.slice la n.labels.length lc) := HBY5.out.cell 1 1 rfl rfl
            have f1_2 : y5.cell? ⟨w.heap.size + 1, 2, none⟩ = some (.slice ka n.keys.length kc) := HBY5.out.cell 1 2 rfl rfl
            have f1_3 : y5.cell? ⟨w.heap.size + 1, 3, none⟩ = some (.slice va n.vals.length vc) := HBY5.out.cell 1 3 rfl rfl
            have f2_0 : y5.cell? ⟨w.heap.size + 2, 0, none⟩ = some (.int .i64 d.id) := HBY5.out.cell 2 0 rfl rfl
            have f2_1 : y5.cell? ⟨w.heap.size + 2, 1, none⟩ = some (.int .i64 d.src) := HBY5.out.cell 2 1 rfl rfl
            have f2_2 : y5.cell? ⟨w.heap.size + 2, 2, none⟩ = some (.int .i64 d.dst) := HBY5.out.cell 2 2 rfl rfl
            have f2_3 : y5.cell? ⟨w.heap.size + 2, 3, none⟩ = some (.string d.ty) := HBY5.out.cell 2 3 rfl rfl
            have f2_4 : y5.cell? ⟨w.heap.size + 2, 4, none⟩ = some (.slice dka d.keys.length dkc) := HBY5.out.cell 2 4 rfl rfl
            have f2_5 : y5.cell? ⟨w.heap.size + 2, 5, none⟩ = some (.slice dva d.vals.length dvc) := HBY5.out.cell 2 5 rfl rfl
            go_wp2_with fail
            refine (HC9.out).mono ?_
            rintro e v5a ⟨cs5a, bs5a, rfl, hb5a, hG5a, -, hr5a⟩
            obtain ⟨ra5a, rc5a, rd5a, re5a, rfl⟩ := hG5a.form
            obtain ⟨X5a, hX5a⟩ : ∃ X, v5a.alloc (.cells #[.slice ra5a G2.nodes.length rc5a, .slice rd5a G2.edges.length re5a] 25) = X := ⟨_, rfl⟩
            have hba5a : Below v5a.heap.size v5a X5a := by rw [← hX5a]; exact (Below.refl _ _).alloc (Nat.le_refl _) _
            have hbk5a : Block X5a v5a.heap.size [.slice ra5a G2.nodes.length rc5a, .slice rd5a G2.edges.length re5a] 25 := by rw [← hX5a]; exact Block.new _ _ _
            have HBX5a := Lib.hid ((HBY5.out.below hb5a).below hba5a)
            have HG5a := Lib.hid ((hG5a.isG (fun b hb => (hr5a b hb).2)).below hba5a (Nat.le_refl _))
            have HZ5a := Lib.hid (show v5a.heap.size < X5a.heap.size by rw [← hX5a]; simp)
            have HK5a := Lib.hid hbk5a
            have HX5a := Lib.hid hX5a
            have x5a_0 := hbk5a.cell (i := 0) rfl
            have x5a_1 := hbk5a.cell (i := 1) rfl
            clear f0_0 f0_1 f1_0 f1_1 f1_2 f1_3 f2_0 f2_1 f2_2 f2_3 f2_4 f2_5
            rw [← hX5a] at x5a_0 x5a_1
            have f0_0 : X5a.cell? ⟨w.heap.size, 0, none⟩ = some (.slice na g.nodes.length nc) := HBX5a.out.cell 0 0 rfl rfl
            have f0_1 : X5a.cell? ⟨w.heap.size, 1, none⟩ = some (.slice ea g.edges.length ec) := HBX5a.out.cell 0 1 rfl rfl
            have f1_0 : X5a.cell? ⟨w.heap.size + 1, 0, none⟩ = some (.int .i64 n.id) := HBX5a.out.cell 1 0 rfl rfl
            have f1_1 : X5a.cell? ⟨w.heap.size + 1, 1, none⟩ = some (.slice la n.labels.length lc) := HBX5a.out.cell 1 1 rfl rfl
            have f1_2 : X5a.cell? ⟨w.heap.size + 1, 2, none⟩ = some (.slice ka n.keys.length kc) := HBX5a.out.cell 1 2 rfl rfl
            have f1_3 : X5a.cell? ⟨w.heap.size + 1, 3, none⟩ = some (.slice va n.vals.length vc) := HBX5a.out.cell 1 3 rfl rfl
            have f2_0 : X5a.cell? ⟨w.heap.size + 2, 0, none⟩ = some (.int .i64 d.id) := HBX5a.out.cell 2 0 rfl rfl
            have f2_1 : X5a.cell? ⟨w.heap.size + 2, 1, none⟩ = some (.int .i64 d.src) := HBX5a.out.cell 2 1 rfl rfl
            have f2_2 : X5a.cell? ⟨w.heap.size + 2, 2, none⟩ = some (.int .i64 d.dst) := HBX5a.out.cell 2 2 rfl rfl
            have f2_3 : X5a.cell? ⟨w.heap.size + 2, 3, none⟩ = some (.string d.ty) := HBX5a.out.cell 2 3 rfl rfl
            have f2_4 : X5a.cell? ⟨w.heap.size + 2, 4, none⟩ = some (.slice dka d.keys.length dkc) := HBX5a.out.cell 2 4 rfl rfl
            have f2_5 : X5a.cell? ⟨w.heap.size + 2, 5, none⟩ = some (.slice dva d.vals.length dvc) := HBX5a.out.cell 2 5 rfl rfl
            rw [← hX5a] at f0_0 f0_1 f1_0 f1_1 f1_2 f1_3 f2_0 f2_1 f2_2 f2_3 f2_4 f2_5
            clear hX5a hba5a hbk5a hb5a hr5a hG5a
            have HD9 := Lib.hid (cut_any G2 d.id _ v5a.heap.size X5a HG5a.out (Nat.le_of_lt HZ5a.out) HQ2.out HSG2.out)
            rw [HQ3.out] at HD9
            go_wp2_with fail
            rw [HX5a.out]
            refine (HD9.out).mono ?_
            rintro e v5b ⟨cs5b, bs5b, rfl, hb5b, hG5b, -, hr5b⟩
            obtain ⟨ra5b, rc5b, rd5b, re5b, rfl⟩ := hG5b.form
            obtain ⟨X5b, hX5b⟩ : ∃ X, v5b.alloc (.cells #[.slice ra5b g.nodes.length rc5b, .slice rd5b g.edges.length re5b] 25) = X := ⟨_, rfl⟩
            have hba5b : Below v5b.heap.size v5b X5b := by rw [← hX5b]; exact (Below.refl _ _).alloc (Nat.le_refl _) _
            have hbk5b : Block X5b v5b.heap.size [.slice ra5b g.nodes.length rc5b, .slice rd5b g.edges.length re5b] 25 := by rw [← hX5b]; exact Block.new _ _ _
            have HBX5b := Lib.hid ((HBX5a.out.below hb5b).below hba5b)
            have HG5b := Lib.hid ((hG5b.isG (fun b hb => (hr5b b hb).2)).below hba5b (Nat.le_refl _))
            have HZ5b := Lib.hid (show v5b.heap.size < X5b.heap.size by rw [← hX5b]; simp)
            have HK5b := Lib.hid hbk5b
            have HX5b := Lib.hid hX5b
            have x5b_0 := hbk5b.cell (i := 0) rfl
            have x5b_1 := hbk5b.cell (i := 1) rfl
            clear f0_0 f0_1 f1_0 f1_1 f1_2 f1_3 f2_0 f2_1 f2_2 f2_3 f2_4 f2_5 x5a_0 x5a_1
            have HS9 := Lib.hid (sameG_any g g _ _ (v5b.heap.size) X5b HG5b.out ((HGG.out _ HBX5b.out.bel).mono (by have := (HBX5a.out.below hb5b).bel.size; exact this)) (Nat.le_of_lt HZ5b.out))
            rw [(sameG_iff g g).2 rfl] at HS9
            rw [← hX5b] at x5b_0 x5b_1
            have f0_0 : X5b.cell? ⟨w.heap.size, 0, none⟩ = some (.slice na g.nodes.length nc) := HBX5b.out.cell 0 0 rfl rfl
            have f0_1 : X5b.cell? ⟨w.heap.size, 1, none⟩ = some (.slice ea g.edges.length ec) := HBX5b.out.cell 0 1 rfl rfl
            have f1_0 : X5b.cell? ⟨w.heap.size + 1, 0, none⟩ = some (.int .i64 n.id) := HBX5b.out.cell 1 0 rfl rfl
            have f1_1 : X5b.cell? ⟨w.heap.size + 1, 1, none⟩ = some (.slice la n.labels.length lc) := HBX5b.out.cell 1 1 rfl rfl
            have f1_2 : X5b.cell? ⟨w.heap.size + 1, 2, none⟩ = some (.slice ka n.keys.length kc) := HBX5b.out.cell 1 2 rfl rfl
            have f1_3 : X5b.cell? ⟨w.heap.size + 1, 3, none⟩ = some (.slice va n.vals.length vc) := HBX5b.out.cell 1 3 rfl rfl
            have f2_0 : X5b.cell? ⟨w.heap.size + 2, 0, none⟩ = some (.int .i64 d.id) := HBX5b.out.cell 2 0 rfl rfl
            have f2_1 : X5b.cell? ⟨w.heap.size + 2, 1, none⟩ = some (.int .i64 d.src) := HBX5b.out.cell 2 1 rfl rfl
            have f2_2 : X5b.cell? ⟨w.heap.size + 2, 2, none⟩ = some (.int .i64 d.dst) := HBX5b.out.cell 2 2 rfl rfl
            have f2_3 : X5b.cell? ⟨w.heap.size + 2, 3, none⟩ = some (.string d.ty) := HBX5b.out.cell 2 3 rfl rfl
            have f2_4 : X5b.cell? ⟨w.heap.size + 2, 4, none⟩ = some (.slice dka d.keys.length dkc) := HBX5b.out.cell 2 4 rfl rfl
            have f2_5 : X5b.cell? ⟨w.heap.size + 2, 5, none⟩ = some (.slice dva d.vals.length dvc) := HBX5b.out.cell 2 5 rfl rfl
            rw [← hX5b] at f0_0 f0_1 f1_0 f1_1 f1_2 f1_3 f2_0 f2_1 f2_2 f2_3 f2_4 f2_5
            clear hX5b hba5b hbk5b hb5b hr5b hG5b
            go_wp2_with fail
            rw [HX5b.out]
            refine HS9.out.mono ?_
            rintro e z5 ⟨rfl, hbz⟩
            have HBZ5 := Lib.hid (HBX5b.out.below hbz)
            clear f0_0 f0_1 f1_0 f1_1 f1_2 f1_3 f2_0 f2_1 f2_2 f2_3 f2_4 f2_5 x5b_0 x5b_1 hbz
            go_wp2_with fail
            refine (gworks_any z5).mono ?_
            rintro e wl ⟨rfl, hbl⟩
            have HBL := Lib.hid (HBZ5.out.below hbl)
            clear hbl
            go_wp2_with fail
            exact HQ.out _ HBL.out.bel
      · skip
        have hc3' : at3 < 0 := by omega
        have HNO3 : Hid (hasI (idsN g) n.id = false) := Lib.hid (by rw [HI3.out]; exact decide_eq_false hc3)
        cases hmn : mayN n with
        | true =>
          have hgood := put_drop HMG.out HNO3.out HLEN.out.1 hmn
          have HMT := Lib.hid hmn
          clear hmn
          obtain ⟨G2, hG2⟩ : ∃ G2 : Gt, ⟨setL g.nodes (posI (idsN g) n.id) false n, g.edges⟩ = G2 := ⟨_, rfl⟩
          rw [hG2] at hgood
          obtain ⟨hq1, hq2, hq3⟩ := hgood
          have HQ2 := Lib.hid hq2
          have HQ3 := Lib.hid hq3
          have HC9 := Lib.hid (HPUT.out _ HBY3.out.bel)
          rw [hq1] at HC9
          have HSG2 : Hid (SmG G2) := Lib.hid (by rw [← hG2]; exact HSMP.out _ _ (setL_small (posN_le g n.id) HLEN.out.1))
          clear hq1 hq2 hq3 hG2
          have f0_0 : y3.cell? ⟨w.heap.size, 0, none⟩ = some (.slice na g.nodes.length nc) := HBY3.out.cell 0 0 rfl rfl
          have f0_1 : y3.cell? ⟨w.heap.size, 1, none⟩ = some (.slice ea g.edges.length ec) := HBY3.out.cell 0 1 rfl rfl
          have f1_0 : y3.cell? ⟨w.heap.size + 1, 0, none⟩ = some (.int .i64 n.id) := HBY3.out.cell 1 0 rfl rfl
          have f1_1 : y3.cell? ⟨w.heap.size + 1, 1, none⟩ = some (.slice la n.labels.length lc) := HBY3.out.cell 1 1 rfl rfl
          have f1_2 : y3.cell? ⟨w.heap.size + 1, 2, none⟩ = some (.slice ka n.keys.length kc) := HBY3.out.cell 1 2 rfl rfl
          have f1_3 : y3.cell? ⟨w.heap.size + 1, 3, none⟩ = some (.slice va n.vals.length vc) := HBY3.out.cell 1 3 rfl rfl
          have f2_0 : y3.cell? ⟨w.heap.size + 2, 0, none⟩ = some (.int .i64 d.id) := HBY3.out.cell 2 0 rfl rfl
          have f2_1 : y3.cell? ⟨w.heap.size + 2, 1, none⟩ = some (.int .i64 d.src) := HBY3.out.cell 2 1 rfl rfl
          have f2_2 : y3.cell? ⟨w.heap.size + 2, 2, none⟩ = some (.int .i64 d.dst) := HBY3.out.cell 2 2 rfl rfl
          have f2_3 : y3.cell? ⟨w.heap.size + 2, 3, none⟩ = some (.string d.ty) := HBY3.out.cell 2 3 rfl rfl
          have f2_4 : y3.cell? ⟨w.heap.size + 2, 4, none⟩ = some (.slice dka d.keys.length dkc) := HBY3.out.cell 2 4 rfl rfl
          have f2_5 : y3.cell? ⟨w.heap.size + 2, 5, none⟩ = some (.slice dva d.vals.length dvc) := HBY3.out.cell 2 5 rfl rfl
          go_wp2_with fail
          refine (HC9.out).mono ?_
          rintro e v3a ⟨cs3a, bs3a, rfl, hb3a, hG3a, -, hr3a⟩
          obtain ⟨ra3a, rc3a, rd3a, re3a, rfl⟩ := hG3a.form
          obtain ⟨X3a, hX3a⟩ : ∃ X, v3a.alloc (.cells #[.slice ra3a G2.nodes.length rc3a, .slice rd3a G2.edges.length re3a] 25) = X := ⟨_, rfl⟩
          have hba3a : Below v3a.heap.size v3a X3a := by rw [← hX3a]; exact (Below.refl _ _).alloc (Nat.le_refl _) _
          have hbk3a : Block X3a v3a.heap.size [.slice ra3a G2.nodes.length rc3a, .slice rd3a G2.edges.length re3a] 25 := by rw [← hX3a]; exact Block.new _ _ _
          have HBX3a := Lib.hid ((HBY3.out.below hb3a).below hba3a)
          have HG3a := Lib.hid ((hG3a.isG (fun b hb => (hr3a b hb).2)).below hba3a (Nat.le_refl _))
          have HZ3a := Lib.hid (show v3a.heap.size < X3a.heap.size by rw [← hX3a]; simp)
          have HK3a := Lib.hid hbk3a
          have HX3a := Lib.hid hX3a
          have x3a_0 := hbk3a.cell (i := 0) rfl
          have x3a_1 := hbk3a.cell (i := 1) rfl
          clear f0_0 f0_1 f1_0 f1_1 f1_2 f1_3 f2_0 f2_1 f2_2 f2_3 f2_4 f2_5
          rw [← hX3a] at x3a_0 x3a_1
          have f0_0 : X3a.cell? ⟨w.heap.size, 0, none⟩ = some (.slice na g.nodes.length nc) := HBX3a.out.cell 0 0 rfl rfl
          have f0_1 : X3a.cell? ⟨w.heap.size, 1, none⟩ = some (.slice ea g.edges.length ec) := HBX3a.out.cell 0 1 rfl rfl
          have f1_0 : X3a.cell? ⟨w.heap.size + 1, 0, none⟩ = some (.int .i64 n.id) := HBX3a.out.cell 1 0 rfl rfl
          have f1_1 : X3a.cell? ⟨w.heap.size + 1, 1, none⟩ = some (.slice la n.labels.length lc) := HBX3a.out.cell 1 1 rfl rfl
          have f1_2 : X3a.cell? ⟨w.heap.size + 1, 2, none⟩ = some (.slice ka n.keys.length kc) := HBX3a.out.cell 1 2 rfl rfl
          have f1_3 : X3a.cell? ⟨w.heap.size + 1, 3, none⟩ = some (.slice va n.vals.length vc) := HBX3a.out.cell 1 3 rfl rfl
          have f2_0 : X3a.cell? ⟨w.heap.size + 2, 0, none⟩ = some (.int .i64 d.id) := HBX3a.out.cell 2 0 rfl rfl
          have f2_1 : X3a.cell? ⟨w.heap.size + 2, 1, none⟩ = some (.int .i64 d.src) := HBX3a.out.cell 2 1 rfl rfl
          have f2_2 : X3a.cell? ⟨w.heap.size + 2, 2, none⟩ = some (.int .i64 d.dst) := HBX3a.out.cell 2 2 rfl rfl
          have f2_3 : X3a.cell? ⟨w.heap.size + 2, 3, none⟩ = some (.string d.ty) := HBX3a.out.cell 2 3 rfl rfl
          have f2_4 : X3a.cell? ⟨w.heap.size + 2, 4, none⟩ = some (.slice dka d.keys.length dkc) := HBX3a.out.cell 2 4 rfl rfl
          have f2_5 : X3a.cell? ⟨w.heap.size + 2, 5, none⟩ = some (.slice dva d.vals.length dvc) := HBX3a.out.cell 2 5 rfl rfl
          rw [← hX3a] at f0_0 f0_1 f1_0 f1_1 f1_2 f1_3 f2_0 f2_1 f2_2 f2_3 f2_4 f2_5
          clear hX3a hba3a hbk3a hb3a hr3a hG3a
          have HD9 := Lib.hid (drop_any G2 n.id _ v3a.heap.size X3a HG3a.out (Nat.le_of_lt HZ3a.out) HQ2.out HSG2.out)
          rw [HQ3.out] at HD9
          go_wp2_with fail
          rw [HX3a.out]
          refine (HD9.out).mono ?_
          rintro e v3b ⟨cs3b, bs3b, rfl, hb3b, hG3b, -, hr3b⟩
          obtain ⟨ra3b, rc3b, rd3b, re3b, rfl⟩ := hG3b.form
          obtain ⟨X3b, hX3b⟩ : ∃ X, v3b.alloc (.cells #[.slice ra3b g.nodes.length rc3b, .slice rd3b g.edges.length re3b] 25) = X := ⟨_, rfl⟩
          have hba3b : Below v3b.heap.size v3b X3b := by rw [← hX3b]; exact (Below.refl _ _).alloc (Nat.le_refl _) _
          have hbk3b : Block X3b v3b.heap.size [.slice ra3b g.nodes.length rc3b, .slice rd3b g.edges.length re3b] 25 := by rw [← hX3b]; exact Block.new _ _ _
          have HBX3b := Lib.hid ((HBX3a.out.below hb3b).below hba3b)
          have HG3b := Lib.hid ((hG3b.isG (fun b hb => (hr3b b hb).2)).below hba3b (Nat.le_refl _))
          have HZ3b := Lib.hid (show v3b.heap.size < X3b.heap.size by rw [← hX3b]; simp)
          have HK3b := Lib.hid hbk3b
          have HX3b := Lib.hid hX3b
          have x3b_0 := hbk3b.cell (i := 0) rfl
          have x3b_1 := hbk3b.cell (i := 1) rfl
          clear f0_0 f0_1 f1_0 f1_1 f1_2 f1_3 f2_0 f2_1 f2_2 f2_3 f2_4 f2_5 x3a_0 x3a_1
          have HS9 := Lib.hid (sameG_any g g _ _ (v3b.heap.size) X3b HG3b.out ((HGG.out _ HBX3b.out.bel).mono (by have := (HBX3a.out.below hb3b).bel.size; exact this)) (Nat.le_of_lt HZ3b.out))
          rw [(sameG_iff g g).2 rfl] at HS9
          rw [← hX3b] at x3b_0 x3b_1
          have f0_0 : X3b.cell? ⟨w.heap.size, 0, none⟩ = some (.slice na g.nodes.length nc) := HBX3b.out.cell 0 0 rfl rfl
          have f0_1 : X3b.cell? ⟨w.heap.size, 1, none⟩ = some (.slice ea g.edges.length ec) := HBX3b.out.cell 0 1 rfl rfl
          have f1_0 : X3b.cell? ⟨w.heap.size + 1, 0, none⟩ = some (.int .i64 n.id) := HBX3b.out.cell 1 0 rfl rfl
          have f1_1 : X3b.cell? ⟨w.heap.size + 1, 1, none⟩ = some (.slice la n.labels.length lc) := HBX3b.out.cell 1 1 rfl rfl
          have f1_2 : X3b.cell? ⟨w.heap.size + 1, 2, none⟩ = some (.slice ka n.keys.length kc) := HBX3b.out.cell 1 2 rfl rfl
          have f1_3 : X3b.cell? ⟨w.heap.size + 1, 3, none⟩ = some (.slice va n.vals.length vc) := HBX3b.out.cell 1 3 rfl rfl
          have f2_0 : X3b.cell? ⟨w.heap.size + 2, 0, none⟩ = some (.int .i64 d.id) := HBX3b.out.cell 2 0 rfl rfl
          have f2_1 : X3b.cell? ⟨w.heap.size + 2, 1, none⟩ = some (.int .i64 d.src) := HBX3b.out.cell 2 1 rfl rfl
          have f2_2 : X3b.cell? ⟨w.heap.size + 2, 2, none⟩ = some (.int .i64 d.dst) := HBX3b.out.cell 2 2 rfl rfl
          have f2_3 : X3b.cell? ⟨w.heap.size + 2, 3, none⟩ = some (.string d.ty) := HBX3b.out.cell 2 3 rfl rfl
          have f2_4 : X3b.cell? ⟨w.heap.size + 2, 4, none⟩ = some (.slice dka d.keys.length dkc) := HBX3b.out.cell 2 4 rfl rfl
          have f2_5 : X3b.cell? ⟨w.heap.size + 2, 5, none⟩ = some (.slice dva d.vals.length dvc) := HBX3b.out.cell 2 5 rfl rfl
          rw [← hX3b] at f0_0 f0_1 f1_0 f1_1 f1_2 f1_3 f2_0 f2_1 f2_2 f2_3 f2_4 f2_5
          clear hX3b hba3b hbk3b hb3b hr3b hG3b
          go_wp2_with fail
          rw [HX3b.out]
          refine HS9.out.mono ?_
          rintro e z3 ⟨rfl, hbz⟩
          have HBZ3 := Lib.hid (HBX3b.out.below hbz)
          clear f0_0 f0_1 f1_0 f1_1 f1_2 f1_3 f2_0 f2_1 f2_2 f2_3 f2_4 f2_5 x3b_0 x3b_1 hbz
          have f0_0 : z3.cell? ⟨w.heap.size, 0, none⟩ = some (.slice na g.nodes.length nc) := HBZ3.out.cell 0 0 rfl rfl
          have f0_1 : z3.cell? ⟨w.heap.size, 1, none⟩ = some (.slice ea g.edges.length ec) := HBZ3.out.cell 0 1 rfl rfl
          have f1_0 : z3.cell? ⟨w.heap.size + 1, 0, none⟩ = some (.int .i64 n.id) := HBZ3.out.cell 1 0 rfl rfl
          have f1_1 : z3.cell? ⟨w.heap.size + 1, 1, none⟩ = some (.slice la n.labels.length lc) := HBZ3.out.cell 1 1 rfl rfl
          have f1_2 : z3.cell? ⟨w.heap.size + 1, 2, none⟩ = some (.slice ka n.keys.length kc) := HBZ3.out.cell 1 2 rfl rfl
          have f1_3 : z3.cell? ⟨w.heap.size + 1, 3, none⟩ = some (.slice va n.vals.length vc) := HBZ3.out.cell 1 3 rfl rfl
          have f2_0 : z3.cell? ⟨w.heap.size + 2, 0, none⟩ = some (.int .i64 d.id) := HBZ3.out.cell 2 0 rfl rfl
          have f2_1 : z3.cell? ⟨w.heap.size + 2, 1, none⟩ = some (.int .i64 d.src) := HBZ3.out.cell 2 1 rfl rfl
          have f2_2 : z3.cell? ⟨w.heap.size + 2, 2, none⟩ = some (.int .i64 d.dst) := HBZ3.out.cell 2 2 rfl rfl
          have f2_3 : z3.cell? ⟨w.heap.size + 2, 3, none⟩ = some (.string d.ty) := HBZ3.out.cell 2 3 rfl rfl
          have f2_4 : z3.cell? ⟨w.heap.size + 2, 4, none⟩ = some (.slice dka d.keys.length dkc) := HBZ3.out.cell 2 4 rfl rfl
          have f2_5 : z3.cell? ⟨w.heap.size + 2, 5, none⟩ = some (.slice dva d.vals.length dvc) := HBZ3.out.cell 2 5 rfl rfl
          go_wp2_with fail
          refine (HATE.out _ HBZ3.out.bel).mono ?_
          rintro e y5 ⟨rfl, hby5⟩
          have HBY5 := Lib.hid (HBZ3.out.below hby5)
          clear f0_0 f0_1 f1_0 f1_1 f1_2 f1_3 f2_0 f2_1 f2_2 f2_3 f2_4 f2_5 hby5
          obtain ⟨at5, hat5⟩ : ∃ x, idxOf (g.edges.map (·.id)) d.id = x := ⟨_, rfl⟩
          have HI5 : Hid (hasI (idsE g) d.id = decide (0 ≤ at5)) := Lib.hid (by rw [← hat5]; exact HHIE.out)
          rw [hat5]
          clear hat5
          by_cases hc5 : 0 ≤ at5
          · have hc5' : ¬ at5 < 0 := by omega
            go_wp2_with fail
            refine (gworks_any y5).mono ?_
            rintro e wl ⟨rfl, hbl⟩
            have HBL := Lib.hid (HBY5.out.below hbl)
            clear hbl
            go_wp2_with fail
            exact HQ.out _ HBL.out.bel
          · skip
            have hc5' : at5 < 0 := by omega
            have HNO5 : Hid (hasI (idsE g) d.id = false) := Lib.hid (by rw [HI5.out]; exact decide_eq_false hc5)
            rcases join_cut HMG.out HNO5.out HLEN.out.2 with ⟨code, hcz, hbad⟩ | hgood
            · skip
              have HC9 := Lib.hid (HJOIN.out _ HBY5.out.bel)
              rw [hbad] at HC9
              clear hbad
              have hcz1 : (code == 0) = false := by simpa using hcz
              have hcz2 : ¬ code = 0 := hcz
              have f0_0 : y5.cell? ⟨w.heap.size, 0, none⟩ = some (.slice na g.nodes.length nc) := HBY5.out.cell 0 0 rfl rfl
              have f0_1 : y5.cell? ⟨w.heap.size, 1, none⟩ = some (.slice ea g.edges.length ec) := HBY5.out.cell 0 1 rfl rfl
              have f1_0 : y5.cell? ⟨w.heap.size + 1, 0, none⟩ = some (.int .i64 n.id) := HBY5.out.cell 1 0 rfl rfl
              have f1_1 : y5.cell? ⟨w.heap.size + 1, 1, none⟩ = some (.slice la n.labels.length lc) := HBY5.out.cell 1 1 rfl rfl
              have f1_2 : y5.cell? ⟨w.heap.size + 1, 2, none⟩ = some (.slice ka n.keys.length kc) := HBY5.out.cell 1 2 rfl rfl
              have f1_3 : y5.cell? ⟨w.heap.size + 1, 3, none⟩ = some (.slice va n.vals.length vc) := HBY5.out.cell 1 3 rfl rfl
              have f2_0 : y5.cell? ⟨w.heap.size + 2, 0, none⟩ = some (.int .i64 d.id) := HBY5.out.cell 2 0 rfl rfl
              have f2_1 : y5.cell? ⟨w.heap.size + 2, 1, none⟩ = some (.int .i64 d.src) := HBY5.out.cell 2 1 rfl rfl
              have f2_2 : y5.cell? ⟨w.heap.size + 2, 2, none⟩ = some (.int .i64 d.dst) := HBY5.out.cell 2 2 rfl rfl
              have f2_3 : y5.cell? ⟨w.heap.size + 2, 3, none⟩ = some (.string d.ty) := HBY5.out.cell 2 3 rfl rfl
              have f2_4 : y5.cell? ⟨w.heap.size + 2, 4, none⟩ = some (.slice dka d.keys.length dkc) := HBY5.out.cell 2 4 rfl rfl
              have f2_5 : y5.cell? ⟨w.heap.size + 2, 5, none⟩ = some (.slice dva d.vals.length dvc) := HBY5.out.cell 2 5 rfl rfl
              go_wp2_with fail
              refine (HC9.out).mono ?_
              rintro e v5c ⟨cs5c, bs5c, rfl, hb5c, hG5c, -, hr5c⟩
              obtain ⟨ra5c, rc5c, rd5c, re5c, rfl⟩ := hG5c.form
              obtain ⟨X5c, hX5c⟩ : ∃ X, v5c.alloc (.cells #[.slice ra5c noG.nodes.length rc5c, .slice rd5c noG.edges.length re5c] 25) = X := ⟨_, rfl⟩
              have hba5c : Below v5c.heap.size v5c X5c := by rw [← hX5c]; exact (Below.refl _ _).alloc (Nat.le_refl _) _
              have hbk5c : Block X5c v5c.heap.size [.slice ra5c noG.nodes.length rc5c, .slice rd5c noG.edges.length re5c] 25 := by rw [← hX5c]; exact Block.new _ _ _
              have HBX5c := Lib.hid ((HBY5.out.below hb5c).below hba5c)
              have HG5c := Lib.hid ((hG5c.isG (fun b hb => (hr5c b hb).2)).below hba5c (Nat.le_refl _))
              have HZ5c := Lib.hid (show v5c.heap.size < X5c.heap.size by rw [← hX5c]; simp)
              have HK5c := Lib.hid hbk5c
              have HX5c := Lib.hid hX5c
              have x5c_0 := hbk5c.cell (i := 0) rfl
              have x5c_1 := hbk5c.cell (i := 1) rfl
              clear f0_0 f0_1 f1_0 f1_1 f1_2 f1_3 f2_0 f2_1 f2_2 f2_3 f2_4 f2_5
              rw [← hX5c] at x5c_0 x5c_1
              clear hX5c hba5c hbk5c hb5c hr5c hG5c
              go_wp2_with fail
              rw [HX5c.out]
              refine (gworks_any X5c).mono ?_
              rintro e wl ⟨rfl, hbl⟩
              have HBL := Lib.hid (HBX5c.out.below hbl)
              clear hbl
              go_wp2_with fail
              exact HQ.out _ HBL.out.bel
            · skip
              obtain ⟨G2, hG2⟩ : ∃ G2 : Gt, ⟨g.nodes, setL g.edges (posI (idsE g) d.id) false d⟩ = G2 := ⟨_, rfl⟩
              rw [hG2] at hgood
              obtain ⟨hq1, hq2, hq3⟩ := hgood
              have HQ2 := Lib.hid hq2
              have HQ3 := Lib.hid hq3
              have HC9 := Lib.hid (HJOIN.out _ HBY5.out.bel)
              rw [hq1] at HC9
              have HSG2 : Hid (SmG G2) := Lib.hid (by rw [← hG2]; exact HSMJ.out _ _ (setL_small (posE_le g d.id) HLEN.out.2))
              clear hq1 hq2 hq3 hG2
              have f0_0 : y5.cell? ⟨w.heap.size, 0, none⟩ = some (.slice na g.nodes.length nc) := HBY5.out.cell 0 0 rfl rfl
              have f0_1 : y5.cell? ⟨w.heap.size, 1, none⟩ = some (.slice ea g.edges.length ec) := HBY5.out.cell 0 1 rfl rfl
              have f1_0 : y5.cell? ⟨w.heap.size + 1, 0, none⟩ = some (.int .i64 n.id) := HBY5.out.cell 1 0 rfl rfl
              have f1_1 : y5.cell? ⟨w.heap.size + 1, 1, none⟩ = some (.slice la n.labels.length lc) := HBY5.out.cell 1 1 rfl rfl
              have f1_2 : y5.cell? ⟨w.heap.size + 1, 2, none⟩ = some (.slice ka n.keys.length kc) := HBY5.out.cell 1 2 rfl rfl
              have f1_3 : y5.cell? ⟨w.heap.size + 1, 3, none⟩ = some (.slice va n.vals.length vc) := HBY5.out.cell 1 3 rfl rfl
              have f2_0 : y5.cell? ⟨w.heap.size + 2, 0, none⟩ = some (.int .i64 d.id) := HBY5.out.cell 2 0 rfl rfl
              have f2_1 : y5.cell? ⟨w.heap.size + 2, 1, none⟩ = some (.int .i64 d.src) := HBY5.out.cell 2 1 rfl rfl
              have f2_2 : y5.cell? ⟨w.heap.size + 2, 2, none⟩ = some (.int .i64 d.dst) := HBY5.out.cell 2 2 rfl rfl
              have f2_3 : y5.cell? ⟨w.heap.size + 2, 3, none⟩ = some (.string d.ty) := HBY5.out.cell 2 3 rfl rfl
              have f2_4 : y5.cell? ⟨w.heap.size + 2, 4, none⟩ = some (.slice dka d.keys.length dkc) := HBY5.out.cell 2 4 rfl rfl
              have f2_5 : y5.cell? ⟨w.heap.size + 2, 5, none⟩ = some (.slice dva d.vals.length dvc) := HBY5.out.cell 2 5 rfl rfl
              go_wp2_with fail
              refine (HC9.out).mono ?_
              rintro e v5a ⟨cs5a, bs5a, rfl, hb5a, hG5a, -, hr5a⟩
              obtain ⟨ra5a, rc5a, rd5a, re5a, rfl⟩ := hG5a.form
              obtain ⟨X5a, hX5a⟩ : ∃ X, v5a.alloc (.cells #[.slice ra5a G2.nodes.length rc5a, .slice rd5a G2.edges.length re5a] 25) = X := ⟨_, rfl⟩
              have hba5a : Below v5a.heap.size v5a X5a := by rw [← hX5a]; exact (Below.refl _ _).alloc (Nat.le_refl _) _
              have hbk5a : Block X5a v5a.heap.size [.slice ra5a G2.nodes.length rc5a, .slice rd5a G2.edges.length re5a] 25 := by rw [← hX5a]; exact Block.new _ _ _
              have HBX5a := Lib.hid ((HBY5.out.below hb5a).below hba5a)
              have HG5a := Lib.hid ((hG5a.isG (fun b hb => (hr5a b hb).2)).below hba5a (Nat.le_refl _))
              have HZ5a := Lib.hid (show v5a.heap.size < X5a.heap.size by rw [← hX5a]; simp)
              have HK5a := Lib.hid hbk5a
              have HX5a := Lib.hid hX5a
              have x5a_0 := hbk5a.cell (i := 0) rfl
              have x5a_1 := hbk5a.cell (i := 1) rfl
              clear f0_0 f0_1 f1_0 f1_1 f1_2 f1_3 f2_0 f2_1 f2_2 f2_3 f2_4 f2_5
              rw [← hX5a] at x5a_0 x5a_1
              have f0_0 : X5a.cell? ⟨w.heap.size, 0, none⟩ = some (.slice na g.nodes.length nc) := HBX5a.out.cell 0 0 rfl rfl
              have f0_1 : X5a.cell? ⟨w.heap.size, 1, none⟩ = some (.slice ea g.edges.length ec) := HBX5a.out.cell 0 1 rfl rfl
              have f1_0 : X5a.cell? ⟨w.heap.size + 1, 0, none⟩ = some (.int .i64 n.id) := HBX5a.out.cell 1 0 rfl rfl
              have f1_1 : X5a.cell? ⟨w.heap.size + 1, 1, none⟩ = some (.slice la n.labels.length lc) := HBX5a.out.cell 1 1 rfl rfl
              have f1_2 : X5a.cell? ⟨w.heap.size + 1, 2, none⟩ = some (.slice ka n.keys.length kc) := HBX5a.out.cell 1 2 rfl rfl
              have f1_3 : X5a.cell? ⟨w.heap.size + 1, 3, none⟩ = some (.slice va n.vals.length vc) := HBX5a.out.cell 1 3 rfl rfl
              have f2_0 : X5a.cell? ⟨w.heap.size + 2, 0, none⟩ = some (.int .i64 d.id) := HBX5a.out.cell 2 0 rfl rfl
              have f2_1 : X5a.cell? ⟨w.heap.size + 2, 1, none⟩ = some (.int .i64 d.src) := HBX5a.out.cell 2 1 rfl rfl
              have f2_2 : X5a.cell? ⟨w.heap.size + 2, 2, none⟩ = some (.int .i64 d.dst) := HBX5a.out.cell 2 2 rfl rfl
              have f2_3 : X5a.cell? ⟨w.heap.size + 2, 3, none⟩ = some (.string d.ty) := HBX5a.out.cell 2 3 rfl rfl
              have f2_4 : X5a.cell? ⟨w.heap.size + 2, 4, none⟩ = some (.slice dka d.keys.length dkc) := HBX5a.out.cell 2 4 rfl rfl
              have f2_5 : X5a.cell? ⟨w.heap.size + 2, 5, none⟩ = some (.slice dva d.vals.length dvc) := HBX5a.out.cell 2 5 rfl rfl
              rw [← hX5a] at f0_0 f0_1 f1_0 f1_1 f1_2 f1_3 f2_0 f2_1 f2_2 f2_3 f2_4 f2_5
              clear hX5a hba5a hbk5a hb5a hr5a hG5a
              have HD9 := Lib.hid (cut_any G2 d.id _ v5a.heap.size X5a HG5a.out (Nat.le_of_lt HZ5a.out) HQ2.out HSG2.out)
              rw [HQ3.out] at HD9
              go_wp2_with fail
              rw [HX5a.out]
              refine (HD9.out).mono ?_
              rintro e v5b ⟨cs5b, bs5b, rfl, hb5b, hG5b, -, hr5b⟩
              obtain ⟨ra5b, rc5b, rd5b, re5b, rfl⟩ := hG5b.form
              obtain ⟨X5b, hX5b⟩ : ∃ X, v5b.alloc (.cells #[.slice ra5b g.nodes.length rc5b, .slice rd5b g.edges.length re5b] 25) = X := ⟨_, rfl⟩
              have hba5b : Below v5b.heap.size v5b X5b := by rw [← hX5b]; exact (Below.refl _ _).alloc (Nat.le_refl _) _
              have hbk5b : Block X5b v5b.heap.size [.slice ra5b g.nodes.length rc5b, .slice rd5b g.edges.length re5b] 25 := by rw [← hX5b]; exact Block.new _ _ _
              have HBX5b := Lib.hid ((HBX5a.out.below hb5b).below hba5b)
              have HG5b := Lib.hid ((hG5b.isG (fun b hb => (hr5b b hb).2)).below hba5b (Nat.le_refl _))
              have HZ5b := Lib.hid (show v5b.heap.size < X5b.heap.size by rw [← hX5b]; simp)
              have HK5b := Lib.hid hbk5b
              have HX5b := Lib.hid hX5b
              have x5b_0 := hbk5b.cell (i := 0) rfl
              have x5b_1 := hbk5b.cell (i := 1) rfl
              clear f0_0 f0_1 f1_0 f1_1 f1_2 f1_3 f2_0 f2_1 f2_2 f2_3 f2_4 f2_5 x5a_0 x5a_1
              have HS9 := Lib.hid (sameG_any g g _ _ (v5b.heap.size) X5b HG5b.out ((HGG.out _ HBX5b.out.bel).mono (by have := (HBX5a.out.below hb5b).bel.size; exact this)) (Nat.le_of_lt HZ5b.out))
              rw [(sameG_iff g g).2 rfl] at HS9
              rw [← hX5b] at x5b_0 x5b_1
              have f0_0 : X5b.cell? ⟨w.heap.size, 0, none⟩ = some (.slice na g.nodes.length nc) := HBX5b.out.cell 0 0 rfl rfl
              have f0_1 : X5b.cell? ⟨w.heap.size, 1, none⟩ = some (.slice ea g.edges.length ec) := HBX5b.out.cell 0 1 rfl rfl
              have f1_0 : X5b.cell? ⟨w.heap.size + 1, 0, none⟩ = some (.int .i64 n.id) := HBX5b.out.cell 1 0 rfl rfl
              have f1_1 : X5b.cell? ⟨w.heap.size + 1, 1, none⟩ = some (.slice la n.labels.length lc) := HBX5b.out.cell 1 1 rfl rfl
              have f1_2 : X5b.cell? ⟨w.heap.size + 1, 2, none⟩ = some (.slice ka n.keys.length kc) := HBX5b.out.cell 1 2 rfl rfl
              have f1_3 : X5b.cell? ⟨w.heap.size + 1, 3, none⟩ = some (.slice va n.vals.length vc) := HBX5b.out.cell 1 3 rfl rfl
              have f2_0 : X5b.cell? ⟨w.heap.size + 2, 0, none⟩ = some (.int .i64 d.id) := HBX5b.out.cell 2 0 rfl rfl
              have f2_1 : X5b.cell? ⟨w.heap.size + 2, 1, none⟩ = some (.int .i64 d.src) := HBX5b.out.cell 2 1 rfl rfl
              have f2_2 : X5b.cell? ⟨w.heap.size + 2, 2, none⟩ = some (.int .i64 d.dst) := HBX5b.out.cell 2 2 rfl rfl
              have f2_3 : X5b.cell? ⟨w.heap.size + 2, 3, none⟩ = some (.string d.ty) := HBX5b.out.cell 2 3 rfl rfl
              have f2_4 : X5b.cell? ⟨w.heap.size + 2, 4, none⟩ = some (.slice dka d.keys.length dkc) := HBX5b.out.cell 2 4 rfl rfl
              have f2_5 : X5b.cell? ⟨w.heap.size + 2, 5, none⟩ = some (.slice dva d.vals.length dvc) := HBX5b.out.cell 2 5 rfl rfl
              rw [← hX5b] at f0_0 f0_1 f1_0 f1_1 f1_2 f1_3 f2_0 f2_1 f2_2 f2_3 f2_4 f2_5
              clear hX5b hba5b hbk5b hb5b hr5b hG5b
              go_wp2_with fail
              rw [HX5b.out]
              refine HS9.out.mono ?_
              rintro e z5 ⟨rfl, hbz⟩
              have HBZ5 := Lib.hid (HBX5b.out.below hbz)
              clear f0_0 f0_1 f1_0 f1_1 f1_2 f1_3 f2_0 f2_1 f2_2 f2_3 f2_4 f2_5 x5b_0 x5b_1 hbz
              go_wp2_with fail
              refine (gworks_any z5).mono ?_
              rintro e wl ⟨rfl, hbl⟩
              have HBL := Lib.hid (HBZ5.out.below hbl)
              clear hbl
              go_wp2_with fail
              exact HQ.out _ HBL.out.bel
        | false =>
          have hbad := put_no (g := g) hmn
          rw [hmn] at HMN
          clear hmn
          have HC9 := Lib.hid (HPUT.out _ HBY3.out.bel)
          rw [hbad] at HC9
          clear hbad
          have f0_0 : y3.cell? ⟨w.heap.size, 0, none⟩ = some (.slice na g.nodes.length nc) := HBY3.out.cell 0 0 rfl rfl
          have f0_1 : y3.cell? ⟨w.heap.size, 1, none⟩ = some (.slice ea g.edges.length ec) := HBY3.out.cell 0 1 rfl rfl
          have f1_0 : y3.cell? ⟨w.heap.size + 1, 0, none⟩ = some (.int .i64 n.id) := HBY3.out.cell 1 0 rfl rfl
          have f1_1 : y3.cell? ⟨w.heap.size + 1, 1, none⟩ = some (.slice la n.labels.length lc) := HBY3.out.cell 1 1 rfl rfl
          have f1_2 : y3.cell? ⟨w.heap.size + 1, 2, none⟩ = some (.slice ka n.keys.length kc) := HBY3.out.cell 1 2 rfl rfl
          have f1_3 : y3.cell? ⟨w.heap.size + 1, 3, none⟩ = some (.slice va n.vals.length vc) := HBY3.out.cell 1 3 rfl rfl
          have f2_0 : y3.cell? ⟨w.heap.size + 2, 0, none⟩ = some (.int .i64 d.id) := HBY3.out.cell 2 0 rfl rfl
          have f2_1 : y3.cell? ⟨w.heap.size + 2, 1, none⟩ = some (.int .i64 d.src) := HBY3.out.cell 2 1 rfl rfl
          have f2_2 : y3.cell? ⟨w.heap.size + 2, 2, none⟩ = some (.int .i64 d.dst) := HBY3.out.cell 2 2 rfl rfl
          have f2_3 : y3.cell? ⟨w.heap.size + 2, 3, none⟩ = some (.string d.ty) := HBY3.out.cell 2 3 rfl rfl
          have f2_4 : y3.cell? ⟨w.heap.size + 2, 4, none⟩ = some (.slice dka d.keys.length dkc) := HBY3.out.cell 2 4 rfl rfl
          have f2_5 : y3.cell? ⟨w.heap.size + 2, 5, none⟩ = some (.slice dva d.vals.length dvc) := HBY3.out.cell 2 5 rfl rfl
          go_wp2_with fail
          refine (HC9.out).mono ?_
          rintro e v3c ⟨cs3c, bs3c, rfl, hb3c, hG3c, -, hr3c⟩
          obtain ⟨ra3c, rc3c, rd3c, re3c, rfl⟩ := hG3c.form
          obtain ⟨X3c, hX3c⟩ : ∃ X, v3c.alloc (.cells #[.slice ra3c noG.nodes.length rc3c, .slice rd3c noG.edges.length re3c] 25) = X := ⟨_, rfl⟩
          have hba3c : Below v3c.heap.size v3c X3c := by rw [← hX3c]; exact (Below.refl _ _).alloc (Nat.le_refl _) _
          have hbk3c : Block X3c v3c.heap.size [.slice ra3c noG.nodes.length rc3c, .slice rd3c noG.edges.length re3c] 25 := by rw [← hX3c]; exact Block.new _ _ _
          have HBX3c := Lib.hid ((HBY3.out.below hb3c).below hba3c)
          have HG3c := Lib.hid ((hG3c.isG (fun b hb => (hr3c b hb).2)).below hba3c (Nat.le_refl _))
          have HZ3c := Lib.hid (show v3c.heap.size < X3c.heap.size by rw [← hX3c]; simp)
          have HK3c := Lib.hid hbk3c
          have HX3c := Lib.hid hX3c
          have x3c_0 := hbk3c.cell (i := 0) rfl
          have x3c_1 := hbk3c.cell (i := 1) rfl
          clear f0_0 f0_1 f1_0 f1_1 f1_2 f1_3 f2_0 f2_1 f2_2 f2_3 f2_4 f2_5
          rw [← hX3c] at x3c_0 x3c_1
          have f0_0 : X3c.cell? ⟨w.heap.size, 0, none⟩ = some (.slice na g.nodes.length nc) := HBX3c.out.cell 0 0 rfl rfl
          have f0_1 : X3c.cell? ⟨w.heap.size, 1, none⟩ = some (.slice ea g.edges.length ec) := HBX3c.out.cell 0 1 rfl rfl
          have f1_0 : X3c.cell? ⟨w.heap.size + 1, 0, none⟩ = some (.int .i64 n.id) := HBX3c.out.cell 1 0 rfl rfl
          have f1_1 : X3c.cell? ⟨w.heap.size + 1, 1, none⟩ = some (.slice la n.labels.length lc) := HBX3c.out.cell 1 1 rfl rfl
          have f1_2 : X3c.cell? ⟨w.heap.size + 1, 2, none⟩ = some (.slice ka n.keys.length kc) := HBX3c.out.cell 1 2 rfl rfl
          have f1_3 : X3c.cell? ⟨w.heap.size + 1, 3, none⟩ = some (.slice va n.vals.length vc) := HBX3c.out.cell 1 3 rfl rfl
          have f2_0 : X3c.cell? ⟨w.heap.size + 2, 0, none⟩ = some (.int .i64 d.id) := HBX3c.out.cell 2 0 rfl rfl
          have f2_1 : X3c.cell? ⟨w.heap.size + 2, 1, none⟩ = some (.int .i64 d.src) := HBX3c.out.cell 2 1 rfl rfl
          have f2_2 : X3c.cell? ⟨w.heap.size + 2, 2, none⟩ = some (.int .i64 d.dst) := HBX3c.out.cell 2 2 rfl rfl
          have f2_3 : X3c.cell? ⟨w.heap.size + 2, 3, none⟩ = some (.string d.ty) := HBX3c.out.cell 2 3 rfl rfl
          have f2_4 : X3c.cell? ⟨w.heap.size + 2, 4, none⟩ = some (.slice dka d.keys.length dkc) := HBX3c.out.cell 2 4 rfl rfl
          have f2_5 : X3c.cell? ⟨w.heap.size + 2, 5, none⟩ = some (.slice dva d.vals.length dvc) := HBX3c.out.cell 2 5 rfl rfl
          rw [← hX3c] at f0_0 f0_1 f1_0 f1_1 f1_2 f1_3 f2_0 f2_1 f2_2 f2_3 f2_4 f2_5
          clear hX3c hba3c hbk3c hb3c hr3c hG3c
          go_wp2_with fail
          rw [HX3c.out]
          refine (HMN.out _ HBX3c.out.bel).mono ?_
          rintro e z3 ⟨rfl, hbz⟩
          have HBZ3 := Lib.hid (HBX3c.out.below hbz)
          clear f0_0 f0_1 f1_0 f1_1 f1_2 f1_3 f2_0 f2_1 f2_2 f2_3 f2_4 f2_5 x3c_0 x3c_1 hbz
          have f0_0 : z3.cell? ⟨w.heap.size, 0, none⟩ = some (.slice na g.nodes.length nc) := HBZ3.out.cell 0 0 rfl rfl
          have f0_1 : z3.cell? ⟨w.heap.size, 1, none⟩ = some (.slice ea g.edges.length ec) := HBZ3.out.cell 0 1 rfl rfl
          have f1_0 : z3.cell? ⟨w.heap.size + 1, 0, none⟩ = some (.int .i64 n.id) := HBZ3.out.cell 1 0 rfl rfl
          have f1_1 : z3.cell? ⟨w.heap.size + 1, 1, none⟩ = some (.slice la n.labels.length lc) := HBZ3.out.cell 1 1 rfl rfl
          have f1_2 : z3.cell? ⟨w.heap.size + 1, 2, none⟩ = some (.slice ka n.keys.length kc) := HBZ3.out.cell 1 2 rfl rfl
          have f1_3 : z3.cell? ⟨w.heap.size + 1, 3, none⟩ = some (.slice va n.vals.length vc) := HBZ3.out.cell 1 3 rfl rfl
          have f2_0 : z3.cell? ⟨w.heap.size + 2, 0, none⟩ = some (.int .i64 d.id) := HBZ3.out.cell 2 0 rfl rfl
          have f2_1 : z3.cell? ⟨w.heap.size + 2, 1, none⟩ = some (.int .i64 d.src) := HBZ3.out.cell 2 1 rfl rfl
          have f2_2 : z3.cell? ⟨w.heap.size + 2, 2, none⟩ = some (.int .i64 d.dst) := HBZ3.out.cell 2 2 rfl rfl
          have f2_3 : z3.cell? ⟨w.heap.size + 2, 3, none⟩ = some (.string d.ty) := HBZ3.out.cell 2 3 rfl rfl
          have f2_4 : z3.cell? ⟨w.heap.size + 2, 4, none⟩ = some (.slice dka d.keys.length dkc) := HBZ3.out.cell 2 4 rfl rfl
          have f2_5 : z3.cell? ⟨w.heap.size + 2, 5, none⟩ = some (.slice dva d.vals.length dvc) := HBZ3.out.cell 2 5 rfl rfl
          go_wp2_with fail
          refine (HATE.out _ HBZ3.out.bel).mono ?_
          rintro e y5 ⟨rfl, hby5⟩
          have HBY5 := Lib.hid (HBZ3.out.below hby5)
          clear f0_0 f0_1 f1_0 f1_1 f1_2 f1_3 f2_0 f2_1 f2_2 f2_3 f2_4 f2_5 hby5
          obtain ⟨at5, hat5⟩ : ∃ x, idxOf (g.edges.map (·.id)) d.id = x := ⟨_, rfl⟩
          have HI5 : Hid (hasI (idsE g) d.id = decide (0 ≤ at5)) := Lib.hid (by rw [← hat5]; exact HHIE.out)
          rw [hat5]
          clear hat5
          by_cases hc5 : 0 ≤ at5
          · have hc5' : ¬ at5 < 0 := by omega
            go_wp2_with fail
            refine (gworks_any y5).mono ?_
            rintro e wl ⟨rfl, hbl⟩
            have HBL := Lib.hid (HBY5.out.below hbl)
            clear hbl
            go_wp2_with fail
            exact HQ.out _ HBL.out.bel
          · skip
            have hc5' : at5 < 0 := by omega
            have HNO5 : Hid (hasI (idsE g) d.id = false) := Lib.hid (by rw [HI5.out]; exact decide_eq_false hc5)
            rcases join_cut HMG.out HNO5.out HLEN.out.2 with ⟨code, hcz, hbad⟩ | hgood
            · skip
              have HC9 := Lib.hid (HJOIN.out _ HBY5.out.bel)
              rw [hbad] at HC9
              clear hbad
              have hcz1 : (code == 0) = false := by simpa using hcz
              have hcz2 : ¬ code = 0 := hcz
              have f0_0 : y5.cell? ⟨w.heap.size, 0, none⟩ = some (.slice na g.nodes.length nc) := HBY5.out.cell 0 0 rfl rfl
              have f0_1 : y5.cell? ⟨w.heap.size, 1, none⟩ = some (.slice ea g.edges.length ec) := HBY5.out.cell 0 1 rfl rfl
              have f1_0 : y5.cell? ⟨w.heap.size + 1, 0, none⟩ = some (.int .i64 n.id) := HBY5.out.cell 1 0 rfl rfl
              have f1_1 : y5.cell? ⟨w.heap.size + 1, 1, none⟩ = some (.slice la n.labels.length lc) := HBY5.out.cell 1 1 rfl rfl
              have f1_2 : y5.cell? ⟨w.heap.size + 1, 2, none⟩ = some (.slice ka n.keys.length kc) := HBY5.out.cell 1 2 rfl rfl
              have f1_3 : y5.cell? ⟨w.heap.size + 1, 3, none⟩ = some (.slice va n.vals.length vc) := HBY5.out.cell 1 3 rfl rfl
              have f2_0 : y5.cell? ⟨w.heap.size + 2, 0, none⟩ = some (.int .i64 d.id) := HBY5.out.cell 2 0 rfl rfl
              have f2_1 : y5.cell? ⟨w.heap.size + 2, 1, none⟩ = some (.int .i64 d.src) := HBY5.out.cell 2 1 rfl rfl
              have f2_2 : y5.cell? ⟨w.heap.size + 2, 2, none⟩ = some (.int .i64 d.dst) := HBY5.out.cell 2 2 rfl rfl
              have f2_3 : y5.cell? ⟨w.heap.size + 2, 3, none⟩ = some (.string d.ty) := HBY5.out.cell 2 3 rfl rfl
              have f2_4 : y5.cell? ⟨w.heap.size + 2, 4, none⟩ = some (.slice dka d.keys.length dkc) := HBY5.out.cell 2 4 rfl rfl
              have f2_5 : y5.cell? ⟨w.heap.size + 2, 5, none⟩ = some (.slice dva d.vals.length dvc) := HBY5.out.cell 2 5 rfl rfl
              go_wp2_with fail
              refine (HC9.out).mono ?_
              rintro e v5c ⟨cs5c, bs5c, rfl, hb5c, hG5c, -, hr5c⟩
              obtain ⟨ra5c, rc5c, rd5c, re5c, rfl⟩ := hG5c.form
              obtain ⟨X5c, hX5c⟩ : ∃ X, v5c.alloc (.cells #[.slice ra5c noG.nodes.length rc5c, .slice rd5c noG.edges.length re5c] 25) = X := ⟨_, rfl⟩
              have hba5c : Below v5c.heap.size v5c X5c := by rw [← hX5c]; exact (Below.refl _ _).alloc (Nat.le_refl _) _
              have hbk5c : Block X5c v5c.heap.size [.slice ra5c noG.nodes.length rc5c, .slice rd5c noG.edges.length re5c] 25 := by rw [← hX5c]; exact Block.new _ _ _
              have HBX5c := Lib.hid ((HBY5.out.below hb5c).below hba5c)
              have HG5c := Lib.hid ((hG5c.isG (fun b hb => (hr5c b hb).2)).below hba5c (Nat.le_refl _))
              have HZ5c := Lib.hid (show v5c.heap.size < X5c.heap.size by rw [← hX5c]; simp)
              have HK5c := Lib.hid hbk5c
              have HX5c := Lib.hid hX5c
              have x5c_0 := hbk5c.cell (i := 0) rfl
              have x5c_1 := hbk5c.cell (i := 1) rfl
              clear f0_0 f0_1 f1_0 f1_1 f1_2 f1_3 f2_0 f2_1 f2_2 f2_3 f2_4 f2_5
              rw [← hX5c] at x5c_0 x5c_1
              clear hX5c hba5c hbk5c hb5c hr5c hG5c
              go_wp2_with fail
              rw [HX5c.out]
              refine (gworks_any X5c).mono ?_
              rintro e wl ⟨rfl, hbl⟩
              have HBL := Lib.hid (HBX5c.out.below hbl)
              clear hbl
              go_wp2_with fail
              exact HQ.out _ HBL.out.bel
            · skip
              obtain ⟨G2, hG2⟩ : ∃ G2 : Gt, ⟨g.nodes, setL g.edges (posI (idsE g) d.id) false d⟩ = G2 := ⟨_, rfl⟩
              rw [hG2] at hgood
              obtain ⟨hq1, hq2, hq3⟩ := hgood
              have HQ2 := Lib.hid hq2
              have HQ3 := Lib.hid hq3
              have HC9 := Lib.hid (HJOIN.out _ HBY5.out.bel)
              rw [hq1] at HC9
              have HSG2 : Hid (SmG G2) := Lib.hid (by rw [← hG2]; exact HSMJ.out _ _ (setL_small (posE_le g d.id) HLEN.out.2))
              clear hq1 hq2 hq3 hG2
              have f0_0 : y5.cell? ⟨w.heap.size, 0, none⟩ = some (.slice na g.nodes.length nc) := HBY5.out.cell 0 0 rfl rfl
              have f0_1 : y5.cell? ⟨w.heap.size, 1, none⟩ = some (.slice ea g.edges.length ec) := HBY5.out.cell 0 1 rfl rfl
              have f1_0 : y5.cell? ⟨w.heap.size + 1, 0, none⟩ = some (.int .i64 n.id) := HBY5.out.cell 1 0 rfl rfl
              have f1_1 : y5.cell? ⟨w.heap.size + 1, 1, none⟩ = some (.slice la n.labels.length lc) := HBY5.out.cell 1 1 rfl rfl
              have f1_2 : y5.cell? ⟨w.heap.size + 1, 2, none⟩ = some (.slice ka n.keys.length kc) := HBY5.out.cell 1 2 rfl rfl
              have f1_3 : y5.cell? ⟨w.heap.size + 1, 3, none⟩ = some (.slice va n.vals.length vc) := HBY5.out.cell 1 3 rfl rfl
              have f2_0 : y5.cell? ⟨w.heap.size + 2, 0, none⟩ = some (.int .i64 d.id) := HBY5.out.cell 2 0 rfl rfl
              have f2_1 : y5.cell? ⟨w.heap.size + 2, 1, none⟩ = some (.int .i64 d.src) := HBY5.out.cell 2 1 rfl rfl
              have f2_2 : y5.cell? ⟨w.heap.size + 2, 2, none⟩ = some (.int .i64 d.dst) := HBY5.out.cell 2 2 rfl rfl
              have f2_3 : y5.cell? ⟨w.heap.size + 2, 3, none⟩ = some (.string d.ty) := HBY5.out.cell 2 3 rfl rfl
              have f2_4 : y5.cell? ⟨w.heap.size + 2, 4, none⟩ = some (.slice dka d.keys.length dkc) := HBY5.out.cell 2 4 rfl rfl
              have f2_5 : y5.cell? ⟨w.heap.size + 2, 5, none⟩ = some (.slice dva d.vals.length dvc) := HBY5.out.cell 2 5 rfl rfl
              go_wp2_with fail
              refine (HC9.out).mono ?_
              rintro e v5a ⟨cs5a, bs5a, rfl, hb5a, hG5a, -, hr5a⟩
              obtain ⟨ra5a, rc5a, rd5a, re5a, rfl⟩ := hG5a.form
              obtain ⟨X5a, hX5a⟩ : ∃ X, v5a.alloc (.cells #[.slice ra5a G2.nodes.length rc5a, .slice rd5a G2.edges.length re5a] 25) = X := ⟨_, rfl⟩
              have hba5a : Below v5a.heap.size v5a X5a := by rw [← hX5a]; exact (Below.refl _ _).alloc (Nat.le_refl _) _
              have hbk5a : Block X5a v5a.heap.size [.slice ra5a G2.nodes.length rc5a, .slice rd5a G2.edges.length re5a] 25 := by rw [← hX5a]; exact Block.new _ _ _
              have HBX5a := Lib.hid ((HBY5.out.below hb5a).below hba5a)
              have HG5a := Lib.hid ((hG5a.isG (fun b hb => (hr5a b hb).2)).below hba5a (Nat.le_refl _))
              have HZ5a := Lib.hid (show v5a.heap.size < X5a.heap.size by rw [← hX5a]; simp)
              have HK5a := Lib.hid hbk5a
              have HX5a := Lib.hid hX5a
              have x5a_0 := hbk5a.cell (i := 0) rfl
              have x5a_1 := hbk5a.cell (i := 1) rfl
              clear f0_0 f0_1 f1_0 f1_1 f1_2 f1_3 f2_0 f2_1 f2_2 f2_3 f2_4 f2_5
              rw [← hX5a] at x5a_0 x5a_1
              have f0_0 : X5a.cell? ⟨w.heap.size, 0, none⟩ = some (.slice na g.nodes.length nc) := HBX5a.out.cell 0 0 rfl rfl
              have f0_1 : X5a.cell? ⟨w.heap.size, 1, none⟩ = some (.slice ea g.edges.length ec) := HBX5a.out.cell 0 1 rfl rfl
              have f1_0 : X5a.cell? ⟨w.heap.size + 1, 0, none⟩ = some (.int .i64 n.id) := HBX5a.out.cell 1 0 rfl rfl
              have f1_1 : X5a.cell? ⟨w.heap.size + 1, 1, none⟩ = some (.slice la n.labels.length lc) := HBX5a.out.cell 1 1 rfl rfl
              have f1_2 : X5a.cell? ⟨w.heap.size + 1, 2, none⟩ = some (.slice ka n.keys.length kc) := HBX5a.out.cell 1 2 rfl rfl
              have f1_3 : X5a.cell? ⟨w.heap.size + 1, 3, none⟩ = some (.slice va n.vals.length vc) := HBX5a.out.cell 1 3 rfl rfl
              have f2_0 : X5a.cell? ⟨w.heap.size + 2, 0, none⟩ = some (.int .i64 d.id) := HBX5a.out.cell 2 0 rfl rfl
              have f2_1 : X5a.cell? ⟨w.heap.size + 2, 1, none⟩ = some (.int .i64 d.src) := HBX5a.out.cell 2 1 rfl rfl
              have f2_2 : X5a.cell? ⟨w.heap.size + 2, 2, none⟩ = some (.int .i64 d.dst) := HBX5a.out.cell 2 2 rfl rfl
              have f2_3 : X5a.cell? ⟨w.heap.size + 2, 3, none⟩ = some (.string d.ty) := HBX5a.out.cell 2 3 rfl rfl
              have f2_4 : X5a.cell? ⟨w.heap.size + 2, 4, none⟩ = some (.slice dka d.keys.length dkc) := HBX5a.out.cell 2 4 rfl rfl
              have f2_5 : X5a.cell? ⟨w.heap.size + 2, 5, none⟩ = some (.slice dva d.vals.length dvc) := HBX5a.out.cell 2 5 rfl rfl
              rw [← hX5a] at f0_0 f0_1 f1_0 f1_1 f1_2 f1_3 f2_0 f2_1 f2_2 f2_3 f2_4 f2_5
              clear hX5a hba5a hbk5a hb5a hr5a hG5a
              have HD9 := Lib.hid (cut_any G2 d.id _ v5a.heap.size X5a HG5a.out (Nat.le_of_lt HZ5a.out) HQ2.out HSG2.out)
              rw [HQ3.out] at HD9
              go_wp2_with fail
              rw [HX5a.out]
              refine (HD9.out).mono ?_
              rintro e v5b ⟨cs5b, bs5b, rfl, hb5b, hG5b, -, hr5b⟩
              obtain ⟨ra5b, rc5b, rd5b, re5b, rfl⟩ := hG5b.form
              obtain ⟨X5b, hX5b⟩ : ∃ X, v5b.alloc (.cells #[.slice ra5b g.nodes.length rc5b, .slice rd5b g.edges.length re5b] 25) = X := ⟨_, rfl⟩
              have hba5b : Below v5b.heap.size v5b X5b := by rw [← hX5b]; exact (Below.refl _ _).alloc (Nat.le_refl _) _
              have hbk5b : Block X5b v5b.heap.size [.slice ra5b g.nodes.length rc5b, .slice rd5b g.edges.length re5b] 25 := by rw [← hX5b]; exact Block.new _ _ _
              have HBX5b := Lib.hid ((HBX5a.out.below hb5b).below hba5b)
              have HG5b := Lib.hid ((hG5b.isG (fun b hb => (hr5b b hb).2)).below hba5b (Nat.le_refl _))
              have HZ5b := Lib.hid (show v5b.heap.size < X5b.heap.size by rw [← hX5b]; simp)
              have HK5b := Lib.hid hbk5b
              have HX5b := Lib.hid hX5b
              have x5b_0 := hbk5b.cell (i := 0) rfl
              have x5b_1 := hbk5b.cell (i := 1) rfl
              clear f0_0 f0_1 f1_0 f1_1 f1_2 f1_3 f2_0 f2_1 f2_2 f2_3 f2_4 f2_5 x5a_0 x5a_1
              have HS9 := Lib.hid (sameG_any g g _ _ (v5b.heap.size) X5b HG5b.out ((HGG.out _ HBX5b.out.bel).mono (by have := (HBX5a.out.below hb5b).bel.size; exact this)) (Nat.le_of_lt HZ5b.out))
              rw [(sameG_iff g g).2 rfl] at HS9
              rw [← hX5b] at x5b_0 x5b_1
              have f0_0 : X5b.cell? ⟨w.heap.size, 0, none⟩ = some (.slice na g.nodes.length nc) := HBX5b.out.cell 0 0 rfl rfl
              have f0_1 : X5b.cell? ⟨w.heap.size, 1, none⟩ = some (.slice ea g.edges.length ec) := HBX5b.out.cell 0 1 rfl rfl
              have f1_0 : X5b.cell? ⟨w.heap.size + 1, 0, none⟩ = some (.int .i64 n.id) := HBX5b.out.cell 1 0 rfl rfl
              have f1_1 : X5b.cell? ⟨w.heap.size + 1, 1, none⟩ = some (.slice la n.labels.length lc) := HBX5b.out.cell 1 1 rfl rfl
              have f1_2 : X5b.cell? ⟨w.heap.size + 1, 2, none⟩ = some (.slice ka n.keys.length kc) := HBX5b.out.cell 1 2 rfl rfl
              have f1_3 : X5b.cell? ⟨w.heap.size + 1, 3, none⟩ = some (.slice va n.vals.length vc) := HBX5b.out.cell 1 3 rfl rfl
              have f2_0 : X5b.cell? ⟨w.heap.size + 2, 0, none⟩ = some (.int .i64 d.id) := HBX5b.out.cell 2 0 rfl rfl
              have f2_1 : X5b.cell? ⟨w.heap.size + 2, 1, none⟩ = some (.int .i64 d.src) := HBX5b.out.cell 2 1 rfl rfl
              have f2_2 : X5b.cell? ⟨w.heap.size + 2, 2, none⟩ = some (.int .i64 d.dst) := HBX5b.out.cell 2 2 rfl rfl
              have f2_3 : X5b.cell? ⟨w.heap.size + 2, 3, none⟩ = some (.string d.ty) := HBX5b.out.cell 2 3 rfl rfl
              have f2_4 : X5b.cell? ⟨w.heap.size + 2, 4, none⟩ = some (.slice dka d.keys.length dkc) := HBX5b.out.cell 2 4 rfl rfl
              have f2_5 : X5b.cell? ⟨w.heap.size + 2, 5, none⟩ = some (.slice dva d.vals.length dvc) := HBX5b.out.cell 2 5 rfl rfl
              rw [← hX5b] at f0_0 f0_1 f1_0 f1_1 f1_2 f1_3 f2_0 f2_1 f2_2 f2_3 f2_4 f2_5
              clear hX5b hba5b hbk5b hb5b hr5b hG5b
              go_wp2_with fail
              rw [HX5b.out]
              refine HS9.out.mono ?_
              rintro e z5 ⟨rfl, hbz⟩
              have HBZ5 := Lib.hid (HBX5b.out.below hbz)
              clear f0_0 f0_1 f1_0 f1_1 f1_2 f1_3 f2_0 f2_1 f2_2 f2_3 f2_4 f2_5 x5b_0 x5b_1 hbz
              go_wp2_with fail
              refine (gworks_any z5).mono ?_
              rintro e wl ⟨rfl, hbl⟩
              have HBL := Lib.hid (HBZ5.out.below hbl)
              clear hbl
              go_wp2_with fail
              exact HQ.out _ HBL.out.bel
end Go.Proofs.Ytoakloicjlfaaaa
