/- The texts G18, G19, G33, G34, S27, S28, G35, G36, G37, G38 of this seat, one behind the other. Conditions: each says its own. -/
import Derived.Test.YtoakloicjlfaaaaM5

/- Layer 14: whether two nodes, edges, graphs are the same: the reference's answer. Conditions: none. -/
namespace Go.Proofs.Ytoakloicjlfaaaa
open Go.RowKit
set_option linter.unusedSimpArgs false
set_option linter.unusedVariables false
set_option maxRecDepth 100000

def sameN (n m : Nt) : Bool := decide (n.id = m.id) && (decide (n.labels = m.labels) && (decide (n.keys = m.keys) && sameVs n.vals m.vals))
def sameE (n m : Et) : Bool := decide (n.id = m.id) && (decide (n.src = m.src) && (decide (n.dst = m.dst) && (decide (n.ty = m.ty) && (decide (n.keys = m.keys) && sameVs n.vals m.vals))))
theorem sameVs_eq (l m : List Vt) : sameVs l m = true ↔ l = m := sameVs_iff l m (fun _ t _ u => sameV_iff t u)
theorem sameN_iff (n m : Nt) : sameN n m = true ↔ n = m := by
  obtain ⟨a1, a2, a3, a4⟩ := n
  obtain ⟨b1, b2, b3, b4⟩ := m
  simp [sameN, sameVs_eq]
theorem sameE_iff (n m : Et) : sameE n m = true ↔ n = m := by
  obtain ⟨a1, a2, a3, a4, a5, a6⟩ := n
  obtain ⟨b1, b2, b3, b4, b5, b6⟩ := m
  simp [sameE, sameVs_eq]
/-- One by one. -/
def sameL {α : Type} (f : α → α → Bool) : List α → List α → Bool
  | [], [] => true
  | x :: xs, y :: ys => f x y && sameL f xs ys
  | _, _ => false
theorem sameL_iff {α : Type} {f : α → α → Bool} (hf : ∀ x y, f x y = true ↔ x = y) : ∀ l m : List α, sameL f l m = true ↔ l = m
  | [], [] => by simp [sameL]
  | [], y :: ys => by simp [sameL]
  | x :: xs, [] => by simp [sameL]
  | x :: xs, y :: ys => by simp [sameL, hf, sameL_iff hf xs ys]
theorem sameL_len {α : Type} {f : α → α → Bool} : ∀ {l m : List α}, l.length ≠ m.length → sameL f l m = false
  | [], [], h => by simp at h
  | [], y :: ys, _ => rfl
  | x :: xs, [], _ => rfl
  | x :: xs, y :: ys, h => by simp only [sameL]; rw [sameL_len (l := xs) (m := ys) (fun e => h (by simp [e]))]; simp
theorem sameL_at {α : Type} {f : α → α → Bool} : ∀ {l m : List α} {j : Nat} {t u : α}, l[j]? = some t → m[j]? = some u → sameL f (l.drop j) (m.drop j) = (f t u && sameL f (l.drop (j + 1)) (m.drop (j + 1)))
  | x :: xs, y :: ys, 0, t, u, h1, h2 => by simp at h1 h2; subst h1 h2; rfl
  | x :: xs, y :: ys, j + 1, t, u, h1, h2 => by simpa using sameL_at (l := xs) (m := ys) (j := j) (by simpa using h1) (by simpa using h2)
  | [], _, j, t, u, h1, _ => by simp at h1
  | _ :: _, [], j, t, u, _, h2 => by simp at h2
def sameG (g h : Gt) : Bool := sameL sameN g.nodes h.nodes && sameL sameE g.edges h.edges
theorem sameG_iff (g h : Gt) : sameG g h = true ↔ g = h := by
  obtain ⟨a1, a2⟩ := g
  obtain ⟨b1, b2⟩ := h
  simp [sameG, sameL_iff sameN_iff, sameL_iff sameE_iff]
theorem sameList_all (l m : List Vt) (la ma : Option Addr) (lc mc : Nat) (B : Nat) (w : World) (hl : IsVs B w la 0 l) (hm : IsVs B w ma 0 m) (hB : B ≤ w.heap.size) (hll : l.length ≤ 9223372036854775807) (hml : m.length ≤ 9223372036854775807) :
    Calls Try.prog 68 #[.slice la l.length lc, .slice ma m.length mc] w fun e w' => e = .returned (.bool (sameVs l m)) ∧ Below w.heap.size w w' :=
  sameList_any l m (fun _ t _ => same_any t) la ma lc mc B w hl hm hB hll hml
/-- A row seen from whatever world grows out of one. -/
theorem RowR.ext {α : Type} {R : Nat → World → List Value → α → Prop} {size B M : Nat} {w W0 : World} {a : Option Addr} {l : List α} (h : RowR (R B w) size B w a l) (hbe : ∀ u : Ext M W0, Below w.heap.size w u.w) (hB : B ≤ w.heap.size) {j : Nat} {x : α} (hx : l[j]? = some x) :
    ∃ b off cs, a = some ⟨b, off, none⟩ ∧ b < B ∧ cs.length = size ∧ R B w cs x ∧ ∀ (u : Ext M W0) q v, cs[q]? = some v → u.w.cell? ⟨b, off + j * size + q, none⟩ = some v := by
  obtain ⟨b, off, cs, h1, h2, h3, h4, h5⟩ := h.at hx
  exact ⟨b, off, cs, h1, h2, h3, h4, fun u q v hv => by rw [(hbe u).cell (by show b < _; omega)]; exact h5 q v hv⟩

set_option maxHeartbeats 8000000 in
theorem sameN_any (n m : Nt) (cs ds : List Value) (B : Nat) (w : World) (hn : IsN B w cs n) (hm : IsN B w ds m) (hB : B ≤ w.heap.size) :
    Calls Try.prog 39 #[.agg cs.toArray, .agg ds.toArray] w fun e w' => e = .returned (.bool (sameN n m)) ∧ Below w.heap.size w w' := by
  obtain ⟨la, lc, ka, kc, va, vc, rfl, hid, hlo, hls, hko, hvo, hks, hvs⟩ := hn
  obtain ⟨mla, mlc, mka, mkc, mva, mvc, rfl, hid2, hlo2, hls2, hko2, hvo2, hks2, hvs2⟩ := hm
  show Calls Try.prog 39 #[.agg #[.int .i64 n.id, .slice la n.labels.length lc, .slice ka n.keys.length kc, .slice va n.vals.length vc], .agg #[.int .i64 m.id, .slice mla m.labels.length mlc, .slice mka m.keys.length mkc, .slice mva m.vals.length mvc]] w _
  obtain ⟨W0, hw0⟩ : ∃ w0, (w.alloc (.cells #[.int .i64 n.id, .slice la n.labels.length lc, .slice ka n.keys.length kc, .slice va n.vals.length vc] 38)).alloc (.cells #[.int .i64 m.id, .slice mla m.labels.length mlc, .slice mka m.keys.length mkc, .slice mva m.vals.length mvc] 38) = w0 := ⟨_, rfl⟩
  have hb0 : Below w.heap.size w W0 := by rw [← hw0]; exact ((Below.refl _ _).alloc (Nat.le_refl _) _).alloc (by simp) _
  have hX : Block W0 w.heap.size [.int .i64 n.id, .slice la n.labels.length lc, .slice ka n.keys.length kc, .slice va n.vals.length vc] 38 := by rw [← hw0]; exact (Block.new w _ _).alloc _
  have hY : Block W0 (w.heap.size + 1) [.int .i64 m.id, .slice mla m.labels.length mlc, .slice mka m.keys.length mkc, .slice mva m.vals.length mvc] 38 := by rw [← hw0]; have := Block.new (w.alloc (.cells #[.int .i64 n.id, .slice la n.labels.length lc, .slice ka n.keys.length kc, .slice va n.vals.length vc] 38)) [.int .i64 m.id, .slice mla m.labels.length mlc, .slice mka m.keys.length mkc, .slice mva m.vals.length mvc] 38; simpa using this
  have hsz : w.heap.size + 2 ≤ W0.heap.size := by rw [← hw0]; simp
  have hl0 : w.heap.size < w.heap.size + 2 := by omega
  have hl1 : w.heap.size + 1 < w.heap.size + 2 := by omega
  have hbe : ∀ u : Ext (w.heap.size + 2) W0, Below w.heap.size w u.w := fun u => hb0.trans (u.below.mono (by omega))
  have x0 : ∀ u : Ext (w.heap.size + 2) W0, u.w.cell? ⟨w.heap.size, 0, none⟩ = some (.int .i64 n.id) := fun u => u.cell hl0 (hX.cell rfl)
  have x1 : ∀ u : Ext (w.heap.size + 2) W0, u.w.cell? ⟨w.heap.size, 1, none⟩ = some (.slice la n.labels.length lc) := fun u => u.cell hl0 (hX.cell rfl)
  have x2 : ∀ u : Ext (w.heap.size + 2) W0, u.w.cell? ⟨w.heap.size, 2, none⟩ = some (.slice ka n.keys.length kc) := fun u => u.cell hl0 (hX.cell rfl)
  have x3 : ∀ u : Ext (w.heap.size + 2) W0, u.w.cell? ⟨w.heap.size, 3, none⟩ = some (.slice va n.vals.length vc) := fun u => u.cell hl0 (hX.cell rfl)
  have y0 : ∀ u : Ext (w.heap.size + 2) W0, u.w.cell? ⟨w.heap.size + 1, 0, none⟩ = some (.int .i64 m.id) := fun u => u.cell hl1 (hY.cell rfl)
  have y1 : ∀ u : Ext (w.heap.size + 2) W0, u.w.cell? ⟨w.heap.size + 1, 1, none⟩ = some (.slice mla m.labels.length mlc) := fun u => u.cell hl1 (hY.cell rfl)
  have y2 : ∀ u : Ext (w.heap.size + 2) W0, u.w.cell? ⟨w.heap.size + 1, 2, none⟩ = some (.slice mka m.keys.length mkc) := fun u => u.cell hl1 (hY.cell rfl)
  have y3 : ∀ u : Ext (w.heap.size + 2) W0, u.w.cell? ⟨w.heap.size + 1, 3, none⟩ = some (.slice mva m.vals.length mvc) := fun u => u.cell hl1 (hY.cell rfl)
  have HSL := Lib.hid (fun u : Ext (w.heap.size + 2) W0 => ext_call u hsz (sameNames_any n.labels m.labels la mla lc mlc B u.w (hls.below (hbe u) hB) (hls2.below (hbe u) hB) (Nat.le_trans hB (hbe u).size) (by have := hlo.1; omega) (by have := hlo2.1; omega)))
  have HSK := Lib.hid (fun u : Ext (w.heap.size + 2) W0 => ext_call u hsz (sameNames_any n.keys m.keys ka mka kc mkc B u.w (hks.below (hbe u) hB) (hks2.below (hbe u) hB) (Nat.le_trans hB (hbe u).size) (by have := hko.1; omega) (by have := hko2.1; omega)))
  have HSV := Lib.hid (fun u : Ext (w.heap.size + 2) W0 => ext_call u hsz (sameList_all n.vals m.vals va mva vc mvc B u.w (hvs.below (hbe u) hB) (hvs2.below (hbe u) hB) (Nat.le_trans hB (hbe u).size) (by have := hvo.1; omega) (by have := hvo2.1; omega)))
  have HBE := Lib.hid hbe
  have HW0 := Lib.hid hw0
  obtain ⟨u0, hu0⟩ := Ext.start (w.heap.size + 2) W0
  have HU0 := Lib.hid hu0
  have HR : Hid (∀ r, sameN n m = r → ∀ (u : Ext (w.heap.size + 2) W0), Ending.returned (.bool r) = Ending.returned (.bool (sameN n m)) ∧ Below w.heap.size w u.w) := Lib.hid (fun r h u => ⟨by rw [h], hbe u⟩)
  obtain ⟨Q, hQ⟩ : ∃ Q : Ending → World → Prop, (fun e w' => e = .returned (.bool (sameN n m)) ∧ Below w.heap.size w w') = Q := ⟨_, rfl⟩
  have HQ : Hid (∀ r, sameN n m = r → ∀ (u : Ext (w.heap.size + 2) W0), Q (.returned (.bool r)) u.w) := Lib.hid (fun r h u => by rw [← hQ]; exact ⟨by rw [h], hbe u⟩)
  rw [hQ]
  clear hQ HR hX hY hsz hl0 hl1 hbe hw0 hb0 hu0 hid hid2 hko hko2 hvo hvo2 hks hks2 hvs hvs2 hlo hlo2 hls hls2
  unfold sameN at HQ
  generalize decide (n.labels = m.labels) = rlabels at *
  generalize decide (n.keys = m.keys) = rkeys at *
  generalize sameVs n.vals m.vals = rvals at *
  generalize n.labels.length = nlabels at *
  generalize m.labels.length = mlabels at *
  generalize n.keys.length = nkeys at *
  generalize m.keys.length = mkeys at *
  generalize n.vals.length = nvals at *
  generalize m.vals.length = mvals at *
  generalize n.id = aid at *
  generalize m.id = bid at *
  by_cases hne : aid = bid
  · subst hne
    cases rlabels with
    | false =>
      have HF := Lib.hid (fun u => HQ.out false (by simp) u)
      clear HQ
      go_enter Try.func39, Try.ntmps39
      go_wp2_with fail
      rw [HW0.out, HU0.out]
      go_wp2_with (first | (go_at_call 67; (first | (with_reducible refine (HSK.out _).mono ?_) | (with_reducible refine (HSL.out _).mono ?_)); rintro e w1 ⟨rfl, u1, rfl⟩) | (go_at_call 68; with_reducible refine (HSV.out _).mono ?_; rintro e w1 ⟨rfl, u1, rfl⟩))
      exact HF.out _
    | true =>
      cases rkeys with
      | false =>
        have HF := Lib.hid (fun u => HQ.out false (by simp) u)
        clear HQ
        go_enter Try.func39, Try.ntmps39
        go_wp2_with fail
        rw [HW0.out, HU0.out]
        go_wp2_with (first | (go_at_call 67; (first | (with_reducible refine (HSK.out _).mono ?_) | (with_reducible refine (HSL.out _).mono ?_)); rintro e w1 ⟨rfl, u1, rfl⟩) | (go_at_call 68; with_reducible refine (HSV.out _).mono ?_; rintro e w1 ⟨rfl, u1, rfl⟩))
        exact HF.out _
      | true =>
        cases rvals with
        | false =>
          have HF := Lib.hid (fun u => HQ.out false (by simp) u)
          clear HQ
          go_enter Try.func39, Try.ntmps39
          go_wp2_with fail
          rw [HW0.out, HU0.out]
          go_wp2_with (first | (go_at_call 67; (first | (with_reducible refine (HSK.out _).mono ?_) | (with_reducible refine (HSL.out _).mono ?_)); rintro e w1 ⟨rfl, u1, rfl⟩) | (go_at_call 68; with_reducible refine (HSV.out _).mono ?_; rintro e w1 ⟨rfl, u1, rfl⟩))
          exact HF.out _
        | true =>
          have HF := Lib.hid (fun u => HQ.out true (by simp) u)
          clear HQ
          go_enter Try.func39, Try.ntmps39
          go_wp2_with fail
          rw [HW0.out, HU0.out]
          go_wp2_with (first | (go_at_call 67; (first | (with_reducible refine (HSK.out _).mono ?_) | (with_reducible refine (HSL.out _).mono ?_)); rintro e w1 ⟨rfl, u1, rfl⟩) | (go_at_call 68; with_reducible refine (HSV.out _).mono ?_; rintro e w1 ⟨rfl, u1, rfl⟩))
          exact HF.out _
  · have HF := Lib.hid (fun u => HQ.out false (by simp [hne]) u)
    clear HQ
    have hne2 : (aid == bid) = false := by simpa using hne
    clear hne
    go_enter Try.func39, Try.ntmps39
    go_wp2_with fail
    rw [HW0.out, HU0.out]
    go_wp2_with (first | (go_at_call 67; (first | (with_reducible refine (HSK.out _).mono ?_) | (with_reducible refine (HSL.out _).mono ?_)); rintro e w1 ⟨rfl, u1, rfl⟩) | (go_at_call 68; with_reducible refine (HSV.out _).mono ?_; rintro e w1 ⟨rfl, u1, rfl⟩))
    exact HF.out _

set_option maxHeartbeats 8000000 in
theorem sameE_any (n m : Et) (cs ds : List Value) (B : Nat) (w : World) (hn : IsE B w cs n) (hm : IsE B w ds m) (hB : B ≤ w.heap.size) :
    Calls Try.prog 60 #[.agg cs.toArray, .agg ds.toArray] w fun e w' => e = .returned (.bool (sameE n m)) ∧ Below w.heap.size w w' := by
  obtain ⟨ka, kc, va, vc, rfl, hid, hko, hvo, hks, hvs⟩ := hn
  obtain ⟨mka, mkc, mva, mvc, rfl, hid2, hko2, hvo2, hks2, hvs2⟩ := hm
  show Calls Try.prog 60 #[.agg #[.int .i64 n.id, .int .i64 n.src, .int .i64 n.dst, .string n.ty, .slice ka n.keys.length kc, .slice va n.vals.length vc], .agg #[.int .i64 m.id, .int .i64 m.src, .int .i64 m.dst, .string m.ty, .slice mka m.keys.length mkc, .slice mva m.vals.length mvc]] w _
  obtain ⟨W0, hw0⟩ : ∃ w0, (w.alloc (.cells #[.int .i64 n.id, .int .i64 n.src, .int .i64 n.dst, .string n.ty, .slice ka n.keys.length kc, .slice va n.vals.length vc] 40)).alloc (.cells #[.int .i64 m.id, .int .i64 m.src, .int .i64 m.dst, .string m.ty, .slice mka m.keys.length mkc, .slice mva m.vals.length mvc] 40) = w0 := ⟨_, rfl⟩
  have hb0 : Below w.heap.size w W0 := by rw [← hw0]; exact ((Below.refl _ _).alloc (Nat.le_refl _) _).alloc (by simp) _
  have hX : Block W0 w.heap.size [.int .i64 n.id, .int .i64 n.src, .int .i64 n.dst, .string n.ty, .slice ka n.keys.length kc, .slice va n.vals.length vc] 40 := by rw [← hw0]; exact (Block.new w _ _).alloc _
  have hY : Block W0 (w.heap.size + 1) [.int .i64 m.id, .int .i64 m.src, .int .i64 m.dst, .string m.ty, .slice mka m.keys.length mkc, .slice mva m.vals.length mvc] 40 := by rw [← hw0]; have := Block.new (w.alloc (.cells #[.int .i64 n.id, .int .i64 n.src, .int .i64 n.dst, .string n.ty, .slice ka n.keys.length kc, .slice va n.vals.length vc] 40)) [.int .i64 m.id, .int .i64 m.src, .int .i64 m.dst, .string m.ty, .slice mka m.keys.length mkc, .slice mva m.vals.length mvc] 40; simpa using this
  have hsz : w.heap.size + 2 ≤ W0.heap.size := by rw [← hw0]; simp
  have hl0 : w.heap.size < w.heap.size + 2 := by omega
  have hl1 : w.heap.size + 1 < w.heap.size + 2 := by omega
  have hbe : ∀ u : Ext (w.heap.size + 2) W0, Below w.heap.size w u.w := fun u => hb0.trans (u.below.mono (by omega))
  have x0 : ∀ u : Ext (w.heap.size + 2) W0, u.w.cell? ⟨w.heap.size, 0, none⟩ = some (.int .i64 n.id) := fun u => u.cell hl0 (hX.cell rfl)
  have x1 : ∀ u : Ext (w.heap.size + 2) W0, u.w.cell? ⟨w.heap.size, 1, none⟩ = some (.int .i64 n.src) := fun u => u.cell hl0 (hX.cell rfl)
  have x2 : ∀ u : Ext (w.heap.size + 2) W0, u.w.cell? ⟨w.heap.size, 2, none⟩ = some (.int .i64 n.dst) := fun u => u.cell hl0 (hX.cell rfl)
  have x3 : ∀ u : Ext (w.heap.size + 2) W0, u.w.cell? ⟨w.heap.size, 3, none⟩ = some (.string n.ty) := fun u => u.cell hl0 (hX.cell rfl)
  have x4 : ∀ u : Ext (w.heap.size + 2) W0, u.w.cell? ⟨w.heap.size, 4, none⟩ = some (.slice ka n.keys.length kc) := fun u => u.cell hl0 (hX.cell rfl)
  have x5 : ∀ u : Ext (w.heap.size + 2) W0, u.w.cell? ⟨w.heap.size, 5, none⟩ = some (.slice va n.vals.length vc) := fun u => u.cell hl0 (hX.cell rfl)
  have y0 : ∀ u : Ext (w.heap.size + 2) W0, u.w.cell? ⟨w.heap.size + 1, 0, none⟩ = some (.int .i64 m.id) := fun u => u.cell hl1 (hY.cell rfl)
  have y1 : ∀ u : Ext (w.heap.size + 2) W0, u.w.cell? ⟨w.heap.size + 1, 1, none⟩ = some (.int .i64 m.src) := fun u => u.cell hl1 (hY.cell rfl)
  have y2 : ∀ u : Ext (w.heap.size + 2) W0, u.w.cell? ⟨w.heap.size + 1, 2, none⟩ = some (.int .i64 m.dst) := fun u => u.cell hl1 (hY.cell rfl)
  have y3 : ∀ u : Ext (w.heap.size + 2) W0, u.w.cell? ⟨w.heap.size + 1, 3, none⟩ = some (.string m.ty) := fun u => u.cell hl1 (hY.cell rfl)
  have y4 : ∀ u : Ext (w.heap.size + 2) W0, u.w.cell? ⟨w.heap.size + 1, 4, none⟩ = some (.slice mka m.keys.length mkc) := fun u => u.cell hl1 (hY.cell rfl)
  have y5 : ∀ u : Ext (w.heap.size + 2) W0, u.w.cell? ⟨w.heap.size + 1, 5, none⟩ = some (.slice mva m.vals.length mvc) := fun u => u.cell hl1 (hY.cell rfl)
  have HSK := Lib.hid (fun u : Ext (w.heap.size + 2) W0 => ext_call u hsz (sameNames_any n.keys m.keys ka mka kc mkc B u.w (hks.below (hbe u) hB) (hks2.below (hbe u) hB) (Nat.le_trans hB (hbe u).size) (by have := hko.1; omega) (by have := hko2.1; omega)))
  have HSV := Lib.hid (fun u : Ext (w.heap.size + 2) W0 => ext_call u hsz (sameList_all n.vals m.vals va mva vc mvc B u.w (hvs.below (hbe u) hB) (hvs2.below (hbe u) hB) (Nat.le_trans hB (hbe u).size) (by have := hvo.1; omega) (by have := hvo2.1; omega)))
  have HBE := Lib.hid hbe
  have HW0 := Lib.hid hw0
  obtain ⟨u0, hu0⟩ := Ext.start (w.heap.size + 2) W0
  have HU0 := Lib.hid hu0
  have HR : Hid (∀ r, sameE n m = r → ∀ (u : Ext (w.heap.size + 2) W0), Ending.returned (.bool r) = Ending.returned (.bool (sameE n m)) ∧ Below w.heap.size w u.w) := Lib.hid (fun r h u => ⟨by rw [h], hbe u⟩)
  obtain ⟨Q, hQ⟩ : ∃ Q : Ending → World → Prop, (fun e w' => e = .returned (.bool (sameE n m)) ∧ Below w.heap.size w w') = Q := ⟨_, rfl⟩
  have HQ : Hid (∀ r, sameE n m = r → ∀ (u : Ext (w.heap.size + 2) W0), Q (.returned (.bool r)) u.w) := Lib.hid (fun r h u => by rw [← hQ]; exact ⟨by rw [h], hbe u⟩)
  rw [hQ]
  clear hQ HR hX hY hsz hl0 hl1 hbe hw0 hb0 hu0 hid hid2 hko hko2 hvo hvo2 hks hks2 hvs hvs2
  unfold sameE at HQ
  generalize decide (n.keys = m.keys) = rkeys at *
  generalize sameVs n.vals m.vals = rvals at *
  generalize n.keys.length = nkeys at *
  generalize m.keys.length = mkeys at *
  generalize n.vals.length = nvals at *
  generalize m.vals.length = mvals at *
  generalize n.id = aid at *
  generalize m.id = bid at *
  generalize n.src = asrc at *
  generalize m.src = bsrc at *
  generalize n.dst = adst at *
  generalize m.dst = bdst at *
  generalize n.ty = aty at *
  generalize m.ty = bty at *
  by_cases hne : aid = bid
  · subst hne
    by_cases hne : asrc = bsrc
    · subst hne
      by_cases hne : adst = bdst
      · subst hne
        by_cases hne : aty = bty
        · subst hne
          cases rkeys with
          | false =>
            have HF := Lib.hid (fun u => HQ.out false (by simp) u)
            clear HQ
            go_enter Try.func60, Try.ntmps60
            go_wp2_with fail
            rw [HW0.out, HU0.out]
            go_wp2_with (first | (go_at_call 67; (first | (with_reducible refine (HSK.out _).mono ?_)); rintro e w1 ⟨rfl, u1, rfl⟩) | (go_at_call 68; with_reducible refine (HSV.out _).mono ?_; rintro e w1 ⟨rfl, u1, rfl⟩))
            exact HF.out _
          | true =>
            cases rvals with
            | false =>
              have HF := Lib.hid (fun u => HQ.out false (by simp) u)
              clear HQ
              go_enter Try.func60, Try.ntmps60
              go_wp2_with fail
              rw [HW0.out, HU0.out]
              go_wp2_with (first | (go_at_call 67; (first | (with_reducible refine (HSK.out _).mono ?_)); rintro e w1 ⟨rfl, u1, rfl⟩) | (go_at_call 68; with_reducible refine (HSV.out _).mono ?_; rintro e w1 ⟨rfl, u1, rfl⟩))
              exact HF.out _
            | true =>
              have HF := Lib.hid (fun u => HQ.out true (by simp) u)
              clear HQ
              go_enter Try.func60, Try.ntmps60
              go_wp2_with fail
              rw [HW0.out, HU0.out]
              go_wp2_with (first | (go_at_call 67; (first | (with_reducible refine (HSK.out _).mono ?_)); rintro e w1 ⟨rfl, u1, rfl⟩) | (go_at_call 68; with_reducible refine (HSV.out _).mono ?_; rintro e w1 ⟨rfl, u1, rfl⟩))
              exact HF.out _
        · have HF := Lib.hid (fun u => HQ.out false (by simp [hne]) u)
          clear HQ
          have hne2 : (aty.toList == bty.toList) = false := by rw [ba_beq]; simpa using hne
          have hne3 : ¬ aty.toList = bty.toList := by simpa using hne2
          clear hne
          go_enter Try.func60, Try.ntmps60
          go_wp2_with fail
          rw [HW0.out, HU0.out]
          go_wp2_with (first | (go_at_call 67; (first | (with_reducible refine (HSK.out _).mono ?_)); rintro e w1 ⟨rfl, u1, rfl⟩) | (go_at_call 68; with_reducible refine (HSV.out _).mono ?_; rintro e w1 ⟨rfl, u1, rfl⟩))
          exact HF.out _
      · have HF := Lib.hid (fun u => HQ.out false (by simp [hne]) u)
        clear HQ
        have hne2 : (adst == bdst) = false := by simpa using hne
        clear hne
        go_enter Try.func60, Try.ntmps60
        go_wp2_with fail
        rw [HW0.out, HU0.out]
        go_wp2_with (first | (go_at_call 67; (first | (with_reducible refine (HSK.out _).mono ?_)); rintro e w1 ⟨rfl, u1, rfl⟩) | (go_at_call 68; with_reducible refine (HSV.out _).mono ?_; rintro e w1 ⟨rfl, u1, rfl⟩))
        exact HF.out _
    · have HF := Lib.hid (fun u => HQ.out false (by simp [hne]) u)
      clear HQ
      have hne2 : (asrc == bsrc) = false := by simpa using hne
      clear hne
      go_enter Try.func60, Try.ntmps60
      go_wp2_with fail
      rw [HW0.out, HU0.out]
      go_wp2_with (first | (go_at_call 67; (first | (with_reducible refine (HSK.out _).mono ?_)); rintro e w1 ⟨rfl, u1, rfl⟩) | (go_at_call 68; with_reducible refine (HSV.out _).mono ?_; rintro e w1 ⟨rfl, u1, rfl⟩))
      exact HF.out _
  · have HF := Lib.hid (fun u => HQ.out false (by simp [hne]) u)
    clear HQ
    have hne2 : (aid == bid) = false := by simpa using hne
    clear hne
    go_enter Try.func60, Try.ntmps60
    go_wp2_with fail
    rw [HW0.out, HU0.out]
    go_wp2_with (first | (go_at_call 67; (first | (with_reducible refine (HSK.out _).mono ?_)); rintro e w1 ⟨rfl, u1, rfl⟩) | (go_at_call 68; with_reducible refine (HSV.out _).mono ?_; rintro e w1 ⟨rfl, u1, rfl⟩))
    exact HF.out _
end Go.Proofs.Ytoakloicjlfaaaa

/- Layer 14: whether two lists of edges, two graphs are the same: the reference's answer. Conditions: none. -/
namespace Go.Proofs.Ytoakloicjlfaaaa
open Go.RowKit
set_option linter.unusedSimpArgs false
set_option linter.unusedVariables false
set_option maxRecDepth 100000

theorem sameL_nil {α : Type} {f : α → α → Bool} {l m : List α} (h : l.length = m.length) : sameL f (l.drop l.length) (m.drop l.length) = true := by
  rw [List.drop_eq_nil_of_le (Nat.le_refl _), List.drop_eq_nil_of_le (by omega)]; rfl

set_option maxHeartbeats 8000000 in
theorem sameEdges_any (l m : List Et) (a b : Option Addr) (c d B : Nat) (w : World) (hl : RowR (IsE B w) 6 B w a l) (hm : RowR (IsE B w) 6 B w b m) (hB : B ≤ w.heap.size) (hll : l.length ≤ 9223372036854775807) (hml : m.length ≤ 9223372036854775807) :
    Calls Try.prog 28 #[.slice a l.length c, .slice b m.length d] w fun e w' => e = .returned (.bool (sameL sameE l m)) ∧ Below w.heap.size w w' := by
  obtain ⟨W0, hw0⟩ : ∃ w0, w = w0 := ⟨_, rfl⟩
  have hbe : ∀ u : Ext w.heap.size W0, Below w.heap.size w u.w := by subst hw0; exact fun u => u.below
  have hsz : w.heap.size ≤ W0.heap.size := by rw [← hw0]; exact Nat.le_refl _
  have HBE := Lib.hid hbe
  have HSZ := Lib.hid hsz
  have HL := Lib.hid hl
  have HM := Lib.hid hm
  obtain ⟨Q, hQ⟩ : ∃ Q : Ending → World → Prop, (fun e w' => e = .returned (.bool (sameL sameE l m)) ∧ Below w.heap.size w w') = Q := ⟨_, rfl⟩
  have HQ : Hid (∀ r, sameL sameE l m = r → ∀ (u : Ext w.heap.size W0), Q (.returned (.bool r)) u.w) := Lib.hid (fun r h u => by rw [← hQ]; exact ⟨by rw [h], hbe u⟩)
  rw [hQ]
  clear hQ
  obtain ⟨u0, hu0⟩ := Ext.start w.heap.size W0
  have HU0 := Lib.hid (hw0.trans hu0)
  obtain ⟨n1, hn1⟩ : ∃ n, l.length = n := ⟨_, rfl⟩
  obtain ⟨n2, hn2⟩ : ∃ n, m.length = n := ⟨_, rfl⟩
  rw [hn1, hn2]
  rw [hn1] at hll
  rw [hn2] at hml
  by_cases hne : n1 = n2
  · have HLEN : Hid (l.length = n1 ∧ m.length = n1) := Lib.hid ⟨hn1, hn2.trans hne.symm⟩
    clear hl hm hbe hsz hw0 hu0 hml
    rw [← hne]
    clear hne hn2 hn1 n2
    go_enter Try.func28, Try.ntmps28
    go_wp2_with fail
    rw [HU0.out]
    go_loopw [5] (fun iv wr => ∃ (j : Nat) (u : Ext w.heap.size W0), iv = .int .i64 j ∧ j ≤ n1 ∧ Hid (sameL sameE l m = sameL sameE (l.drop j) (m.drop j)) ∧ wr = u.w) (fun iv _ => n1 - (intOf iv).toNat)
    case atStart => exact ⟨0, u0, rfl, Nat.zero_le _, Lib.hid rfl, rfl⟩
    case round =>
      obtain ⟨j, u, rfl, hj, HST, rfl⟩ := hrel
      by_cases hlt : j < n1
      · have hlt' : (j : Int) < n1 := by omega
        have hj0 : (0 : Int) ≤ (j : Int) := by omega
        have hwi : IntKind.i64.wrap ((j : Int) + 1) = (j : Int) + 1 := IntWalk.i64_in _ (by omega)
        obtain ⟨n, hnj⟩ : ∃ n, l[j]? = some n := by have := HLEN.out; obtain ⟨n, h⟩ := get_some (l := l) (j := j) (by omega); exact ⟨n, h⟩
        obtain ⟨m1, hmj⟩ : ∃ n, m[j]? = some n := by have := HLEN.out; obtain ⟨n, h⟩ := get_some (l := m) (j := j) (by omega); exact ⟨n, h⟩
        obtain ⟨b, off, cs, rfl, hbB, _, hc, hcell⟩ := HL.out.ext HBE.out hB hnj
        obtain ⟨b2, off2, cs2, rfl, hbB2, _, hc2, hcell2⟩ := HM.out.ext HBE.out hB hmj
        have HCS := Lib.hid (fun u : Ext w.heap.size W0 => ext_call u HSZ.out (sameE_any n m1 cs cs2 B u.w (hc.below (HBE.out u) hB) (hc2.below (HBE.out u) hB) (Nat.le_trans hB (HBE.out u).size)))
        have hst := sameL_at (f := sameE) hnj hmj
        obtain ⟨ka, kc, va, vc, rfl, -, -⟩ := hc
        obtain ⟨mka, mkc, mva, mvc, rfl, -, -⟩ := hc2
        have k0 : ∀ u : Ext w.heap.size W0, u.w.cell? ⟨b, off + j * 6, none⟩ = some (.int .i64 n.id) := fun u => hcell u 0 _ rfl
        have q0 : ∀ u : Ext w.heap.size W0, u.w.cell? ⟨b2, off2 + j * 6, none⟩ = some (.int .i64 m1.id) := fun u => hcell2 u 0 _ rfl
        have k1 := fun u => hcell u 1 _ rfl
        have q1 := fun u => hcell2 u 1 _ rfl
        have k2 := fun u => hcell u 2 _ rfl
        have q2 := fun u => hcell2 u 2 _ rfl
        have k3 := fun u => hcell u 3 _ rfl
        have q3 := fun u => hcell2 u 3 _ rfl
        have k4 := fun u => hcell u 4 _ rfl
        have q4 := fun u => hcell2 u 4 _ rfl
        have k5 := fun u => hcell u 5 _ rfl
        have q5 := fun u => hcell2 u 5 _ rfl
        clear hcell hcell2 hnj hmj
        cases hok : sameE n m1 with
        | false =>
          rw [hok] at HCS hst
          have HF := Lib.hid (HST.out.trans (hst.trans (Bool.false_and _)))
          clear hok hst
          generalize n.keys.length = nkeys at *
          generalize n.vals.length = nvals at *
          generalize m1.keys.length = mkeys at *
          generalize m1.vals.length = mvals at *
          generalize n.id = i0 at *
          generalize m1.id = i1 at *
          generalize n.src = a0 at *
          generalize m1.src = a1 at *
          generalize n.dst = d0 at *
          generalize m1.dst = d1 at *
          generalize n.ty = t0 at *
          generalize m1.ty = t1 at *
          go_wp2_with fail
          refine wp_region_at u (by kernel_rfl) (by kernel_rfl) ?_
          repeat (go_big_quiet_step (first | (with_reducible exact HCS.out _)))
          refine wpQuiet_nil ?_
          rintro w2 ⟨u2, rfl⟩
          go_wp2_with fail
          exact HQ.out _ (HF.out) u2
        | true =>
          rw [hok] at HCS hst
          have HF := Lib.hid (HST.out.trans (hst.trans (Bool.true_and _)))
          clear hok hst
          generalize n.keys.length = nkeys at *
          generalize n.vals.length = nvals at *
          generalize m1.keys.length = mkeys at *
          generalize m1.vals.length = mvals at *
          generalize n.id = i0 at *
          generalize m1.id = i1 at *
          generalize n.src = a0 at *
          generalize m1.src = a1 at *
          generalize n.dst = d0 at *
          generalize m1.dst = d1 at *
          generalize n.ty = t0 at *
          generalize m1.ty = t1 at *
          go_wp2_with fail
          refine wp_region_at u (by kernel_rfl) (by kernel_rfl) ?_
          repeat (go_big_quiet_step (first | (with_reducible exact HCS.out _)))
          refine wpQuiet_nil ?_
          rintro w2 ⟨u2, rfl⟩
          go_wp2_with fail
          go_roundw
          case rel => exact ⟨j + 1, u2, by go_num, by omega, HF, rfl⟩
          case measure => simp [intOf]; omega
      · have hlt' : ¬ (j : Int) < n1 := by omega
        have hjn : j = n1 := by omega
        have HF : Hid (sameL sameE l m = true) := Lib.hid (by have h1 := HST.out; have h2 := HLEN.out; rw [h1, hjn, ← h2.1]; exact sameL_nil (h2.1.trans h2.2.symm))
        clear hjn
        go_wp2_with fail
        exact HQ.out _ HF.out u
  · have hne' : ((n1 : Int) == (n2 : Int)) = false := by simp; omega
    have hne2 : ¬ (n1 : Int) = (n2 : Int) := by omega
    have hne3 : ((n1 : Int) != (n2 : Int)) = true := by simp; omega
    have HF : Hid (sameL sameE l m = false) := Lib.hid (sameL_len (by omega))
    clear hl hm hbe hsz hw0 hu0 hne hn1 hn2
    go_enter Try.func28, Try.ntmps28
    go_wp2_with fail
    rw [HU0.out]
    exact HQ.out _ HF.out u0

set_option maxHeartbeats 8000000 in
theorem sameG_any (g h : Gt) (cs ds : List Value) (B : Nat) (w : World) (hg : IsG B w cs g) (hh : IsG B w ds h) (hB : B ≤ w.heap.size) :
    Calls Try.prog 10 #[.agg cs.toArray, .agg ds.toArray] w fun e w' => e = .returned (.bool (sameG g h)) ∧ Below w.heap.size w w' := by
  obtain ⟨na, nc, ea, ec, rfl, hn, he, hN, hE⟩ := hg
  obtain ⟨mna, mnc, mea, mec, rfl, hn2, he2, hN2, hE2⟩ := hh
  show Calls Try.prog 10 #[.agg #[.slice na g.nodes.length nc, .slice ea g.edges.length ec], .agg #[.slice mna h.nodes.length mnc, .slice mea h.edges.length mec]] w _
  obtain ⟨W0, hw0⟩ : ∃ w0, (w.alloc (.cells #[.slice na g.nodes.length nc, .slice ea g.edges.length ec] 25)).alloc (.cells #[.slice mna h.nodes.length mnc, .slice mea h.edges.length mec] 25) = w0 := ⟨_, rfl⟩
  have hb0 : Below w.heap.size w W0 := by rw [← hw0]; exact ((Below.refl _ _).alloc (Nat.le_refl _) _).alloc (by simp) _
  have hX : Block W0 w.heap.size [.slice na g.nodes.length nc, .slice ea g.edges.length ec] 25 := by rw [← hw0]; exact (Block.new w _ _).alloc _
  have hY : Block W0 (w.heap.size + 1) [.slice mna h.nodes.length mnc, .slice mea h.edges.length mec] 25 := by rw [← hw0]; have := Block.new (w.alloc (.cells #[.slice na g.nodes.length nc, .slice ea g.edges.length ec] 25)) [.slice mna h.nodes.length mnc, .slice mea h.edges.length mec] 25; simpa using this
  have hsz : w.heap.size + 2 ≤ W0.heap.size := by rw [← hw0]; simp
  have hl0 : w.heap.size < w.heap.size + 2 := by omega
  have hl1 : w.heap.size + 1 < w.heap.size + 2 := by omega
  have hbe : ∀ u : Ext (w.heap.size + 2) W0, Below w.heap.size w u.w := fun u => hb0.trans (u.below.mono (by omega))
  have x0 : ∀ u : Ext (w.heap.size + 2) W0, u.w.cell? ⟨w.heap.size, 0, none⟩ = some (.slice na g.nodes.length nc) := fun u => u.cell hl0 (hX.cell rfl)
  have x1 : ∀ u : Ext (w.heap.size + 2) W0, u.w.cell? ⟨w.heap.size, 1, none⟩ = some (.slice ea g.edges.length ec) := fun u => u.cell hl0 (hX.cell rfl)
  have y0 : ∀ u : Ext (w.heap.size + 2) W0, u.w.cell? ⟨w.heap.size + 1, 0, none⟩ = some (.slice mna h.nodes.length mnc) := fun u => u.cell hl1 (hY.cell rfl)
  have y1 : ∀ u : Ext (w.heap.size + 2) W0, u.w.cell? ⟨w.heap.size + 1, 1, none⟩ = some (.slice mea h.edges.length mec) := fun u => u.cell hl1 (hY.cell rfl)
  have HSE := Lib.hid (fun u : Ext (w.heap.size + 2) W0 => ext_call u hsz (sameEdges_any g.edges h.edges ea mea ec mec B u.w (hE.below (hbe u) hB (fun _ _ h => h.below (hbe u) hB)) (hE2.below (hbe u) hB (fun _ _ h => h.below (hbe u) hB)) (Nat.le_trans hB (hbe u).size) (by have := he.1; omega) (by have := he2.1; omega)))
  have HBE := Lib.hid hbe
  have HSZ := Lib.hid hsz
  have HL := Lib.hid hN
  have HM := Lib.hid hN2
  obtain ⟨Q, hQ⟩ : ∃ Q : Ending → World → Prop, (fun e w' => e = .returned (.bool (sameG g h)) ∧ Below w.heap.size w w') = Q := ⟨_, rfl⟩
  have HQ : Hid (∀ r, sameG g h = r → ∀ (u : Ext (w.heap.size + 2) W0), Q (.returned (.bool r)) u.w) := Lib.hid (fun r h u => by rw [← hQ]; exact ⟨by rw [h], hbe u⟩)
  rw [hQ]
  clear hQ
  have HW0 := Lib.hid hw0
  obtain ⟨u0, hu0⟩ := Ext.start (w.heap.size + 2) W0
  have HU0 := Lib.hid hu0
  have hll : g.nodes.length ≤ 9223372036854775807 := by have := hn.1; omega
  have hml : h.nodes.length ≤ 9223372036854775807 := by have := hn2.1; omega
  clear hX hY hsz hl0 hl1 hbe hw0 hb0 hu0 hE hE2 hN hN2 hn hn2 he he2
  generalize hrE : sameL sameE g.edges h.edges = rE at *
  have HRE := Lib.hid hrE
  clear hrE
  generalize g.edges.length = e1 at *
  generalize h.edges.length = e2 at *
  obtain ⟨n1, hn1⟩ : ∃ n, g.nodes.length = n := ⟨_, rfl⟩
  obtain ⟨n2, hn2⟩ : ∃ n, h.nodes.length = n := ⟨_, rfl⟩
  rw [hn1] at hll x0 HW0 ⊢
  rw [hn2] at hml y0 HW0 ⊢
  by_cases hne : n1 = n2
  · have HLEN : Hid (g.nodes.length = n1 ∧ h.nodes.length = n1) := Lib.hid ⟨hn1, hn2.trans hne.symm⟩
    subst hne
    clear hn2 hn1 hml
    go_enter Try.func10, Try.ntmps10
    go_wp2_with fail
    rw [HW0.out, HU0.out]
    go_wp2_with fail
    go_loopw [5] (fun iv wr => ∃ (j : Nat) (u : Ext (w.heap.size + 2) W0), iv = .int .i64 j ∧ j ≤ n1 ∧ Hid (sameL sameN g.nodes h.nodes = sameL sameN (g.nodes.drop j) (h.nodes.drop j)) ∧ wr = u.w) (fun iv _ => n1 - (intOf iv).toNat)
    case atStart => exact ⟨0, u0, rfl, Nat.zero_le _, Lib.hid rfl, rfl⟩
    case round =>
      obtain ⟨j, u, rfl, hj, HST, rfl⟩ := hrel
      by_cases hlt : j < n1
      · have hlt' : (j : Int) < n1 := by omega
        have hj0 : (0 : Int) ≤ (j : Int) := by omega
        have hwi : IntKind.i64.wrap ((j : Int) + 1) = (j : Int) + 1 := IntWalk.i64_in _ (by omega)
        obtain ⟨n, hnj⟩ : ∃ n, g.nodes[j]? = some n := by have := HLEN.out; obtain ⟨n, h⟩ := get_some (l := g.nodes) (j := j) (by omega); exact ⟨n, h⟩
        obtain ⟨m1, hmj⟩ : ∃ n, h.nodes[j]? = some n := by have := HLEN.out; obtain ⟨n, h⟩ := get_some (l := h.nodes) (j := j) (by omega); exact ⟨n, h⟩
        obtain ⟨b, off, cs, rfl, hbB, _, hc, hcell⟩ := HL.out.ext HBE.out hB hnj
        obtain ⟨b2, off2, cs2, rfl, hbB2, _, hc2, hcell2⟩ := HM.out.ext HBE.out hB hmj
        have HCS := Lib.hid (fun u : Ext (w.heap.size + 2) W0 => ext_call u HSZ.out (sameN_any n m1 cs cs2 B u.w (hc.below (HBE.out u) hB) (hc2.below (HBE.out u) hB) (Nat.le_trans hB (HBE.out u).size)))
        have hst := sameL_at (f := sameN) hnj hmj
        obtain ⟨la, lc, ka, kc, va, vc, rfl, -, -, -, -⟩ := hc
        obtain ⟨mla, mlc, mka, mkc, mva, mvc, rfl, -, -, -, -⟩ := hc2
        have k0 : ∀ u : Ext (w.heap.size + 2) W0, u.w.cell? ⟨b, off + j * 4, none⟩ = some (.int .i64 n.id) := fun u => hcell u 0 _ rfl
        have q0 : ∀ u : Ext (w.heap.size + 2) W0, u.w.cell? ⟨b2, off2 + j * 4, none⟩ = some (.int .i64 m1.id) := fun u => hcell2 u 0 _ rfl
        have k1 := fun u => hcell u 1 _ rfl
        have q1 := fun u => hcell2 u 1 _ rfl
        have k2 := fun u => hcell u 2 _ rfl
        have q2 := fun u => hcell2 u 2 _ rfl
        have k3 := fun u => hcell u 3 _ rfl
        have q3 := fun u => hcell2 u 3 _ rfl
        clear hcell hcell2 hnj hmj
        cases hok : sameN n m1 with
        | false =>
          rw [hok] at HCS hst
          have HF := Lib.hid (HST.out.trans (hst.trans (Bool.false_and _)))
          clear hok hst
          generalize n.labels.length = nlabels at *
          generalize n.keys.length = nkeys at *
          generalize n.vals.length = nvals at *
          generalize m1.labels.length = mlabels at *
          generalize m1.keys.length = mkeys at *
          generalize m1.vals.length = mvals at *
          generalize n.id = i0 at *
          generalize m1.id = i1 at *
          go_wp2_with fail
          refine wp_region_at u (by kernel_rfl) (by kernel_rfl) ?_
          repeat (go_big_quiet_step (first | (with_reducible exact HCS.out _)))
          refine wpQuiet_nil ?_
          rintro w2 ⟨u2, rfl⟩
          go_wp2_with fail
          exact HQ.out _ (by unfold sameG; rw [HF.out]; rfl) u2
        | true =>
          rw [hok] at HCS hst
          have HF := Lib.hid (HST.out.trans (hst.trans (Bool.true_and _)))
          clear hok hst
          generalize n.labels.length = nlabels at *
          generalize n.keys.length = nkeys at *
          generalize n.vals.length = nvals at *
          generalize m1.labels.length = mlabels at *
          generalize m1.keys.length = mkeys at *
          generalize m1.vals.length = mvals at *
          generalize n.id = i0 at *
          generalize m1.id = i1 at *
          go_wp2_with fail
          refine wp_region_at u (by kernel_rfl) (by kernel_rfl) ?_
          repeat (go_big_quiet_step (first | (with_reducible exact HCS.out _)))
          refine wpQuiet_nil ?_
          rintro w2 ⟨u2, rfl⟩
          go_wp2_with fail
          go_roundw
          case rel => exact ⟨j + 1, u2, by go_num, by omega, HF, rfl⟩
          case measure => simp [intOf]; omega
      · have hlt' : ¬ (j : Int) < n1 := by omega
        have hjn : j = n1 := by omega
        have HF : Hid (sameL sameN g.nodes h.nodes = true) := Lib.hid (by have h1 := HST.out; have h2 := HLEN.out; rw [h1, hjn, ← h2.1]; exact sameL_nil (h2.1.trans h2.2.symm))
        clear hjn
        go_wp2_with fail
        refine (HSE.out u).mono ?_
        rintro e w2 ⟨rfl, u2, rfl⟩
        go_wp2_with fail
        exact HQ.out _ (by unfold sameG; rw [HF.out, HRE.out]; rfl) u2
  · have hne' : ((n1 : Int) == (n2 : Int)) = false := by simp; omega
    have hne2 : ¬ (n1 : Int) = (n2 : Int) := by omega
    have hne3 : ((n1 : Int) != (n2 : Int)) = true := by simp; omega
    have HF : Hid (sameG g h = false) := Lib.hid (by unfold sameG; rw [sameL_len (f := sameN) (by omega)]; rfl)
    clear hne hn1 hn2
    go_enter Try.func10, Try.ntmps10
    go_wp2_with fail
    rw [HW0.out, HU0.out]
    go_wp2_with fail
    exact HQ.out _ HF.out u0
end Go.Proofs.Ytoakloicjlfaaaa

/- Layer 14, in plain words: a node that is put and dropped again, an edge that is joined and cut again, leave the graph as it was. Conditions: the graph may be. -/
namespace Go.Proofs.Ytoakloicjlfaaaa
open Go.RowKit
set_option linter.unusedSimpArgs false
set_option linter.unusedVariables false

theorem rise_step {l : List Int} (h : ∀ (m : Nat) x y, l[m]? = some x → l[m + 1]? = some y → x < y) : RiseI l := by
  have key : ∀ (d i : Nat) x y, l[i]? = some x → l[i + d + 1]? = some y → x < y := by
    intro d
    induction d with
    | zero => exact fun i x y hx hy => h i x y hx hy
    | succ d ih =>
      intro i x y hx hy
      have hlt : i + (d + 1) + 1 < l.length := (List.getElem?_eq_some_iff.1 hy).1
      obtain ⟨z, hz⟩ := get_some (l := l) (j := i + d + 1) (by omega)
      have h1 := ih i x z hx hz
      have h2 := h (i + d + 1) z y hz (by rw [show i + d + 1 + 1 = i + (d + 1) + 1 from by omega]; exact hy)
      omega
  intro i j x y hij hx hy
  exact key (j - i - 1) i x y hx (by rw [show i + (j - i - 1) + 1 = j from by omega]; exact hy)
structure MayG (g : Gt) : Prop where
  nodes : ∀ (j : Nat) n, g.nodes[j]? = some n → mayN n = true
  edges : ∀ (j : Nat) n, g.edges[j]? = some n → mayE n = true
  riseN : RiseI (idsN g)
  riseE : RiseI (idsE g)
  ends : ∀ (j : Nat) e, g.edges[j]? = some e → hasI (idsN g) e.src = true ∧ hasI (idsN g) e.dst = true
  lenN : g.nodes.length ≤ 4096
  lenE : g.edges.length ≤ 4096
theorem MayG.of {g : Gt} (h : mayG g = true) : MayG g := by
  unfold mayG at h
  simp only [Bool.and_eq_true, decide_eq_true_eq] at h
  obtain ⟨⟨⟨h1, h2⟩, h3⟩, h4⟩ := h
  have hn : ∀ (j : Nat) n, g.nodes[j]? = some n → nodeOk g.nodes j = true := fun j n hj => allB_at h1 (List.getElem?_eq_some_iff.1 hj).1
  have he : ∀ (j : Nat) n, g.edges[j]? = some n → ordE g.edges j = true ∧ endsE g j = true := fun j n hj => by
    have := allB_at h2 (i := j) (List.getElem?_eq_some_iff.1 hj).1
    unfold edgeOk at this
    simpa [Bool.and_eq_true] using this
  have hmn : ∀ (j : Nat) n, g.nodes[j]? = some n → mayN n = true := fun j n hj => by
    cases hm : mayN n with
    | true => rfl
    | false => have := hn j n hj; rw [nodeOk_no hj hm] at this; cases this
  have hme : ∀ (j : Nat) n, g.edges[j]? = some n → mayE n = true := fun j n hj => by
    cases hm : mayE n with
    | true => rfl
    | false => have := (he j n hj).1; rw [ordE_no hj hm] at this; cases this
  have hrn : RiseI (idsN g) := rise_step fun m x y hx hy => by
    unfold idsN at hx hy
    rw [List.getElem?_map] at hx hy
    obtain ⟨p, hp, rfl⟩ := Option.map_eq_some_iff.1 hx
    obtain ⟨n, hn', rfl⟩ := Option.map_eq_some_iff.1 hy
    have := hn _ _ hn'
    rw [nodeOk_succ hn' hp (hmn _ _ hn')] at this
    exact of_decide_eq_true this
  have hre : RiseI (idsE g) := rise_step fun m x y hx hy => by
    unfold idsE at hx hy
    rw [List.getElem?_map] at hx hy
    obtain ⟨p, hp, rfl⟩ := Option.map_eq_some_iff.1 hx
    obtain ⟨n, hn', rfl⟩ := Option.map_eq_some_iff.1 hy
    have := (he _ _ hn').1
    rw [ordE_succ hn' hp (hme _ _ hn')] at this
    exact of_decide_eq_true this
  refine ⟨hmn, hme, hrn, hre, fun j e hj => ?_, h3, h4⟩
  have := (he j e hj).2
  unfold endsE at this
  rw [hj] at this
  simp only [Bool.and_eq_true, decide_eq_true_eq] at this
  exact ⟨by rw [(hasI_idx hrn e.src).1]; exact decide_eq_true this.1, by rw [(hasI_idx hrn e.dst).1]; exact decide_eq_true this.2⟩
theorem posI_spec {l : List Int} (hr : RiseI l) (id : Int) : (∀ (i : Nat) x, i < posI l id → l[i]? = some x → x < id) ∧ ∀ (i : Nat) x, posI l id ≤ i → l[i]? = some x → ¬ x < id := by
  have h1 : ∀ (i : Nat) x, i < posI l id → l[i]? = some x → x < id := fun i x hi hx => by
    unfold posI at hi
    clear hr
    induction l generalizing i with
    | nil => simp at hx
    | cons a l ih =>
      rw [List.takeWhile_cons] at hi
      split at hi
      · next ha =>
        cases i with
        | zero => simp at hx; subst hx; simpa using ha
        | succ i => exact ih i (by simpa using hi) (by simpa using hx)
      · simp at hi
  have h2 : ∀ x, l[posI l id]? = some x → ¬ x < id := fun x hx => by
    unfold posI at hx
    clear hr h1
    induction l with
    | nil => simp at hx
    | cons a l ih =>
      rw [List.takeWhile_cons] at hx
      split at hx
      · exact ih (by simpa using hx)
      · next ha => simp at hx; subst hx; simpa using ha
  refine ⟨h1, fun i x hi hx => ?_⟩
  rcases Nat.lt_or_ge (posI l id) i with h | h
  · obtain ⟨y, hy⟩ := get_some (l := l) (j := posI l id) (by have := (List.getElem?_eq_some_iff.1 hx).1; omega)
    have h3 := h2 y hy
    have h4 := hr _ _ _ _ h hy hx
    omega
  · rw [show i = posI l id from by omega] at hx
    exact h2 x hx
/-- A list of numbers with one more. -/
theorem ins_rise {l : List Int} {id : Int} (hr : RiseI l) (hno : hasI l id = false) : RiseI (setL l (posI l id) false id) ∧ posI (setL l (posI l id) false id) id = posI l id ∧ hasI (setL l (posI l id) false id) id = true := by
  obtain ⟨h1, h2⟩ := posI_spec hr id
  have hne : ∀ (i : Nat) x, l[i]? = some x → x ≠ id := fun i x hx e => by
    subst e
    have hp : posI l x = i := posI_eq (Nat.le_of_lt (List.getElem?_eq_some_iff.1 hx).1) (fun k z hk hz => hr k i z x hk hz hx) (fun z hz => by rw [hx] at hz; injection hz with hz; omega)
    unfold hasI at hno
    rw [hp] at hno
    exact of_decide_eq_false hno hx
  have hp := posI_le l id
  obtain ⟨p, hpe⟩ : ∃ p, posI l id = p := ⟨_, rfl⟩
  rw [hpe] at h1 h2 hp ⊢
  have hg : ∀ (i : Nat) x, (setL l p false id)[i]? = some x → (i < p ∧ l[i]? = some x) ∨ (i = p ∧ x = id) ∨ (p < i ∧ l[i - 1]? = some x) := fun i x hx => by
    have hx : (l.take p ++ (id :: l.drop p))[i]? = some x := hx
    have ht : (l.take p).length = p := by rw [List.length_take]; omega
    rcases Nat.lt_or_ge i p with h | h
    · rw [List.getElem?_append_left (by omega), List.getElem?_take_of_lt h] at hx
      exact .inl ⟨h, hx⟩
    · rw [List.getElem?_append_right (by omega), ht] at hx
      rcases Nat.eq_or_lt_of_le h with h | h
      · subst h; simp at hx; exact .inr (.inl ⟨rfl, hx.symm⟩)
      · obtain ⟨k, hk⟩ : ∃ k, i - p = k + 1 := ⟨i - p - 1, by omega⟩
        rw [hk, List.getElem?_cons_succ, List.getElem?_drop] at hx
        exact .inr (.inr ⟨h, by rw [show i - 1 = p + k from by omega]; exact hx⟩)
  have hat : (setL l p false id)[p]? = some id := by
    show (l.take p ++ (id :: l.drop p))[p]? = some id
    have ht : (l.take p).length = p := by rw [List.length_take]; omega
    rw [List.getElem?_append_right (by omega), ht, Nat.sub_self]
    rfl
  have hrise : RiseI (setL l p false id) := by
    intro i j x y hij hx hy
    rcases hg i x hx with ⟨a1, a2⟩ | ⟨a1, a2⟩ | ⟨a1, a2⟩ <;> rcases hg j y hy with ⟨b1, b2⟩ | ⟨b1, b2⟩ | ⟨b1, b2⟩ <;> try omega
    · exact hr i j x y hij a2 b2
    · rw [b2]; exact h1 i x a1 a2
    · exact hr i (j - 1) x y (by omega) a2 b2
    · have h3 := h2 (j - 1) y (by omega) b2
      have h4 := hne (j - 1) y b2
      omega
    · exact hr (i - 1) (j - 1) x y (by omega) a2 b2
  have hpos : posI (setL l p false id) id = p := posI_eq (by have := (List.getElem?_eq_some_iff.1 hat).1; omega) (fun i x hi hx => by
    rcases hg i x hx with ⟨a1, a2⟩ | ⟨a1, a2⟩ | ⟨a1, a2⟩
    · exact h1 i x a1 a2
    · omega
    · omega) (fun x hx => by rw [hat] at hx; injection hx with hx; omega)
  exact ⟨hrise, hpos, by unfold hasI; rw [hpos]; exact decide_eq_true hat⟩
theorem setL_map {α β : Type} (f : α → β) (l : List α) (p : Nat) (x : α) : (setL l p false x).map f = setL (l.map f) p false (f x) := by
  show (l.take p ++ (x :: l.drop p)).map f = (l.map f).take p ++ (f x :: (l.map f).drop p)
  rw [List.map_append, List.map_cons, List.map_take, List.map_drop]
theorem setL_away {α : Type} {l : List α} {p : Nat} {x : α} (hp : p ≤ l.length) : (setL l p false x).take p ++ (setL l p false x).drop (p + 1) = l := by
  show (l.take p ++ (x :: l.drop p)).take p ++ (l.take p ++ (x :: l.drop p)).drop (p + 1) = l
  have ht : (l.take p).length = p := by rw [List.length_take]; omega
  rw [List.take_append_of_le_length (by omega), List.take_of_length_le (by omega), List.drop_append, ht, List.drop_eq_nil_of_le (by omega), List.nil_append, show p + 1 - p = 1 from by omega]
  exact List.take_append_drop p l
theorem put_drop {g : Gt} {n : Nt} (h : MayG g) (hno : hasI (idsN g) n.id = false) (hsm : g.nodes.length < 60) (hm : mayN n = true) :
    putG g n = (0, ⟨setL g.nodes (posI (idsN g) n.id) false n, g.edges⟩) ∧ RiseI (idsN ⟨setL g.nodes (posI (idsN g) n.id) false n, g.edges⟩) ∧ dropG ⟨setL g.nodes (posI (idsN g) n.id) false n, g.edges⟩ n.id = (0, g) := by
  have hids : idsN ⟨setL g.nodes (posI (idsN g) n.id) false n, g.edges⟩ = setL (idsN g) (posI (idsN g) n.id) false n.id := setL_map _ _ _ _
  obtain ⟨r1, r2, r3⟩ := ins_rise h.riseN hno
  have hil : (idsN g).length = g.nodes.length := by unfold idsN; simp
  refine ⟨?_, by rw [hids]; exact r1, ?_⟩
  · unfold putG
    rw [if_neg (by rw [hm]; simp), if_neg (fun h => by omega), hno]
  · have har : (aroundG ⟨setL g.nodes (posI (idsN g) n.id) false n, g.edges⟩ n.id 2 ⟨#[]⟩).isEmpty = true := by
      unfold aroundG
      rw [List.isEmpty_iff, List.filter_eq_nil_iff]
      intro e he
      obtain ⟨j, hj⟩ := List.getElem?_of_mem he
      obtain ⟨e1, e2⟩ := h.ends j e hj
      unfold atE
      have h1 : e.src ≠ n.id := fun h => by rw [h, hno] at e1; cases e1
      have h2 : e.dst ≠ n.id := fun h => by rw [h, hno] at e2; cases e2
      simp [h1, h2]
    unfold dropG
    rw [hids, r2, r3, if_neg (by simp), if_neg (by rw [har]; simp)]
    show (0, (⟨(setL g.nodes (posI (idsN g) n.id) false n).take (posI (idsN g) n.id) ++ (setL g.nodes (posI (idsN g) n.id) false n).drop (posI (idsN g) n.id + 1), g.edges⟩ : Gt)) = (0, g)
    rw [setL_away (by have := posI_le (idsN g) n.id; omega)]
theorem put_no {g : Gt} {n : Nt} (hm : mayN n = false) : putG g n = (20, noG) := by
  unfold putG
  rw [if_pos hm]
theorem join_cut {g : Gt} {n : Et} (h : MayG g) (hno : hasI (idsE g) n.id = false) (hsm : g.edges.length < 60) :
    (∃ c, c ≠ 0 ∧ joinG g n = (c, noG)) ∨ (joinG g n = (0, ⟨g.nodes, setL g.edges (posI (idsE g) n.id) false n⟩) ∧ RiseI (idsE ⟨g.nodes, setL g.edges (posI (idsE g) n.id) false n⟩) ∧ cutG ⟨g.nodes, setL g.edges (posI (idsE g) n.id) false n⟩ n.id = (0, g)) := by
  have hids : idsE ⟨g.nodes, setL g.edges (posI (idsE g) n.id) false n⟩ = setL (idsE g) (posI (idsE g) n.id) false n.id := setL_map _ _ _ _
  obtain ⟨r1, r2, r3⟩ := ins_rise h.riseE hno
  have hil : (idsE g).length = g.edges.length := by unfold idsE; simp
  by_cases c1 : mayE n = false
  · exact .inl ⟨20, by omega, by unfold joinG; rw [if_pos c1]⟩
  by_cases c2 : hasI (idsN g) n.src = false ∨ hasI (idsN g) n.dst = false
  · exact .inl ⟨23, by omega, by unfold joinG; rw [if_neg c1, if_pos c2]⟩
  refine .inr ⟨?_, by rw [hids]; exact r1, ?_⟩
  · unfold joinG
    rw [if_neg c1, if_neg c2, if_neg (fun h => by rw [hno] at h; cases h.1), if_neg (fun h => by omega), hno]
  · unfold cutG
    rw [hids, r2, r3, if_neg (by simp)]
    show (0, (⟨g.nodes, (setL g.edges (posI (idsE g) n.id) false n).take (posI (idsE g) n.id) ++ (setL g.edges (posI (idsE g) n.id) false n).drop (posI (idsE g) n.id + 1)⟩ : Gt)) = (0, g)
    rw [setL_away (by have := posI_le (idsE g) n.id; omega)]
end Go.Proofs.Ytoakloicjlfaaaa

/- Layer 14: the law GraphBack as a call. Conditions: what is read is small. -/
namespace Go.Proofs.Ytoakloicjlfaaaa
open Go.RowKit
set_option linter.unusedSimpArgs false
set_option linter.unusedVariables false
set_option maxRecDepth 100000

theorem wtVs_at {l : List Vt} {j : Nat} {t : Vt} (h : l[j]? = some t) : wtV t ≤ wtVs l := wtVs_get h
theorem wtS_len (l : List ByteArray) : l.length ≤ wtS l := by
  unfold wtS
  induction l with
  | nil => simp
  | cons x xs ih => simp only [List.length_cons, List.map_cons, List.sum_cons]; omega
theorem smPr_of {ks : List ByteArray} {vs : List Vt} (h : wtS ks + wtVs vs ≤ 1048576) : SmPr ks vs :=
  ⟨by have := wtS_len ks; omega, by have := wtVs_len vs; omega, fun j t ht => by have := wtVs_get ht; omega⟩
theorem smN_of {n : Nt} (h : wtN n ≤ 1048576) : SmN n := by
  unfold wtN at h
  exact ⟨by have := wtS_len n.labels; omega, smPr_of (by omega)⟩
theorem smE_of {n : Et} (h : wtE n ≤ 1048576) : SmE n := by
  unfold wtE at h
  exact smPr_of (by omega)
theorem len_sum {α : Type} (f : α → Nat) (hf : ∀ x, 1 ≤ f x) (l : List α) : l.length ≤ (l.map f).sum := by
  induction l with
  | nil => simp
  | cons x xs ih => have := hf x; simp only [List.length_cons, List.map_cons, List.sum_cons]; omega
theorem smG_of {g : Gt} (h : wtG g ≤ 1048576) : SmG g := by
  unfold wtG at h
  refine ⟨⟨?_, ?_⟩, fun j n hj => smN_of ?_, fun j n hj => smE_of ?_⟩
  · have := len_sum wtN (fun x => by unfold wtN; omega) g.nodes; omega
  · have := len_sum wtE (fun x => by unfold wtE; omega) g.edges; omega
  · have := sum_get wtN hj; omega
  · have := sum_get wtE hj; omega
theorem setL_small {α : Type} {l : List α} {p : Nat} {x : α} (hp : p ≤ l.length) (hl : l.length < 60) : (setL l p false x).length ≤ 1048576 := by
  rw [setL_length hp]
  simp
  omega
theorem posN_le (g : Gt) (id : Int) : posI (idsN g) id ≤ g.nodes.length := by
  have := posI_le (idsN g) id
  unfold idsN at this
  rw [List.length_map] at this
  exact this
theorem posE_le (g : Gt) (id : Int) : posI (idsE g) id ≤ g.edges.length := by
  have := posI_le (idsE g) id
  unfold idsE at this
  rw [List.length_map] at this
  exact this
def smallB (g : Gt) : Bool := decide (g.nodes.length < 60) && decide (g.edges.length < 60)
set_option maxHeartbeats 4000000 in
theorem small_any (na ea : Option Addr) (nc ec n m : Nat) (w : World) :
    Calls Try.prog 11 #[.agg #[.slice na n nc, .slice ea m ec]] w fun e w' => e = .returned (.bool (decide (n < 60) && decide (m < 60))) ∧ Below w.heap.size w w' := by
  obtain ⟨W0, hW0⟩ : ∃ W0, w.alloc (.cells #[.slice na n nc, .slice ea m ec] 25) = W0 := ⟨_, rfl⟩
  have hb0 : Below w.heap.size w W0 := by rw [← hW0]; exact (Below.refl _ _).alloc (Nat.le_refl _) _
  have hblk : Block W0 w.heap.size [.slice na n nc, .slice ea m ec] 25 := by rw [← hW0]; exact Block.new _ _ _
  have c0 := hblk.cell (i := 0) rfl
  have c1 := hblk.cell (i := 1) rfl
  rw [← hW0] at c0 c1
  have HB0 := Lib.hid (show Below w.heap.size w (w.alloc (.cells #[.slice na n nc, .slice ea m ec] 25)) by rw [hW0]; exact hb0)
  clear hW0 hb0 hblk
  by_cases h1 : n < 60
  · have h1' : (n : Int) < 60 := by omega
    by_cases h2 : m < 60
    · have h2' : (m : Int) < 60 := by omega
      rw [decide_eq_true h1, decide_eq_true h2]
      go_enter Try.func11, Try.ntmps11
      go_wp2_with fail
      go_ret
      exact ⟨rfl, HB0.out⟩
    · have h2' : ¬ (m : Int) < 60 := by omega
      rw [decide_eq_true h1, decide_eq_false h2]
      go_enter Try.func11, Try.ntmps11
      go_wp2_with fail
      go_ret
      exact ⟨rfl, HB0.out⟩
  · have h1' : ¬ (n : Int) < 60 := by omega
    rw [decide_eq_false h1]
    go_enter Try.func11, Try.ntmps11
    go_wp2_with fail
    go_ret
    exact ⟨rfl, HB0.out⟩

set_option maxHeartbeats 64000000 in
theorem gback_any (g : Gt) (n : Nt) (d : Et) (cs ds es : List Value) (w : World) (hg : IsG w.heap.size w cs g) (hn : IsN w.heap.size w ds n) (hd : IsE w.heap.size w es d) (hwg : wtG g ≤ 1048576) (hwn : wtN n ≤ 1048576) (hwd : wtE d ≤ 1048576) :
    Calls Try.prog 5 #[.agg cs.toArray, .agg ds.toArray, .agg es.toArray] w fun e w' => e = .returned (.bool true) ∧ Below w.heap.size w w' := by
  have hg0 := hg
  obtain ⟨na, nc, ea, ec, rfl, hnz, hez, hN, hE⟩ := hg
  have hn0 := hn
  obtain ⟨la, lc, ka, kc, va, vc, rfl⟩ := node_cells hn0
  have hd0 := hd
  obtain ⟨dka, dkc, dva, dvc, rfl⟩ := edge_cells hd0
  show Calls Try.prog 5 #[.agg #[.slice na g.nodes.length nc, .slice ea g.edges.length ec], .agg #[.int .i64 n.id, .slice la n.labels.length lc, .slice ka n.keys.length kc, .slice va n.vals.length vc], .agg #[.int .i64 d.id, .int .i64 d.src, .int .i64 d.dst, .string d.ty, .slice dka d.keys.length dkc, .slice dva d.vals.length dvc]] w _
  have hsm := smG_of hwg
  have hsn := smN_of hwn
  have hsd := smE_of hwd
  obtain ⟨W0, hW0⟩ : ∃ W0, ((w.alloc (.cells #[.slice na g.nodes.length nc, .slice ea g.edges.length ec] 25)).alloc (.cells #[.int .i64 n.id, .slice la n.labels.length lc, .slice ka n.keys.length kc, .slice va n.vals.length vc] 38)).alloc (.cells #[.int .i64 d.id, .int .i64 d.src, .int .i64 d.dst, .string d.ty, .slice dka d.keys.length dkc, .slice dva d.vals.length dvc] 40) = W0 := ⟨_, rfl⟩
  have HBX : Hid (Bx w [([.slice na g.nodes.length nc, .slice ea g.edges.length ec], 25), ([.int .i64 n.id, .slice la n.labels.length lc, .slice ka n.keys.length kc, .slice va n.vals.length vc], 38), ([.int .i64 d.id, .int .i64 d.src, .int .i64 d.dst, .string d.ty, .slice dka d.keys.length dkc, .slice dva d.vals.length dvc], 40)] W0) := Lib.hid (by rw [← hW0]; exact ((((((Bx.nil w).alloc rfl [.slice na g.nodes.length nc, .slice ea g.edges.length ec] 25)).alloc (by simp) [.int .i64 n.id, .slice la n.labels.length lc, .slice ka n.keys.length kc, .slice va n.vals.length vc] 38)).alloc (by simp) [.int .i64 d.id, .int .i64 d.src, .int .i64 d.dst, .string d.ty, .slice dka d.keys.length dkc, .slice dva d.vals.length dvc] 40))
  have HW0 := Lib.hid hW0
  have HGG := Lib.hid (fun (w' : World) (hb : Below w.heap.size w w') => hg0.below hb (Nat.le_refl _))
  have HSM := Lib.hid (fun (w' : World) => small_any na ea nc ec g.nodes.length g.edges.length w')
  have HMY := Lib.hid (fun (w' : World) (hb : Below w.heap.size w w') => rmayG_any g _ _ w' (hg0.below hb (Nat.le_refl _)) hb.size)
  have HMN := Lib.hid (fun (w' : World) (hb : Below w.heap.size w w') => rMayNode_any n _ _ w' (hn.below hb (Nat.le_refl _)) hb.size)
  have HATN := Lib.hid (fun (w' : World) (hb : Below w.heap.size w w') => nodeAt_any g n.id _ _ w' (hg0.below hb (Nat.le_refl _)) hb.size)
  have HATE := Lib.hid (fun (w' : World) (hb : Below w.heap.size w w') => edgeAt_any g d.id _ _ w' (hg0.below hb (Nat.le_refl _)) hb.size)
  have HPUT0 := Lib.hid (fun (hr : RiseI (idsN g)) (w' : World) (hb : Below w.heap.size w w') => put_any g n _ _ _ w' (hg0.below hb (Nat.le_refl _)) (hn.below hb (Nat.le_refl _)) hb.size hr hsm hsn)
  have HJOIN0 := Lib.hid (fun (hr : RiseI (idsN g)) (hre : RiseI (idsE g)) (w' : World) (hb : Below w.heap.size w w') => join_any g d _ _ _ w' (hg0.below hb (Nat.le_refl _)) (hd.below hb (Nat.le_refl _)) hb.size hr hre hsm hsd)
  have HSMP : Hid (∀ i is, ((setL g.nodes i is n).length ≤ 1048576) → SmG ⟨setL g.nodes i is n, g.edges⟩) := Lib.hid (fun i is h => ⟨⟨h, hsm.1.2⟩, fun j y hy => by rcases mem_setL hy with rfl | ⟨k, hk⟩; exact hsn; exact hsm.2.1 k y hk, hsm.2.2⟩)
  have HSMJ : Hid (∀ i is, ((setL g.edges i is d).length ≤ 1048576) → SmG ⟨g.nodes, setL g.edges i is d⟩) := Lib.hid (fun i is h => ⟨⟨hsm.1.1, h⟩, hsm.2.1, fun j y hy => by rcases mem_setL hy with rfl | ⟨k, hk⟩; exact hsd; exact hsm.2.2 k y hk⟩)
  obtain ⟨Q, hQ⟩ : ∃ Q : Ending → World → Prop, (fun e w' => e = .returned (.bool true) ∧ Below w.heap.size w w') = Q := ⟨_, rfl⟩
  have HQ : Hid (∀ u, Below w.heap.size w u → Q (.returned (.bool true)) u) := Lib.hid (fun u h => by rw [← hQ]; exact ⟨rfl, h⟩)
  rw [hQ]
  have i0_0 : W0.cell? ⟨w.heap.size, 0, none⟩ = some (.slice na g.nodes.length nc) := HBX.out.cell 0 0 rfl rfl
  have i0_1 : W0.cell? ⟨w.heap.size, 1, none⟩ = some (.slice ea g.edges.length ec) := HBX.out.cell 0 1 rfl rfl
  have i1_0 : W0.cell? ⟨w.heap.size + 1, 0, none⟩ = some (.int .i64 n.id) := HBX.out.cell 1 0 rfl rfl
  have i1_1 : W0.cell? ⟨w.heap.size + 1, 1, none⟩ = some (.slice la n.labels.length lc) := HBX.out.cell 1 1 rfl rfl
  have i1_2 : W0.cell? ⟨w.heap.size + 1, 2, none⟩ = some (.slice ka n.keys.length kc) := HBX.out.cell 1 2 rfl rfl
  have i1_3 : W0.cell? ⟨w.heap.size + 1, 3, none⟩ = some (.slice va n.vals.length vc) := HBX.out.cell 1 3 rfl rfl
  have i2_0 : W0.cell? ⟨w.heap.size + 2, 0, none⟩ = some (.int .i64 d.id) := HBX.out.cell 2 0 rfl rfl
  have i2_1 : W0.cell? ⟨w.heap.size + 2, 1, none⟩ = some (.int .i64 d.src) := HBX.out.cell 2 1 rfl rfl
  have i2_2 : W0.cell? ⟨w.heap.size + 2, 2, none⟩ = some (.int .i64 d.dst) := HBX.out.cell 2 2 rfl rfl
  have i2_3 : W0.cell? ⟨w.heap.size + 2, 3, none⟩ = some (.string d.ty) := HBX.out.cell 2 3 rfl rfl
  have i2_4 : W0.cell? ⟨w.heap.size + 2, 4, none⟩ = some (.slice dka d.keys.length dkc) := HBX.out.cell 2 4 rfl rfl
  have i2_5 : W0.cell? ⟨w.heap.size + 2, 5, none⟩ = some (.slice dva d.vals.length dvc) := HBX.out.cell 2 5 rfl rfl
  rw [← hW0] at i0_0 i0_1 i1_0 i1_1 i1_2 i1_3 i2_0 i2_1 i2_2 i2_3 i2_4 i2_5
  clear hQ hW0 hg0 hN hE hn hn0 hd hd0 hnz hez hsm hsn hsd hwg hwn hwd
  go_enter Try.func5, Try.ntmps5
  go_wp2_with fail
  (try rw [show w.heap.size + 1 + 1 = w.heap.size + 2 from rfl])
  rw [HW0.out]
  refine (HSM.out _).mono ?_
  rintro e w1 ⟨rfl, hb1⟩
  have HBX1 := Lib.hid (HBX.out.below hb1)
  clear i0_0 i0_1 i1_0 i1_1 i1_2 i1_3 i2_0 i2_1 i2_2 i2_3 i2_4 i2_5 hb1
  cases hsml : (decide (g.nodes.length < 60) && decide (g.edges.length < 60)) with
  | false =>
    go_wp2_with fail
    refine (gworks_any w1).mono ?_
    rintro e wl ⟨rfl, hbl⟩
    have HBL := Lib.hid (HBX1.out.below hbl)
    clear hbl
    go_wp2_with fail
    exact HQ.out _ HBL.out.bel
  | true =>
    simp only [Bool.and_eq_true, decide_eq_true_eq] at hsml
    have HLEN := Lib.hid hsml
    clear hsml
    have f0_0 : w1.cell? ⟨w.heap.size, 0, none⟩ = some (.slice na g.nodes.length nc) := HBX1.out.cell 0 0 rfl rfl
    have f0_1 : w1.cell? ⟨w.heap.size, 1, none⟩ = some (.slice ea g.edges.length ec) := HBX1.out.cell 0 1 rfl rfl
    go_wp2_with fail
    refine (HMY.out _ HBX1.out.bel).mono ?_
    rintro e w2 ⟨rfl, hb2⟩
    have HBX2 := Lib.hid (HBX1.out.below hb2)
    clear f0_0 f0_1 hb2
    cases hmg : mayG g with
    | false =>
      go_wp2_with fail
      refine (gworks_any w2).mono ?_
      rintro e wl ⟨rfl, hbl⟩
      have HBL := Lib.hid (HBX2.out.below hbl)
      clear hbl
      go_wp2_with fail
      exact HQ.out _ HBL.out.bel
    | true =>
      have HMG := Lib.hid (MayG.of hmg)
      have HHIN := Lib.hid (hasI_idx HMG.out.riseN n.id).1
      have HHIE := Lib.hid (hasI_idx HMG.out.riseE d.id).1
      have HPUT := Lib.hid (HPUT0.out HMG.out.riseN)
      have HJOIN := Lib.hid (HJOIN0.out HMG.out.riseN HMG.out.riseE)
      clear hmg HPUT0 HJOIN0
      have f0_0 : w2.cell? ⟨w.heap.size, 0, none⟩ = some (.slice na g.nodes.length nc) := HBX2.out.cell 0 0 rfl rfl
      have f0_1 : w2.cell? ⟨w.heap.size, 1, none⟩ = some (.slice ea g.edges.length ec) := HBX2.out.cell 0 1 rfl rfl
      have f1_0 : w2.cell? ⟨w.heap.size + 1, 0, none⟩ = some (.int .i64 n.id) := HBX2.out.cell 1 0 rfl rfl
      have f1_1 : w2.cell? ⟨w.heap.size + 1, 1, none⟩ = some (.slice la n.labels.length lc) := HBX2.out.cell 1 1 rfl rfl
      have f1_2 : w2.cell? ⟨w.heap.size + 1, 2, none⟩ = some (.slice ka n.keys.length kc) := HBX2.out.cell 1 2 rfl rfl
      have f1_3 : w2.cell? ⟨w.heap.size + 1, 3, none⟩ = some (.slice va n.vals.length vc) := HBX2.out.cell 1 3 rfl rfl
      have f2_0 : w2.cell? ⟨w.heap.size + 2, 0, none⟩ = some (.int .i64 d.id) := HBX2.out.cell 2 0 rfl rfl
      have f2_1 : w2.cell? ⟨w.heap.size + 2, 1, none⟩ = some (.int .i64 d.src) := HBX2.out.cell 2 1 rfl rfl
      have f2_2 : w2.cell? ⟨w.heap.size + 2, 2, none⟩ = some (.int .i64 d.dst) := HBX2.out.cell 2 2 rfl rfl
      have f2_3 : w2.cell? ⟨w.heap.size + 2, 3, none⟩ = some (.string d.ty) := HBX2.out.cell 2 3 rfl rfl
      have f2_4 : w2.cell? ⟨w.heap.size + 2, 4, none⟩ = some (.slice dka d.keys.length dkc) := HBX2.out.cell 2 4 rfl rfl
      have f2_5 : w2.cell? ⟨w.heap.size + 2, 5, none⟩ = some (.slice dva d.vals.length dvc) := HBX2.out.cell 2 5 rfl rfl
      go_wp2_with fail
      refine (HATN.out _ HBX2.out.bel).mono ?_
      rintro e y3 ⟨rfl, hby3⟩
      have HBY3 := Lib.hid (HBX2.out.below hby3)
      clear f0_0 f0_1 f1_0 f1_1 f1_2 f1_3 f2_0 f2_1 f2_2 f2_3 f2_4 f2_5 hby3
      obtain ⟨at3, hat3⟩ : ∃ x, idxOf (g.nodes.map (·.id)) n.id = x := ⟨_, rfl⟩
      have HI3 : Hid (hasI (idsN g) n.id = decide (0 ≤ at3)) := Lib.hid (by rw [← hat3]; exact HHIN.out)
      rw [hat3]
      clear hat3
      by_cases hc3 : 0 ≤ at3
      · have hc3' : ¬ at3 < 0 := by omega
        have f0_0 : y3.cell? ⟨w.heap.size, 0, none⟩ = some (.slice na g.nodes.length nc) := HBY3.out.cell 0 0 rfl rfl
        have f0_1 : y3.cell? ⟨w.heap.size, 1, none⟩ = some (.slice ea g.edges.length ec) := HBY3.out.cell 0 1 rfl rfl
        have f1_0 : y3.cell? ⟨w.heap.size + 1, 0, none⟩ = some (.int .i64 n.id) := HBY3.out.cell 1 0 rfl rfl
        have f1_1 : y3.cell? ⟨w.heap.size + 1, 1, none⟩ = some (.slice la n.labels.length lc) := HBY3.out.cell 1 1 rfl rfl
        have f1_2 : y3.cell? ⟨w.heap.size + 1, 2, none⟩ = some (.slice ka n.keys.length kc) := HBY3.out.cell 1 2 rfl rfl
        have f1_3 : y3.cell? ⟨w.heap.size + 1, 3, none⟩ = some (.slice va n.vals.length vc) := HBY3.out.cell 1 3 rfl rfl
        have f2_0 : y3.cell? ⟨w.heap.size + 2, 0, none⟩ = some (.int .i64 d.id) := HBY3.out.cell 2 0 rfl rfl
        have f2_1 : y3.cell? ⟨w.heap.size + 2, 1, none⟩ = some (.int .i64 d.src) := HBY3.out.cell 2 1 rfl rfl
        have f2_2 : y3.cell? ⟨w.heap.size + 2, 2, none⟩ = some (.int .i64 d.dst) := HBY3.out.cell 2 2 rfl rfl
        have f2_3 : y3.cell? ⟨w.heap.size + 2, 3, none⟩ = some (.string d.ty) := HBY3.out.cell 2 3 rfl rfl
        have f2_4 : y3.cell? ⟨w.heap.size + 2, 4, none⟩ = some (.slice dka d.keys.length dkc) := HBY3.out.cell 2 4 rfl rfl
        have f2_5 : y3.cell? ⟨w.heap.size + 2, 5, none⟩ = some (.slice dva d.vals.length dvc) := HBY3.out.cell 2 5 rfl rfl
        go_wp2_with fail
        refine (HATE.out _ HBY3.out.bel).mono ?_
        rintro e y5 ⟨rfl, hby5⟩
        have HBY5 := Lib.hid (HBY3.out.below hby5)
        clear f0_0 f0_1 f1_0 f1_1 f1_2 f1_3 f2_0 f2_1 f2_2 f2_3 f2_4 f2_5 hby5
        obtain ⟨at5, hat5⟩ : ∃ x, idxOf (g.edges.map (·.id)) d.id = x := ⟨_, rfl⟩
        have HI5 : Hid (hasI (idsE g) d.id = decide (0 ≤ at5)) := Lib.hid (by rw [← hat5]; exact HHIE.out)
        rw [hat5]
        clear hat5
        by_cases hc5 : 0 ≤ at5
        · have hc5' : ¬ at5 < 0 := by omega
          go_wp2_with fail
          refine (gworks_any y5).mono ?_
          rintro e wl ⟨rfl, hbl⟩
          have HBL := Lib.hid (HBY5.out.below hbl)
          clear hbl
          go_wp2_with fail
          exact HQ.out _ HBL.out.bel
        · skip
          have hc5' : at5 < 0 := by omega
          have HNO5 : Hid (hasI (idsE g) d.id = false) := Lib.hid (by rw [HI5.out]; exact decide_eq_false hc5)
          rcases join_cut HMG.out HNO5.out HLEN.out.2 with ⟨code, hcz, hbad⟩ | hgood
          · skip
            have HC9 := Lib.hid (HJOIN.out _ HBY5.out.bel)
            rw [hbad] at HC9
            clear hbad
            have hcz1 : (code == 0) = false := by simpa using hcz
            have hcz2 : ¬ code = 0 := hcz
            have f0_0 : y5.cell? ⟨w.heap.size, 0, none⟩ = some (.slice na g.nodes.length nc) := HBY5.out.cell 0 0 rfl rfl
            have f0_1 : y5.cell? ⟨w.heap.size, 1, none⟩ = some (.slice ea g.edges.length ec) := HBY5.out.cell 0 1 rfl rfl
            have f1_0 : y5.cell? ⟨w.heap.size + 1, 0, none⟩ = some (.int .i64 n.id) := HBY5.out.cell 1 0 rfl rfl
            have f1_1 : y5.cell? ⟨w.heap.size + 1, 1, none⟩ = some (.slice la n.labels.length lc) := HBY5.out.cell 1 1 rfl rfl
            have f1_2 : y5.cell? ⟨w.heap.size + 1, 2, none⟩ = some (.slice ka n.keys.length kc) := HBY5.out.cell 1 2 rfl rfl
            have f1_3 : y5.cell? ⟨w.heap.size + 1, 3, none⟩ = some (.slice va n.vals.length vc) := HBY5.out.cell 1 3 rfl rfl
            have f2_0 : y5.cell? ⟨w.heap.size + 2, 0, none⟩ = some (.int .i64 d.id) := HBY5.out.cell 2 0 rfl rfl
            have f2_1 : y5.cell? ⟨w.heap.size + 2, 1, none⟩ = some (.int .i64 d.src) := HBY5.out.cell 2 1 rfl rfl
            have f2_2 : y5.cell? ⟨w.heap.size + 2, 2, none⟩ = some (.int .i64 d.dst) := HBY5.out.cell 2 2 rfl rfl
            have f2_3 : y5.cell? ⟨w.heap.size + 2, 3, none⟩ = some (.string d.ty) := HBY5.out.cell 2 3 rfl rfl
            have f2_4 : y5.cell? ⟨w.heap.size + 2, 4, none⟩ = some (.slice dka d.keys.length dkc) := HBY5.out.cell 2 4 rfl rfl
            have f2_5 : y5.cell? ⟨w.heap.size + 2, 5, none⟩ = some (.slice dva d.vals.length dvc) := HBY5.out.cell 2 5 rfl rfl
            go_wp2_with fail
            refine (HC9.out).mono ?_
            rintro e v5c ⟨cs5c, bs5c, rfl, hb5c, hG5c, -, hr5c⟩
            obtain ⟨ra5c, rc5c, rd5c, re5c, rfl⟩ := hG5c.form
            obtain ⟨X5c, hX5c⟩ : ∃ X, v5c.alloc (.cells #[.slice ra5c noG.nodes.length rc5c, .slice rd5c noG.edges.length re5c] 25) = X := ⟨_, rfl⟩
            have hba5c : Below v5c.heap.size v5c X5c := by rw [← hX5c]; exact (Below.refl _ _).alloc (Nat.le_refl _) _
            have hbk5c : Block X5c v5c.heap.size [.slice ra5c noG.nodes.length rc5c, .slice rd5c noG.edges.length re5c] 25 := by rw [← hX5c]; exact Block.new _ _ _
            have HBX5c := Lib.hid ((HBY5.out.below hb5c).below hba5c)
            have HG5c := Lib.hid ((hG5c.isG (fun b hb => (hr5c b hb).2)).below hba5c (Nat.le_refl _))
            have HZ5c := Lib.hid (show v5c.heap.size < X5c.heap.size by rw [← hX5c]; simp)
            have HK5c := Lib.hid hbk5c
            have HX5c := Lib.hid hX5c
            have x5c_0 := hbk5c.cell (i := 0) rfl
            have x5c_1 := hbk5c.cell (i := 1) rfl
            clear f0_0 f0_1 f1_0 f1_1 f1_2 f1_3 f2_0 f2_1 f2_2 f2_3 f2_4 f2_5
            rw [← hX5c] at x5c_0 x5c_1
            clear hX5c hba5c hbk5c hb5c hr5c hG5c
            go_wp2_with fail
            rw [HX5c.out]
            refine (gworks_any X5c).mono ?_
            rintro e wl ⟨rfl, hbl⟩
            have HBL := Lib.hid (HBX5c.out.below hbl)
            clear hbl
            go_wp2_with fail
            exact HQ.out _ HBL.out.bel
          · skip
            obtain ⟨G2, hG2⟩ : ∃ G2 : Gt, ⟨g.nodes, setL g.edges (posI (idsE g) d.id) false d⟩ = G2 := ⟨_, rfl⟩
            rw [hG2] at hgood
            obtain ⟨hq1, hq2, hq3⟩ := hgood
            have HQ2 := Lib.hid hq2
            have HQ3 := Lib.hid hq3
            have HC9 := Lib.hid (HJOIN.out _ HBY5.out.bel)
            rw [hq1] at HC9
            have HSG2 : Hid (SmG G2) := Lib.hid (by rw [← hG2]; exact HSMJ.out _ _ (setL_small (posE_le g d.id) HLEN.out.2))
            clear hq1 hq2 hq3 hG2
            have f0_0 : y5.cell? ⟨w.heap.size, 0, none⟩ = some (.slice na g.nodes.length nc) := HBY5.out.cell 0 0 rfl rfl
            have f0_1 : y5.cell? ⟨w.heap.size, 1, none⟩ = some (.slice ea g.edges.length ec) := HBY5.out.cell 0 1 rfl rfl
            have f1_0 : y5.cell? ⟨w.heap.size + 1, 0, none⟩ = some (.int .i64 n.id) := HBY5.out.cell 1 0 rfl rfl
            have f1_1 : y5.cell? ⟨w.heap.size + 1, 1, none⟩ = some (.slice la n.labels.length lc) := HBY5.out.cell 1 1 rfl rfl
            have f1_2 : y5.cell? ⟨w.heap.size + 1, 2, none⟩ = some (.slice ka n.keys.length kc) := HBY5.out.cell 1 2 rfl rfl
            have f1_3 : y5.cell? ⟨w.heap.size + 1, 3, none⟩ = some (.slice va n.vals.length vc) := HBY5.out.cell 1 3 rfl rfl
            have f2_0 : y5.cell? ⟨w.heap.size + 2, 0, none⟩ = some (.int .i64 d.id) := HBY5.out.cell 2 0 rfl rfl
            have f2_1 : y5.cell? ⟨w.heap.size + 2, 1, none⟩ = some (.int .i64 d.src) := HBY5.out.cell 2 1 rfl rfl
            have f2_2 : y5.cell? ⟨w.heap.size + 2, 2, none⟩ = some (.int .i64 d.dst) := HBY5.out.cell 2 2 rfl rfl
            have f2_3 : y5.cell? ⟨w.heap.size + 2, 3, none⟩ = some (.string d.ty) := HBY5.out.cell 2 3 rfl rfl
            have f2_4 : y5.cell? ⟨w.heap.size + 2, 4, none⟩ = some (.slice dka d.keys.length dkc) := HBY5.out.cell 2 4 rfl rfl
            have f2_5 : y5.cell? ⟨w.heap.size + 2, 5, none⟩ = some (.slice dva d.vals.length dvc) := HBY5.out.cell 2 5 rfl rfl
            go_wp2_with fail
            refine (HC9.out).mono ?_
            rintro e v5a ⟨cs5a, bs5a, rfl, hb5a, hG5a, -, hr5a⟩
            obtain ⟨ra5a, rc5a, rd5a, re5a, rfl⟩ := hG5a.form
            obtain ⟨X5a, hX5a⟩ : ∃ X, v5a.alloc (.cells #[.slice ra5a G2.nodes.length rc5a, .slice rd5a G2.edges.length re5a] 25) = X := ⟨_, rfl⟩
            have hba5a : Below v5a.heap.size v5a X5a := by rw [← hX5a]; exact (Below.refl _ _).alloc (Nat.le_refl _) _
            have hbk5a : Block X5a v5a.heap.size [.slice ra5a G2.nodes.length rc5a, .slice rd5a G2.edges.length re5a] 25 := by rw [← hX5a]; exact Block.new _ _ _
            have HBX5a := Lib.hid ((HBY5.out.below hb5a).below hba5a)
            have HG5a := Lib.hid ((hG5a.isG (fun b hb => (hr5a b hb).2)).below hba5a (Nat.le_refl _))
            have HZ5a := Lib.hid (show v5a.heap.size < X5a.heap.size by rw [← hX5a]; simp)
            have HK5a := Lib.hid hbk5a
            have HX5a := Lib.hid hX5a
            have x5a_0 := hbk5a.cell (i := 0) rfl
            have x5a_1 := hbk5a.cell (i := 1) rfl
            clear f0_0 f0_1 f1_0 f1_1 f1_2 f1_3 f2_0 f2_1 f2_2 f2_3 f2_4 f2_5
            rw [← hX5a] at x5a_0 x5a_1
            have f0_0 : X5a.cell? ⟨w.heap.size, 0, none⟩ = some (.slice na g.nodes.length nc) := HBX5a.out.cell 0 0 rfl rfl
            have f0_1 : X5a.cell? ⟨w.heap.size, 1, none⟩ = some (.slice ea g.edges.length ec) := HBX5a.out.cell 0 1 rfl rfl
            have f1_0 : X5a.cell? ⟨w.heap.size + 1, 0, none⟩ = some (.int .i64 n.id) := HBX5a.out.cell 1 0 rfl rfl
            have f1_1 : X5a.cell? ⟨w.heap.size + 1, 1, none⟩ = some (.slice la n.labels.length lc) := HBX5a.out.cell 1 1 rfl rfl
            have f1_2 : X5a.cell? ⟨w.heap.size + 1, 2, none⟩ = some (.slice ka n.keys.length kc) := HBX5a.out.cell 1 2 rfl rfl
            have f1_3 : X5a.cell? ⟨w.heap.size + 1, 3, none⟩ = some (.slice va n.vals.length vc) := HBX5a.out.cell 1 3 rfl rfl
            have f2_0 : X5a.cell? ⟨w.heap.size + 2, 0, none⟩ = some (.int .i64 d.id) := HBX5a.out.cell 2 0 rfl rfl
            have f2_1 : X5a.cell? ⟨w.heap.size + 2, 1, none⟩ = some (.int .i64 d.src) := HBX5a.out.cell 2 1 rfl rfl
            have f2_2 : X5a.cell? ⟨w.heap.size + 2, 2, none⟩ = some (.int .i64 d.dst) := HBX5a.out.cell 2 2 rfl rfl
            have f2_3 : X5a.cell? ⟨w.heap.size + 2, 3, none⟩ = some (.string d.ty) := HBX5a.out.cell 2 3 rfl rfl
            have f2_4 : X5a.cell? ⟨w.heap.size + 2, 4, none⟩ = some (.slice dka d.keys.length dkc) := HBX5a.out.cell 2 4 rfl rfl
            have f2_5 : X5a.cell? ⟨w.heap.size + 2, 5, none⟩ = some (.slice dva d.vals.length dvc) := HBX5a.out.cell 2 5 rfl rfl
            rw [← hX5a] at f0_0 f0_1 f1_0 f1_1 f1_2 f1_3 f2_0 f2_1 f2_2 f2_3 f2_4 f2_5
            clear hX5a hba5a hbk5a hb5a hr5a hG5a
            have HD9 := Lib.hid (cut_any G2 d.id _ v5a.heap.size X5a HG5a.out (Nat.le_of_lt HZ5a.out) HQ2.out HSG2.out)
            rw [HQ3.out] at HD9
            go_wp2_with fail
            rw [HX5a.out]
            refine (HD9.out).mono ?_
            rintro e v5b ⟨cs5b, bs5b, rfl, hb5b, hG5b, -, hr5b⟩
            obtain ⟨ra5b, rc5b, rd5b, re5b, rfl⟩ := hG5b.form
            obtain ⟨X5b, hX5b⟩ : ∃ X, v5b.alloc (.cells #[.slice ra5b g.nodes.length rc5b, .slice rd5b g.edges.length re5b] 25) = X := ⟨_, rfl⟩
            have hba5b : Below v5b.heap.size v5b X5b := by rw [← hX5b]; exact (Below.refl _ _).alloc (Nat.le_refl _) _
            have hbk5b : Block X5b v5b.heap.size [.slice ra5b g.nodes.length rc5b, .slice rd5b g.edges.length re5b] 25 := by rw [← hX5b]; exact Block.new _ _ _
            have HBX5b := Lib.hid ((HBX5a.out.below hb5b).below hba5b)
            have HG5b := Lib.hid ((hG5b.isG (fun b hb => (hr5b b hb).2)).below hba5b (Nat.le_refl _))
            have HZ5b := Lib.hid (show v5b.heap.size < X5b.heap.size by rw [← hX5b]; simp)
            have HK5b := Lib.hid hbk5b
            have HX5b := Lib.hid hX5b
            have x5b_0 := hbk5b.cell (i := 0) rfl
            have x5b_1 := hbk5b.cell (i := 1) rfl
            clear f0_0 f0_1 f1_0 f1_1 f1_2 f1_3 f2_0 f2_1 f2_2 f2_3 f2_4 f2_5 x5a_0 x5a_1
            have HS9 := Lib.hid (sameG_any g g _ _ (v5b.heap.size) X5b HG5b.out ((HGG.out _ HBX5b.out.bel).mono (by have := (HBX5a.out.below hb5b).bel.size; exact this)) (Nat.le_of_lt HZ5b.out))
            rw [(sameG_iff g g).2 rfl] at HS9
            rw [← hX5b] at x5b_0 x5b_1
            have f0_0 : X5b.cell? ⟨w.heap.size, 0, none⟩ = some (.slice na g.nodes.length nc) := HBX5b.out.cell 0 0 rfl rfl
            have f0_1 : X5b.cell? ⟨w.heap.size, 1, none⟩ = some (.slice ea g.edges.length ec) := HBX5b.out.cell 0 1 rfl rfl
            have f1_0 : X5b.cell? ⟨w.heap.size + 1, 0, none⟩ = some (.int .i64 n.id) := HBX5b.out.cell 1 0 rfl rfl
            have f1_1 : X5b.cell? ⟨w.heap.size + 1, 1, none⟩ = some (.slice la n.labels.length lc) := HBX5b.out.cell 1 1 rfl rfl
            have f1_2 : X5b.cell? ⟨w.heap.size + 1, 2, none⟩ = some (.slice ka n.keys.length kc) := HBX5b.out.cell 1 2 rfl rfl
            have f1_3 : X5b.cell? ⟨w.heap.size + 1, 3, none⟩ = some (.slice va n.vals.length vc) := HBX5b.out.cell 1 3 rfl rfl
            have f2_0 : X5b.cell? ⟨w.heap.size + 2, 0, none⟩ = some (.int .i64 d.id) := HBX5b.out.cell 2 0 rfl rfl
            have f2_1 : X5b.cell? ⟨w.heap.size + 2, 1, none⟩ = some (.int .i64 d.src) := HBX5b.out.cell 2 1 rfl rfl
            have f2_2 : X5b.cell? ⟨w.heap.size + 2, 2, none⟩ = some (.int .i64 d.dst) := HBX5b.out.cell 2 2 rfl rfl
            have f2_3 : X5b.cell? ⟨w.heap.size + 2, 3, none⟩ = some (.string d.ty) := HBX5b.out.cell 2 3 rfl rfl
            have f2_4 : X5b.cell? ⟨w.heap.size + 2, 4, none⟩ = some (.slice dka d.keys.length dkc) := HBX5b.out.cell 2 4 rfl rfl
            have f2_5 : X5b.cell? ⟨w.heap.size + 2, 5, none⟩ = some (.slice dva d.vals.length dvc) := HBX5b.out.cell 2 5 rfl rfl
            rw [← hX5b] at f0_0 f0_1 f1_0 f1_1 f1_2 f1_3 f2_0 f2_1 f2_2 f2_3 f2_4 f2_5
            clear hX5b hba5b hbk5b hb5b hr5b hG5b
            go_wp2_with fail
            rw [HX5b.out]
            refine HS9.out.mono ?_
            rintro e z5 ⟨rfl, hbz⟩
            have HBZ5 := Lib.hid (HBX5b.out.below hbz)
            clear f0_0 f0_1 f1_0 f1_1 f1_2 f1_3 f2_0 f2_1 f2_2 f2_3 f2_4 f2_5 x5b_0 x5b_1 hbz
            go_wp2_with fail
            refine (gworks_any z5).mono ?_
            rintro e wl ⟨rfl, hbl⟩
            have HBL := Lib.hid (HBZ5.out.below hbl)
            clear hbl
            go_wp2_with fail
            exact HQ.out _ HBL.out.bel
      · skip
        have hc3' : at3 < 0 := by omega
        have HNO3 : Hid (hasI (idsN g) n.id = false) := Lib.hid (by rw [HI3.out]; exact decide_eq_false hc3)
        cases hmn : mayN n with
        | true =>
          have hgood := put_drop HMG.out HNO3.out HLEN.out.1 hmn
          have HMT := Lib.hid hmn
          clear hmn
          obtain ⟨G2, hG2⟩ : ∃ G2 : Gt, ⟨setL g.nodes (posI (idsN g) n.id) false n, g.edges⟩ = G2 := ⟨_, rfl⟩
          rw [hG2] at hgood
          obtain ⟨hq1, hq2, hq3⟩ := hgood
          have HQ2 := Lib.hid hq2
          have HQ3 := Lib.hid hq3
          have HC9 := Lib.hid (HPUT.out _ HBY3.out.bel)
          rw [hq1] at HC9
          have HSG2 : Hid (SmG G2) := Lib.hid (by rw [← hG2]; exact HSMP.out _ _ (setL_small (posN_le g n.id) HLEN.out.1))
          clear hq1 hq2 hq3 hG2
          have f0_0 : y3.cell? ⟨w.heap.size, 0, none⟩ = some (.slice na g.nodes.length nc) := HBY3.out.cell 0 0 rfl rfl
          have f0_1 : y3.cell? ⟨w.heap.size, 1, none⟩ = some (.slice ea g.edges.length ec) := HBY3.out.cell 0 1 rfl rfl
          have f1_0 : y3.cell? ⟨w.heap.size + 1, 0, none⟩ = some (.int .i64 n.id) := HBY3.out.cell 1 0 rfl rfl
          have f1_1 : y3.cell? ⟨w.heap.size + 1, 1, none⟩ = some (.slice la n.labels.length lc) := HBY3.out.cell 1 1 rfl rfl
          have f1_2 : y3.cell? ⟨w.heap.size + 1, 2, none⟩ = some (.slice ka n.keys.length kc) := HBY3.out.cell 1 2 rfl rfl
          have f1_3 : y3.cell? ⟨w.heap.size + 1, 3, none⟩ = some (.slice va n.vals.length vc) := HBY3.out.cell 1 3 rfl rfl
          have f2_0 : y3.cell? ⟨w.heap.size + 2, 0, none⟩ = some (.int .i64 d.id) := HBY3.out.cell 2 0 rfl rfl
          have f2_1 : y3.cell? ⟨w.heap.size + 2, 1, none⟩ = some (.int .i64 d.src) := HBY3.out.cell 2 1 rfl rfl
          have f2_2 : y3.cell? ⟨w.heap.size + 2, 2, none⟩ = some (.int .i64 d.dst) := HBY3.out.cell 2 2 rfl rfl
          have f2_3 : y3.cell? ⟨w.heap.size + 2, 3, none⟩ = some (.string d.ty) := HBY3.out.cell 2 3 rfl rfl
          have f2_4 : y3.cell? ⟨w.heap.size + 2, 4, none⟩ = some (.slice dka d.keys.length dkc) := HBY3.out.cell 2 4 rfl rfl
          have f2_5 : y3.cell? ⟨w.heap.size + 2, 5, none⟩ = some (.slice dva d.vals.length dvc) := HBY3.out.cell 2 5 rfl rfl
          go_wp2_with fail
          refine (HC9.out).mono ?_
          rintro e v3a ⟨cs3a, bs3a, rfl, hb3a, hG3a, -, hr3a⟩
          obtain ⟨ra3a, rc3a, rd3a, re3a, rfl⟩ := hG3a.form
          obtain ⟨X3a, hX3a⟩ : ∃ X, v3a.alloc (.cells #[.slice ra3a G2.nodes.length rc3a, .slice rd3a G2.edges.length re3a] 25) = X := ⟨_, rfl⟩
          have hba3a : Below v3a.heap.size v3a X3a := by rw [← hX3a]; exact (Below.refl _ _).alloc (Nat.le_refl _) _
          have hbk3a : Block X3a v3a.heap.size [.slice ra3a G2.nodes.length rc3a, .slice rd3a G2.edges.length re3a] 25 := by rw [← hX3a]; exact Block.new _ _ _
          have HBX3a := Lib.hid ((HBY3.out.below hb3a).below hba3a)
          have HG3a := Lib.hid ((hG3a.isG (fun b hb => (hr3a b hb).2)).below hba3a (Nat.le_refl _))
          have HZ3a := Lib.hid (show v3a.heap.size < X3a.heap.size by rw [← hX3a]; simp)
          have HK3a := Lib.hid hbk3a
          have HX3a := Lib.hid hX3a
          have x3a_0 := hbk3a.cell (i := 0) rfl
          have x3a_1 := hbk3a.cell (i := 1) rfl
          clear f0_0 f0_1 f1_0 f1_1 f1_2 f1_3 f2_0 f2_1 f2_2 f2_3 f2_4 f2_5
          rw [← hX3a] at x3a_0 x3a_1
          have f0_0 : X3a.cell? ⟨w.heap.size, 0, none⟩ = some (.slice na g.nodes.length nc) := HBX3a.out.cell 0 0 rfl rfl
          have f0_1 : X3a.cell? ⟨w.heap.size, 1, none⟩ = some (.slice ea g.edges.length ec) := HBX3a.out.cell 0 1 rfl rfl
          have f1_0 : X3a.cell? ⟨w.heap.size + 1, 0, none⟩ = some (.int .i64 n.id) := HBX3a.out.cell 1 0 rfl rfl
          have f1_1 : X3a.cell? ⟨w.heap.size + 1, 1, none⟩ = some (.slice la n.labels.length lc) := HBX3a.out.cell 1 1 rfl rfl
          have f1_2 : X3a.cell? ⟨w.heap.size + 1, 2, none⟩ = some (.slice ka n.keys.length kc) := HBX3a.out.cell 1 2 rfl rfl
          have f1_3 : X3a.cell? ⟨w.heap.size + 1, 3, none⟩ = some (.slice va n.vals.length vc) := HBX3a.out.cell 1 3 rfl rfl
          have f2_0 : X3a.cell? ⟨w.heap.size + 2, 0, none⟩ = some (.int .i64 d.id) := HBX3a.out.cell 2 0 rfl rfl
          have f2_1 : X3a.cell? ⟨w.heap.size + 2, 1, none⟩ = some (.int .i64 d.src) := HBX3a.out.cell 2 1 rfl rfl
          have f2_2 : X3a.cell? ⟨w.heap.size + 2, 2, none⟩ = some (.int .i64 d.dst) := HBX3a.out.cell 2 2 rfl rfl
          have f2_3 : X3a.cell? ⟨w.heap.size + 2, 3, none⟩ = some (.string d.ty) := HBX3a.out.cell 2 3 rfl rfl
          have f2_4 : X3a.cell? ⟨w.heap.size + 2, 4, none⟩ = some (.slice dka d.keys.length dkc) := HBX3a.out.cell 2 4 rfl rfl
          have f2_5 : X3a.cell? ⟨w.heap.size + 2, 5, none⟩ = some (.slice dva d.vals.length dvc) := HBX3a.out.cell 2 5 rfl rfl
          rw [← hX3a] at f0_0 f0_1 f1_0 f1_1 f1_2 f1_3 f2_0 f2_1 f2_2 f2_3 f2_4 f2_5
          clear hX3a hba3a hbk3a hb3a hr3a hG3a
          have HD9 := Lib.hid (drop_any G2 n.id _ v3a.heap.size X3a HG3a.out (Nat.le_of_lt HZ3a.out) HQ2.out HSG2.out)
          rw [HQ3.out] at HD9
          go_wp2_with fail
          rw [HX3a.out]
          refine (HD9.out).mono ?_
          rintro e v3b ⟨cs3b, bs3b, rfl, hb3b, hG3b, -, hr3b⟩
          obtain ⟨ra3b, rc3b, rd3b, re3b, rfl⟩ := hG3b.form
          obtain ⟨X3b, hX3b⟩ : ∃ X, v3b.alloc (.cells #[.slice ra3b g.nodes.length rc3b, .slice rd3b g.edges.length re3b] 25) = X := ⟨_, rfl⟩
          have hba3b : Below v3b.heap.size v3b X3b := by rw [← hX3b]; exact (Below.refl _ _).alloc (Nat.le_refl _) _
          have hbk3b : Block X3b v3b.heap.size [.slice ra3b g.nodes.length rc3b, .slice rd3b g.edges.length re3b] 25 := by rw [← hX3b]; exact Block.new _ _ _
          have HBX3b := Lib.hid ((HBX3a.out.below hb3b).below hba3b)
          have HG3b := Lib.hid ((hG3b.isG (fun b hb => (hr3b b hb).2)).below hba3b (Nat.le_refl _))
          have HZ3b := Lib.hid (show v3b.heap.size < X3b.heap.size by rw [← hX3b]; simp)
          have HK3b := Lib.hid hbk3b
          have HX3b := Lib.hid hX3b
          have x3b_0 := hbk3b.cell (i := 0) rfl
          have x3b_1 := hbk3b.cell (i := 1) rfl
          clear f0_0 f0_1 f1_0 f1_1 f1_2 f1_3 f2_0 f2_1 f2_2 f2_3 f2_4 f2_5 x3a_0 x3a_1
          have HS9 := Lib.hid (sameG_any g g _ _ (v3b.heap.size) X3b HG3b.out ((HGG.out _ HBX3b.out.bel).mono (by have := (HBX3a.out.below hb3b).bel.size; exact this)) (Nat.le_of_lt HZ3b.out))
          rw [(sameG_iff g g).2 rfl] at HS9
          rw [← hX3b] at x3b_0 x3b_1
          have f0_0 : X3b.cell? ⟨w.heap.size, 0, none⟩ = some (.slice na g.nodes.length nc) := HBX3b.out.cell 0 0 rfl rfl
          have f0_1 : X3b.cell? ⟨w.heap.size, 1, none⟩ = some (.slice ea g.edges.length ec) := HBX3b.out.cell 0 1 rfl rfl
          have f1_0 : X3b.cell? ⟨w.heap.size + 1, 0, none⟩ = some (.int .i64 n.id) := HBX3b.out.cell 1 0 rfl rfl
          have f1_1 : X3b.cell? ⟨w.heap.size + 1, 1, none⟩ = some (.slice la n.labels.length lc) := HBX3b.out.cell 1 1 rfl rfl
          have f1_2 : X3b.cell? ⟨w.heap.size + 1, 2, none⟩ = some (.slice ka n.keys.length kc) := HBX3b.out.cell 1 2 rfl rfl
          have f1_3 : X3b.cell? ⟨w.heap.size + 1, 3, none⟩ = some (.slice va n.vals.length vc) := HBX3b.out.cell 1 3 rfl rfl
          have f2_0 : X3b.cell? ⟨w.heap.size + 2, 0, none⟩ = some (.int .i64 d.id) := HBX3b.out.cell 2 0 rfl rfl
          have f2_1 : X3b.cell? ⟨w.heap.size + 2, 1, none⟩ = some (.int .i64 d.src) := HBX3b.out.cell 2 1 rfl rfl
          have f2_2 : X3b.cell? ⟨w.heap.size + 2, 2, none⟩ = some (.int .i64 d.dst) := HBX3b.out.cell 2 2 rfl rfl
          have f2_3 : X3b.cell? ⟨w.heap.size + 2, 3, none⟩ = some (.string d.ty) := HBX3b.out.cell 2 3 rfl rfl
          have f2_4 : X3b.cell? ⟨w.heap.size + 2, 4, none⟩ = some (.slice dka d.keys.length dkc) := HBX3b.out.cell 2 4 rfl rfl
          have f2_5 : X3b.cell? ⟨w.heap.size + 2, 5, none⟩ = some (.slice dva d.vals.length dvc) := HBX3b.out.cell 2 5 rfl rfl
          rw [← hX3b] at f0_0 f0_1 f1_0 f1_1 f1_2 f1_3 f2_0 f2_1 f2_2 f2_3 f2_4 f2_5
          clear hX3b hba3b hbk3b hb3b hr3b hG3b
          go_wp2_with fail
          rw [HX3b.out]
          refine HS9.out.mono ?_
          rintro e z3 ⟨rfl, hbz⟩
          have HBZ3 := Lib.hid (HBX3b.out.below hbz)
          clear f0_0 f0_1 f1_0 f1_1 f1_2 f1_3 f2_0 f2_1 f2_2 f2_3 f2_4 f2_5 x3b_0 x3b_1 hbz
          have f0_0 : z3.cell? ⟨w.heap.size, 0, none⟩ = some (.slice na g.nodes.length nc) := HBZ3.out.cell 0 0 rfl rfl
          have f0_1 : z3.cell? ⟨w.heap.size, 1, none⟩ = some (.slice ea g.edges.length ec) := HBZ3.out.cell 0 1 rfl rfl
          have f1_0 : z3.cell? ⟨w.heap.size + 1, 0, none⟩ = some (.int .i64 n.id) := HBZ3.out.cell 1 0 rfl rfl
          have f1_1 : z3.cell? ⟨w.heap.size + 1, 1, none⟩ = some (.slice la n.labels.length lc) := HBZ3.out.cell 1 1 rfl rfl
          have f1_2 : z3.cell? ⟨w.heap.size + 1, 2, none⟩ = some (.slice ka n.keys.length kc) := HBZ3.out.cell 1 2 rfl rfl
          have f1_3 : z3.cell? ⟨w.heap.size + 1, 3, none⟩ = some (.slice va n.vals.length vc) := HBZ3.out.cell 1 3 rfl rfl
          have f2_0 : z3.cell? ⟨w.heap.size + 2, 0, none⟩ = some (.int .i64 d.id) := HBZ3.out.cell 2 0 rfl rfl
          have f2_1 : z3.cell? ⟨w.heap.size + 2, 1, none⟩ = some (.int .i64 d.src) := HBZ3.out.cell 2 1 rfl rfl
          have f2_2 : z3.cell? ⟨w.heap.size + 2, 2, none⟩ = some (.int .i64 d.dst) := HBZ3.out.cell 2 2 rfl rfl
          have f2_3 : z3.cell? ⟨w.heap.size + 2, 3, none⟩ = some (.string d.ty) := HBZ3.out.cell 2 3 rfl rfl
          have f2_4 : z3.cell? ⟨w.heap.size + 2, 4, none⟩ = some (.slice dka d.keys.length dkc) := HBZ3.out.cell 2 4 rfl rfl
          have f2_5 : z3.cell? ⟨w.heap.size + 2, 5, none⟩ = some (.slice dva d.vals.length dvc) := HBZ3.out.cell 2 5 rfl rfl
          go_wp2_with fail
          refine (HATE.out _ HBZ3.out.bel).mono ?_
          rintro e y5 ⟨rfl, hby5⟩
          have HBY5 := Lib.hid (HBZ3.out.below hby5)
          clear f0_0 f0_1 f1_0 f1_1 f1_2 f1_3 f2_0 f2_1 f2_2 f2_3 f2_4 f2_5 hby5
          obtain ⟨at5, hat5⟩ : ∃ x, idxOf (g.edges.map (·.id)) d.id = x := ⟨_, rfl⟩
          have HI5 : Hid (hasI (idsE g) d.id = decide (0 ≤ at5)) := Lib.hid (by rw [← hat5]; exact HHIE.out)
          rw [hat5]
          clear hat5
          by_cases hc5 : 0 ≤ at5
          · have hc5' : ¬ at5 < 0 := by omega
            go_wp2_with fail
            refine (gworks_any y5).mono ?_
            rintro e wl ⟨rfl, hbl⟩
            have HBL := Lib.hid (HBY5.out.below hbl)
            clear hbl
            go_wp2_with fail
            exact HQ.out _ HBL.out.bel
          · skip
            have hc5' : at5 < 0 := by omega
            have HNO5 : Hid (hasI (idsE g) d.id = false) := Lib.hid (by rw [HI5.out]; exact decide_eq_false hc5)
            rcases join_cut HMG.out HNO5.out HLEN.out.2 with ⟨code, hcz, hbad⟩ | hgood
            · skip
              have HC9 := Lib.hid (HJOIN.out _ HBY5.out.bel)
              rw [hbad] at HC9
              clear hbad
              have hcz1 : (code == 0) = false := by simpa using hcz
              have hcz2 : ¬ code = 0 := hcz
              have f0_0 : y5.cell? ⟨w.heap.size, 0, none⟩ = some (.slice na g.nodes.length nc) := HBY5.out.cell 0 0 rfl rfl
              have f0_1 : y5.cell? ⟨w.heap.size, 1, none⟩ = some (.slice ea g.edges.length ec) := HBY5.out.cell 0 1 rfl rfl
              have f1_0 : y5.cell? ⟨w.heap.size + 1, 0, none⟩ = some (.int .i64 n.id) := HBY5.out.cell 1 0 rfl rfl
              have f1_1 : y5.cell? ⟨w.heap.size + 1, 1, none⟩ = some (.slice la n.labels.length lc) := HBY5.out.cell 1 1 rfl rfl
              have f1_2 : y5.cell? ⟨w.heap.size + 1, 2, none⟩ = some (.slice ka n.keys.length kc) := HBY5.out.cell 1 2 rfl rfl
              have f1_3 : y5.cell? ⟨w.heap.size + 1, 3, none⟩ = some (.slice va n.vals.length vc) := HBY5.out.cell 1 3 rfl rfl
              have f2_0 : y5.cell? ⟨w.heap.size + 2, 0, none⟩ = some (.int .i64 d.id) := HBY5.out.cell 2 0 rfl rfl
              have f2_1 : y5.cell? ⟨w.heap.size + 2, 1, none⟩ = some (.int .i64 d.src) := HBY5.out.cell 2 1 rfl rfl
              have f2_2 : y5.cell? ⟨w.heap.size + 2, 2, none⟩ = some (.int .i64 d.dst) := HBY5.out.cell 2 2 rfl rfl
              have f2_3 : y5.cell? ⟨w.heap.size + 2, 3, none⟩ = some (.string d.ty) := HBY5.out.cell 2 3 rfl rfl
              have f2_4 : y5.cell? ⟨w.heap.size + 2, 4, none⟩ = some (.slice dka d.keys.length dkc) := HBY5.out.cell 2 4 rfl rfl
              have f2_5 : y5.cell? ⟨w.heap.size + 2, 5, none⟩ = some (.slice dva d.vals.length dvc) := HBY5.out.cell 2 5 rfl rfl
              go_wp2_with fail
              refine (HC9.out).mono ?_
              rintro e v5c ⟨cs5c, bs5c, rfl, hb5c, hG5c, -, hr5c⟩
              obtain ⟨ra5c, rc5c, rd5c, re5c, rfl⟩ := hG5c.form
              obtain ⟨X5c, hX5c⟩ : ∃ X, v5c.alloc (.cells #[.slice ra5c noG.nodes.length rc5c, .slice rd5c noG.edges.length re5c] 25) = X := ⟨_, rfl⟩
              have hba5c : Below v5c.heap.size v5c X5c := by rw [← hX5c]; exact (Below.refl _ _).alloc (Nat.le_refl _) _
              have hbk5c : Block X5c v5c.heap.size [.slice ra5c noG.nodes.length rc5c, .slice rd5c noG.edges.length re5c] 25 := by rw [← hX5c]; exact Block.new _ _ _
              have HBX5c := Lib.hid ((HBY5.out.below hb5c).below hba5c)
              have HG5c := Lib.hid ((hG5c.isG (fun b hb => (hr5c b hb).2)).below hba5c (Nat.le_refl _))
              have HZ5c := Lib.hid (show v5c.heap.size < X5c.heap.size by rw [← hX5c]; simp)
              have HK5c := Lib.hid hbk5c
              have HX5c := Lib.hid hX5c
              have x5c_0 := hbk5c.cell (i := 0) rfl
              have x5c_1 := hbk5c.cell (i := 1) rfl
              clear f0_0 f0_1 f1_0 f1_1 f1_2 f1_3 f2_0 f2_1 f2_2 f2_3 f2_4 f2_5
              rw [← hX5c] at x5c_0 x5c_1
              clear hX5c hba5c hbk5c hb5c hr5c hG5c
              go_wp2_with fail
              rw [HX5c.out]
              refine (gworks_any X5c).mono ?_
              rintro e wl ⟨rfl, hbl⟩
              have HBL := Lib.hid (HBX5c.out.below hbl)
              clear hbl
              go_wp2_with fail
              exact HQ.out _ HBL.out.bel
            · skip
              obtain ⟨G2, hG2⟩ : ∃ G2 : Gt, ⟨g.nodes, setL g.edges (posI (idsE g) d.id) false d⟩ = G2 := ⟨_, rfl⟩
              rw [hG2] at hgood
              obtain ⟨hq1, hq2, hq3⟩ := hgood
              have HQ2 := Lib.hid hq2
              have HQ3 := Lib.hid hq3
              have HC9 := Lib.hid (HJOIN.out _ HBY5.out.bel)
              rw [hq1] at HC9
              have HSG2 : Hid (SmG G2) := Lib.hid (by rw [← hG2]; exact HSMJ.out _ _ (setL_small (posE_le g d.id) HLEN.out.2))
              clear hq1 hq2 hq3 hG2
              have f0_0 : y5.cell? ⟨w.heap.size, 0, none⟩ = some (.slice na g.nodes.length nc) := HBY5.out.cell 0 0 rfl rfl
              have f0_1 : y5.cell? ⟨w.heap.size, 1, none⟩ = some (.slice ea g.edges.length ec) := HBY5.out.cell 0 1 rfl rfl
              have f1_0 : y5.cell? ⟨w.heap.size + 1, 0, none⟩ = some (.int .i64 n.id) := HBY5.out.cell 1 0 rfl rfl
              have f1_1 : y5.cell? ⟨w.heap.size + 1, 1, none⟩ = some (.slice la n.labels.length lc) := HBY5.out.cell 1 1 rfl rfl
              have f1_2 : y5.cell? ⟨w.heap.size + 1, 2, none⟩ = some (.slice ka n.keys.length kc) := HBY5.out.cell 1 2 rfl rfl
              have f1_3 : y5.cell? ⟨w.heap.size + 1, 3, none⟩ = some (.slice va n.vals.length vc) := HBY5.out.cell 1 3 rfl rfl
              have f2_0 : y5.cell? ⟨w.heap.size + 2, 0, none⟩ = some (.int .i64 d.id) := HBY5.out.cell 2 0 rfl rfl
              have f2_1 : y5.cell? ⟨w.heap.size + 2, 1, none⟩ = some (.int .i64 d.src) := HBY5.out.cell 2 1 rfl rfl
              have f2_2 : y5.cell? ⟨w.heap.size + 2, 2, none⟩ = some (.int .i64 d.dst) := HBY5.out.cell 2 2 rfl rfl
              have f2_3 : y5.cell? ⟨w.heap.size + 2, 3, none⟩ = some (.string d.ty) := HBY5.out.cell 2 3 rfl rfl
              have f2_4 : y5.cell? ⟨w.heap.size + 2, 4, none⟩ = some (.slice dka d.keys.length dkc) := HBY5.out.cell 2 4 rfl rfl
              have f2_5 : y5.cell? ⟨w.heap.size + 2, 5, none⟩ = some (.slice dva d.vals.length dvc) := HBY5.out.cell 2 5 rfl rfl
              go_wp2_with fail
              refine (HC9.out).mono ?_
              rintro e v5a ⟨cs5a, bs5a, rfl, hb5a, hG5a, -, hr5a⟩
              obtain ⟨ra5a, rc5a, rd5a, re5a, rfl⟩ := hG5a.form
              obtain ⟨X5a, hX5a⟩ : ∃ X, v5a.alloc (.cells #[.slice ra5a G2.nodes.length rc5a, .slice rd5a G2.edges.length re5a] 25) = X := ⟨_, rfl⟩
              have hba5a : Below v5a.heap.size v5a X5a := by rw [← hX5a]; exact (Below.refl _ _).alloc (Nat.le_refl _) _
              have hbk5a : Block X5a v5a.heap.size [.slice ra5a G2.nodes.length rc5a, .slice rd5a G2.edges.length re5a] 25 := by rw [← hX5a]; exact Block.new _ _ _
              have HBX5a := Lib.hid ((HBY5.out.below hb5a).below hba5a)
              have HG5a := Lib.hid ((hG5a.isG (fun b hb => (hr5a b hb).2)).below hba5a (Nat.le_refl _))
              have HZ5a := Lib.hid (show v5a.heap.size < X5a.heap.size by rw [← hX5a]; simp)
              have HK5a := Lib.hid hbk5a
              have HX5a := Lib.hid hX5a
              have x5a_0 := hbk5a.cell (i := 0) rfl
              have x5a_1 := hbk5a.cell (i := 1) rfl
              clear f0_0 f0_1 f1_0 f1_1 f1_2 f1_3 f2_0 f2_1 f2_2 f2_3 f2_4 f2_5
              rw [← hX5a] at x5a_0 x5a_1
              have f0_0 : X5a.cell? ⟨w.heap.size, 0, none⟩ = some (.slice na g.nodes.length nc) := HBX5a.out.cell 0 0 rfl rfl
              have f0_1 : X5a.cell? ⟨w.heap.size, 1, none⟩ = some (.slice ea g.edges.length ec) := HBX5a.out.cell 0 1 rfl rfl
              have f1_0 : X5a.cell? ⟨w.heap.size + 1, 0, none⟩ = some (.int .i64 n.id) := HBX5a.out.cell 1 0 rfl rfl
              have f1_1 : X5a.cell? ⟨w.heap.size + 1, 1, none⟩ = some (.slice la n.labels.length lc) := HBX5a.out.cell 1 1 rfl rfl
              have f1_2 : X5a.cell? ⟨w.heap.size + 1, 2, none⟩ = some (.slice ka n.keys.length kc) := HBX5a.out.cell 1 2 rfl rfl
              have f1_3 : X5a.cell? ⟨w.heap.size + 1, 3, none⟩ = some (.slice va n.vals.length vc) := HBX5a.out.cell 1 3 rfl rfl
              have f2_0 : X5a.cell? ⟨w.heap.size + 2, 0, none⟩ = some (.int .i64 d.id) := HBX5a.out.cell 2 0 rfl rfl
              have f2_1 : X5a.cell? ⟨w.heap.size + 2, 1, none⟩ = some (.int .i64 d.src) := HBX5a.out.cell 2 1 rfl rfl
              have f2_2 : X5a.cell? ⟨w.heap.size + 2, 2, none⟩ = some (.int .i64 d.dst) := HBX5a.out.cell 2 2 rfl rfl
              have f2_3 : X5a.cell? ⟨w.heap.size + 2, 3, none⟩ = some (.string d.ty) := HBX5a.out.cell 2 3 rfl rfl
              have f2_4 : X5a.cell? ⟨w.heap.size + 2, 4, none⟩ = some (.slice dka d.keys.length dkc) := HBX5a.out.cell 2 4 rfl rfl
              have f2_5 : X5a.cell? ⟨w.heap.size + 2, 5, none⟩ = some (.slice dva d.vals.length dvc) := HBX5a.out.cell 2 5 rfl rfl
              rw [← hX5a] at f0_0 f0_1 f1_0 f1_1 f1_2 f1_3 f2_0 f2_1 f2_2 f2_3 f2_4 f2_5
              clear hX5a hba5a hbk5a hb5a hr5a hG5a
              have HD9 := Lib.hid (cut_any G2 d.id _ v5a.heap.size X5a HG5a.out (Nat.le_of_lt HZ5a.out) HQ2.out HSG2.out)
              rw [HQ3.out] at HD9
              go_wp2_with fail
              rw [HX5a.out]
              refine (HD9.out).mono ?_
              rintro e v5b ⟨cs5b, bs5b, rfl, hb5b, hG5b, -, hr5b⟩
              obtain ⟨ra5b, rc5b, rd5b, re5b, rfl⟩ := hG5b.form
              obtain ⟨X5b, hX5b⟩ : ∃ X, v5b.alloc (.cells #[.slice ra5b g.nodes.length rc5b, .slice rd5b g.edges.length re5b] 25) = X := ⟨_, rfl⟩
              have hba5b : Below v5b.heap.size v5b X5b := by rw [← hX5b]; exact (Below.refl _ _).alloc (Nat.le_refl _) _
              have hbk5b : Block X5b v5b.heap.size [.slice ra5b g.nodes.length rc5b, .slice rd5b g.edges.length re5b] 25 := by rw [← hX5b]; exact Block.new _ _ _
              have HBX5b := Lib.hid ((HBX5a.out.below hb5b).below hba5b)
              have HG5b := Lib.hid ((hG5b.isG (fun b hb => (hr5b b hb).2)).below hba5b (Nat.le_refl _))
              have HZ5b := Lib.hid (show v5b.heap.size < X5b.heap.size by rw [← hX5b]; simp)
              have HK5b := Lib.hid hbk5b
              have HX5b := Lib.hid hX5b
              have x5b_0 := hbk5b.cell (i := 0) rfl
              have x5b_1 := hbk5b.cell (i := 1) rfl
              clear f0_0 f0_1 f1_0 f1_1 f1_2 f1_3 f2_0 f2_1 f2_2 f2_3 f2_4 f2_5 x5a_0 x5a_1
              have HS9 := Lib.hid (sameG_any g g _ _ (v5b.heap.size) X5b HG5b.out ((HGG.out _ HBX5b.out.bel).mono (by have := (HBX5a.out.below hb5b).bel.size; exact this)) (Nat.le_of_lt HZ5b.out))
              rw [(sameG_iff g g).2 rfl] at HS9
              rw [← hX5b] at x5b_0 x5b_1
              have f0_0 : X5b.cell? ⟨w.heap.size, 0, none⟩ = some (.slice na g.nodes.length nc) := HBX5b.out.cell 0 0 rfl rfl
              have f0_1 : X5b.cell? ⟨w.heap.size, 1, none⟩ = some (.slice ea g.edges.length ec) := HBX5b.out.cell 0 1 rfl rfl
              have f1_0 : X5b.cell? ⟨w.heap.size + 1, 0, none⟩ = some (.int .i64 n.id) := HBX5b.out.cell 1 0 rfl rfl
              have f1_1 : X5b.cell? ⟨w.heap.size + 1, 1, none⟩ = some (.slice la n.labels.length lc) := HBX5b.out.cell 1 1 rfl rfl
              have f1_2 : X5b.cell? ⟨w.heap.size + 1, 2, none⟩ = some (.slice ka n.keys.length kc) := HBX5b.out.cell 1 2 rfl rfl
              have f1_3 : X5b.cell? ⟨w.heap.size + 1, 3, none⟩ = some (.slice va n.vals.length vc) := HBX5b.out.cell 1 3 rfl rfl
              have f2_0 : X5b.cell? ⟨w.heap.size + 2, 0, none⟩ = some (.int .i64 d.id) := HBX5b.out.cell 2 0 rfl rfl
              have f2_1 : X5b.cell? ⟨w.heap.size + 2, 1, none⟩ = some (.int .i64 d.src) := HBX5b.out.cell 2 1 rfl rfl
              have f2_2 : X5b.cell? ⟨w.heap.size + 2, 2, none⟩ = some (.int .i64 d.dst) := HBX5b.out.cell 2 2 rfl rfl
              have f2_3 : X5b.cell? ⟨w.heap.size + 2, 3, none⟩ = some (.string d.ty) := HBX5b.out.cell 2 3 rfl rfl
              have f2_4 : X5b.cell? ⟨w.heap.size + 2, 4, none⟩ = some (.slice dka d.keys.length dkc) := HBX5b.out.cell 2 4 rfl rfl
              have f2_5 : X5b.cell? ⟨w.heap.size + 2, 5, none⟩ = some (.slice dva d.vals.length dvc) := HBX5b.out.cell 2 5 rfl rfl
              rw [← hX5b] at f0_0 f0_1 f1_0 f1_1 f1_2 f1_3 f2_0 f2_1 f2_2 f2_3 f2_4 f2_5
              clear hX5b hba5b hbk5b hb5b hr5b hG5b
              go_wp2_with fail
              rw [HX5b.out]
              refine HS9.out.mono ?_
              rintro e z5 ⟨rfl, hbz⟩
              have HBZ5 := Lib.hid (HBX5b.out.below hbz)
              clear f0_0 f0_1 f1_0 f1_1 f1_2 f1_3 f2_0 f2_1 f2_2 f2_3 f2_4 f2_5 x5b_0 x5b_1 hbz
              go_wp2_with fail
              refine (gworks_any z5).mono ?_
              rintro e wl ⟨rfl, hbl⟩
              have HBL := Lib.hid (HBZ5.out.below hbl)
              clear hbl
              go_wp2_with fail
              exact HQ.out _ HBL.out.bel
        | false =>
          have hbad := put_no (g := g) hmn
          rw [hmn] at HMN
          clear hmn
          have HC9 := Lib.hid (HPUT.out _ HBY3.out.bel)
          rw [hbad] at HC9
          clear hbad
          have f0_0 : y3.cell? ⟨w.heap.size, 0, none⟩ = some (.slice na g.nodes.length nc) := HBY3.out.cell 0 0 rfl rfl
          have f0_1 : y3.cell? ⟨w.heap.size, 1, none⟩ = some (.slice ea g.edges.length ec) := HBY3.out.cell 0 1 rfl rfl
          have f1_0 : y3.cell? ⟨w.heap.size + 1, 0, none⟩ = some (.int .i64 n.id) := HBY3.out.cell 1 0 rfl rfl
          have f1_1 : y3.cell? ⟨w.heap.size + 1, 1, none⟩ = some (.slice la n.labels.length lc) := HBY3.out.cell 1 1 rfl rfl
          have f1_2 : y3.cell? ⟨w.heap.size + 1, 2, none⟩ = some (.slice ka n.keys.length kc) := HBY3.out.cell 1 2 rfl rfl
          have f1_3 : y3.cell? ⟨w.heap.size + 1, 3, none⟩ = some (.slice va n.vals.length vc) := HBY3.out.cell 1 3 rfl rfl
          have f2_0 : y3.cell? ⟨w.heap.size + 2, 0, none⟩ = some (.int .i64 d.id) := HBY3.out.cell 2 0 rfl rfl
          have f2_1 : y3.cell? ⟨w.heap.size + 2, 1, none⟩ = some (.int .i64 d.src) := HBY3.out.cell 2 1 rfl rfl
          have f2_2 : y3.cell? ⟨w.heap.size + 2, 2, none⟩ = some (.int .i64 d.dst) := HBY3.out.cell 2 2 rfl rfl
          have f2_3 : y3.cell? ⟨w.heap.size + 2, 3, none⟩ = some (.string d.ty) := HBY3.out.cell 2 3 rfl rfl
          have f2_4 : y3.cell? ⟨w.heap.size + 2, 4, none⟩ = some (.slice dka d.keys.length dkc) := HBY3.out.cell 2 4 rfl rfl
          have f2_5 : y3.cell? ⟨w.heap.size + 2, 5, none⟩ = some (.slice dva d.vals.length dvc) := HBY3.out.cell 2 5 rfl rfl
          go_wp2_with fail
          refine (HC9.out).mono ?_
          rintro e v3c ⟨cs3c, bs3c, rfl, hb3c, hG3c, -, hr3c⟩
          obtain ⟨ra3c, rc3c, rd3c, re3c, rfl⟩ := hG3c.form
          obtain ⟨X3c, hX3c⟩ : ∃ X, v3c.alloc (.cells #[.slice ra3c noG.nodes.length rc3c, .slice rd3c noG.edges.length re3c] 25) = X := ⟨_, rfl⟩
          have hba3c : Below v3c.heap.size v3c X3c := by rw [← hX3c]; exact (Below.refl _ _).alloc (Nat.le_refl _) _
          have hbk3c : Block X3c v3c.heap.size [.slice ra3c noG.nodes.length rc3c, .slice rd3c noG.edges.length re3c] 25 := by rw [← hX3c]; exact Block.new _ _ _
          have HBX3c := Lib.hid ((HBY3.out.below hb3c).below hba3c)
          have HG3c := Lib.hid ((hG3c.isG (fun b hb => (hr3c b hb).2)).below hba3c (Nat.le_refl _))
          have HZ3c := Lib.hid (show v3c.heap.size < X3c.heap.size by rw [← hX3c]; simp)
          have HK3c := Lib.hid hbk3c
          have HX3c := Lib.hid hX3c
          have x3c_0 := hbk3c.cell (i := 0) rfl
          have x3c_1 := hbk3c.cell (i := 1) rfl
          clear f0_0 f0_1 f1_0 f1_1 f1_2 f1_3 f2_0 f2_1 f2_2 f2_3 f2_4 f2_5
          rw [← hX3c] at x3c_0 x3c_1
          have f0_0 : X3c.cell? ⟨w.heap.size, 0, none⟩ = some (.slice na g.nodes.length nc) := HBX3c.out.cell 0 0 rfl rfl
          have f0_1 : X3c.cell? ⟨w.heap.size, 1, none⟩ = some (.slice ea g.edges.length ec) := HBX3c.out.cell 0 1 rfl rfl
          have f1_0 : X3c.cell? ⟨w.heap.size + 1, 0, none⟩ = some (.int .i64 n.id) := HBX3c.out.cell 1 0 rfl rfl
          have f1_1 : X3c.cell? ⟨w.heap.size + 1, 1, none⟩ = some (.slice la n.labels.length lc) := HBX3c.out.cell 1 1 rfl rfl
          have f1_2 : X3c.cell? ⟨w.heap.size + 1, 2, none⟩ = some (.slice ka n.keys.length kc) := HBX3c.out.cell 1 2 rfl rfl
          have f1_3 : X3c.cell? ⟨w.heap.size + 1, 3, none⟩ = some (.slice va n.vals.length vc) := HBX3c.out.cell 1 3 rfl rfl
          have f2_0 : X3c.cell? ⟨w.heap.size + 2, 0, none⟩ = some (.int .i64 d.id) := HBX3c.out.cell 2 0 rfl rfl
          have f2_1 : X3c.cell? ⟨w.heap.size + 2, 1, none⟩ = some (.int .i64 d.src) := HBX3c.out.cell 2 1 rfl rfl
          have f2_2 : X3c.cell? ⟨w.heap.size + 2, 2, none⟩ = some (.int .i64 d.dst) := HBX3c.out.cell 2 2 rfl rfl
          have f2_3 : X3c.cell? ⟨w.heap.size + 2, 3, none⟩ = some (.string d.ty) := HBX3c.out.cell 2 3 rfl rfl
          have f2_4 : X3c.cell? ⟨w.heap.size + 2, 4, none⟩ = some (.slice dka d.keys.length dkc) := HBX3c.out.cell 2 4 rfl rfl
          have f2_5 : X3c.cell? ⟨w.heap.size + 2, 5, none⟩ = some (.slice dva d.vals.length dvc) := HBX3c.out.cell 2 5 rfl rfl
          rw [← hX3c] at f0_0 f0_1 f1_0 f1_1 f1_2 f1_3 f2_0 f2_1 f2_2 f2_3 f2_4 f2_5
          clear hX3c hba3c hbk3c hb3c hr3c hG3c
          go_wp2_with fail
          rw [HX3c.out]
          refine (HMN.out _ HBX3c.out.bel).mono ?_
          rintro e z3 ⟨rfl, hbz⟩
          have HBZ3 := Lib.hid (HBX3c.out.below hbz)
          clear f0_0 f0_1 f1_0 f1_1 f1_2 f1_3 f2_0 f2_1 f2_2 f2_3 f2_4 f2_5 x3c_0 x3c_1 hbz
          have f0_0 : z3.cell? ⟨w.heap.size, 0, none⟩ = some (.slice na g.nodes.length nc) := HBZ3.out.cell 0 0 rfl rfl
          have f0_1 : z3.cell? ⟨w.heap.size, 1, none⟩ = some (.slice ea g.edges.length ec) := HBZ3.out.cell 0 1 rfl rfl
          have f1_0 : z3.cell? ⟨w.heap.size + 1, 0, none⟩ = some (.int .i64 n.id) := HBZ3.out.cell 1 0 rfl rfl
          have f1_1 : z3.cell? ⟨w.heap.size + 1, 1, none⟩ = some (.slice la n.labels.length lc) := HBZ3.out.cell 1 1 rfl rfl
          have f1_2 : z3.cell? ⟨w.heap.size + 1, 2, none⟩ = some (.slice ka n.keys.length kc) := HBZ3.out.cell 1 2 rfl rfl
          have f1_3 : z3.cell? ⟨w.heap.size + 1, 3, none⟩ = some (.slice va n.vals.length vc) := HBZ3.out.cell 1 3 rfl rfl
          have f2_0 : z3.cell? ⟨w.heap.size + 2, 0, none⟩ = some (.int .i64 d.id) := HBZ3.out.cell 2 0 rfl rfl
          have f2_1 : z3.cell? ⟨w.heap.size + 2, 1, none⟩ = some (.int .i64 d.src) := HBZ3.out.cell 2 1 rfl rfl
          have f2_2 : z3.cell? ⟨w.heap.size + 2, 2, none⟩ = some (.int .i64 d.dst) := HBZ3.out.cell 2 2 rfl rfl
          have f2_3 : z3.cell? ⟨w.heap.size + 2, 3, none⟩ = some (.string d.ty) := HBZ3.out.cell 2 3 rfl rfl
          have f2_4 : z3.cell? ⟨w.heap.size + 2, 4, none⟩ = some (.slice dka d.keys.length dkc) := HBZ3.out.cell 2 4 rfl rfl
          have f2_5 : z3.cell? ⟨w.heap.size + 2, 5, none⟩ = some (.slice dva d.vals.length dvc) := HBZ3.out.cell 2 5 rfl rfl
          go_wp2_with fail
          refine (HATE.out _ HBZ3.out.bel).mono ?_
          rintro e y5 ⟨rfl, hby5⟩
          have HBY5 := Lib.hid (HBZ3.out.below hby5)
          clear f0_0 f0_1 f1_0 f1_1 f1_2 f1_3 f2_0 f2_1 f2_2 f2_3 f2_4 f2_5 hby5
          obtain ⟨at5, hat5⟩ : ∃ x, idxOf (g.edges.map (·.id)) d.id = x := ⟨_, rfl⟩
          have HI5 : Hid (hasI (idsE g) d.id = decide (0 ≤ at5)) := Lib.hid (by rw [← hat5]; exact HHIE.out)
          rw [hat5]
          clear hat5
          by_cases hc5 : 0 ≤ at5
          · have hc5' : ¬ at5 < 0 := by omega
            go_wp2_with fail
            refine (gworks_any y5).mono ?_
            rintro e wl ⟨rfl, hbl⟩
            have HBL := Lib.hid (HBY5.out.below hbl)
            clear hbl
            go_wp2_with fail
            exact HQ.out _ HBL.out.bel
          · skip
            have hc5' : at5 < 0 := by omega
            have HNO5 : Hid (hasI (idsE g) d.id = false) := Lib.hid (by rw [HI5.out]; exact decide_eq_false hc5)
            rcases join_cut HMG.out HNO5.out HLEN.out.2 with ⟨code, hcz, hbad⟩ | hgood
            · skip
              have HC9 := Lib.hid (HJOIN.out _ HBY5.out.bel)
              rw [hbad] at HC9
              clear hbad
              have hcz1 : (code == 0) = false := by simpa using hcz
              have hcz2 : ¬ code = 0 := hcz
              have f0_0 : y5.cell? ⟨w.heap.size, 0, none⟩ = some (.slice na g.nodes.length nc) := HBY5.out.cell 0 0 rfl rfl
              have f0_1 : y5.cell? ⟨w.heap.size, 1, none⟩ = some (.slice ea g.edges.length ec) := HBY5.out.cell 0 1 rfl rfl
              have f1_0 : y5.cell? ⟨w.heap.size + 1, 0, none⟩ = some (.int .i64 n.id) := HBY5.out.cell 1 0 rfl rfl
              have f1_1 : y5.cell? ⟨w.heap.size + 1, 1, none⟩ = some (.slice la n.labels.length lc) := HBY5.out.cell 1 1 rfl rfl
              have f1_2 : y5.cell? ⟨w.heap.size + 1, 2, none⟩ = some (.slice ka n.keys.length kc) := HBY5.out.cell 1 2 rfl rfl
              have f1_3 : y5.cell? ⟨w.heap.size + 1, 3, none⟩ = some (.slice va n.vals.length vc) := HBY5.out.cell 1 3 rfl rfl
              have f2_0 : y5.cell? ⟨w.heap.size + 2, 0, none⟩ = some (.int .i64 d.id) := HBY5.out.cell 2 0 rfl rfl
              have f2_1 : y5.cell? ⟨w.heap.size + 2, 1, none⟩ = some (.int .i64 d.src) := HBY5.out.cell 2 1 rfl rfl
              have f2_2 : y5.cell? ⟨w.heap.size + 2, 2, none⟩ = some (.int .i64 d.dst) := HBY5.out.cell 2 2 rfl rfl
              have f2_3 : y5.cell? ⟨w.heap.size + 2, 3, none⟩ = some (.string d.ty) := HBY5.out.cell 2 3 rfl rfl
              have f2_4 : y5.cell? ⟨w.heap.size + 2, 4, none⟩ = some (.slice dka d.keys.length dkc) := HBY5.out.cell 2 4 rfl rfl
              have f2_5 : y5.cell? ⟨w.heap.size + 2, 5, none⟩ = some (.slice dva d.vals.length dvc) := HBY5.out.cell 2 5 rfl rfl
              go_wp2_with fail
              refine (HC9.out).mono ?_
              rintro e v5c ⟨cs5c, bs5c, rfl, hb5c, hG5c, -, hr5c⟩
              obtain ⟨ra5c, rc5c, rd5c, re5c, rfl⟩ := hG5c.form
              obtain ⟨X5c, hX5c⟩ : ∃ X, v5c.alloc (.cells #[.slice ra5c noG.nodes.length rc5c, .slice rd5c noG.edges.length re5c] 25) = X := ⟨_, rfl⟩
              have hba5c : Below v5c.heap.size v5c X5c := by rw [← hX5c]; exact (Below.refl _ _).alloc (Nat.le_refl _) _
              have hbk5c : Block X5c v5c.heap.size [.slice ra5c noG.nodes.length rc5c, .slice rd5c noG.edges.length re5c] 25 := by rw [← hX5c]; exact Block.new _ _ _
              have HBX5c := Lib.hid ((HBY5.out.below hb5c).below hba5c)
              have HG5c := Lib.hid ((hG5c.isG (fun b hb => (hr5c b hb).2)).below hba5c (Nat.le_refl _))
              have HZ5c := Lib.hid (show v5c.heap.size < X5c.heap.size by rw [← hX5c]; simp)
              have HK5c := Lib.hid hbk5c
              have HX5c := Lib.hid hX5c
              have x5c_0 := hbk5c.cell (i := 0) rfl
              have x5c_1 := hbk5c.cell (i := 1) rfl
              clear f0_0 f0_1 f1_0 f1_1 f1_2 f1_3 f2_0 f2_1 f2_2 f2_3 f2_4 f2_5
              rw [← hX5c] at x5c_0 x5c_1
              clear hX5c hba5c hbk5c hb5c hr5c hG5c
              go_wp2_with fail
              rw [HX5c.out]
              refine (gworks_any X5c).mono ?_
              rintro e wl ⟨rfl, hbl⟩
              have HBL := Lib.hid (HBX5c.out.below hbl)
              clear hbl
              go_wp2_with fail
              exact HQ.out _ HBL.out.bel
            · skip
              obtain ⟨G2, hG2⟩ : ∃ G2 : Gt, ⟨g.nodes, setL g.edges (posI (idsE g) d.id) false d⟩ = G2 := ⟨_, rfl⟩
              rw [hG2] at hgood
              obtain ⟨hq1, hq2, hq3⟩ := hgood
              have HQ2 := Lib.hid hq2
              have HQ3 := Lib.hid hq3
              have HC9 := Lib.hid (HJOIN.out _ HBY5.out.bel)
              rw [hq1] at HC9
              have HSG2 : Hid (SmG G2) := Lib.hid (by rw [← hG2]; exact HSMJ.out _ _ (setL_small (posE_le g d.id) HLEN.out.2))
              clear hq1 hq2 hq3 hG2
              have f0_0 : y5.cell? ⟨w.heap.size, 0, none⟩ = some (.slice na g.nodes.length nc) := HBY5.out.cell 0 0 rfl rfl
              have f0_1 : y5.cell? ⟨w.heap.size, 1, none⟩ = some (.slice ea g.edges.length ec) := HBY5.out.cell 0 1 rfl rfl
              have f1_0 : y5.cell? ⟨w.heap.size + 1, 0, none⟩ = some (.int .i64 n.id) := HBY5.out.cell 1 0 rfl rfl
              have f1_1 : y5.cell? ⟨w.heap.size + 1, 1, none⟩ = some (.slice la n.labels.length lc) := HBY5.out.cell 1 1 rfl rfl
              have f1_2 : y5.cell? ⟨w.heap.size + 1, 2, none⟩ = some (.slice ka n.keys.length kc) := HBY5.out.cell 1 2 rfl rfl
              have f1_3 : y5.cell? ⟨w.heap.size + 1, 3, none⟩ = some (.slice va n.vals.length vc) := HBY5.out.cell 1 3 rfl rfl
              have f2_0 : y5.cell? ⟨w.heap.size + 2, 0, none⟩ = some (.int .i64 d.id) := HBY5.out.cell 2 0 rfl rfl
              have f2_1 : y5.cell? ⟨w.heap.size + 2, 1, none⟩ = some (.int .i64 d.src) := HBY5.out.cell 2 1 rfl rfl
              have f2_2 : y5.cell? ⟨w.heap.size + 2, 2, none⟩ = some (.int .i64 d.dst) := HBY5.out.cell 2 2 rfl rfl
              have f2_3 : y5.cell? ⟨w.heap.size + 2, 3, none⟩ = some (.string d.ty) := HBY5.out.cell 2 3 rfl rfl
              have f2_4 : y5.cell? ⟨w.heap.size + 2, 4, none⟩ = some (.slice dka d.keys.length dkc) := HBY5.out.cell 2 4 rfl rfl
              have f2_5 : y5.cell? ⟨w.heap.size + 2, 5, none⟩ = some (.slice dva d.vals.length dvc) := HBY5.out.cell 2 5 rfl rfl
              go_wp2_with fail
              refine (HC9.out).mono ?_
              rintro e v5a ⟨cs5a, bs5a, rfl, hb5a, hG5a, -, hr5a⟩
              obtain ⟨ra5a, rc5a, rd5a, re5a, rfl⟩ := hG5a.form
              obtain ⟨X5a, hX5a⟩ : ∃ X, v5a.alloc (.cells #[.slice ra5a G2.nodes.length rc5a, .slice rd5a G2.edges.length re5a] 25) = X := ⟨_, rfl⟩
              have hba5a : Below v5a.heap.size v5a X5a := by rw [← hX5a]; exact (Below.refl _ _).alloc (Nat.le_refl _) _
              have hbk5a : Block X5a v5a.heap.size [.slice ra5a G2.nodes.length rc5a, .slice rd5a G2.edges.length re5a] 25 := by rw [← hX5a]; exact Block.new _ _ _
              have HBX5a := Lib.hid ((HBY5.out.below hb5a).below hba5a)
              have HG5a := Lib.hid ((hG5a.isG (fun b hb => (hr5a b hb).2)).below hba5a (Nat.le_refl _))
              have HZ5a := Lib.hid (show v5a.heap.size < X5a.heap.size by rw [← hX5a]; simp)
              have HK5a := Lib.hid hbk5a
              have HX5a := Lib.hid hX5a
              have x5a_0 := hbk5a.cell (i := 0) rfl
              have x5a_1 := hbk5a.cell (i := 1) rfl
              clear f0_0 f0_1 f1_0 f1_1 f1_2 f1_3 f2_0 f2_1 f2_2 f2_3 f2_4 f2_5
              rw [← hX5a] at x5a_0 x5a_1
              have f0_0 : X5a.cell? ⟨w.heap.size, 0, none⟩ = some (.slice na g.nodes.length nc) := HBX5a.out.cell 0 0 rfl rfl
              have f0_1 : X5a.cell? ⟨w.heap.size, 1, none⟩ = some (.slice ea g.edges.length ec) := HBX5a.out.cell 0 1 rfl rfl
              have f1_0 : X5a.cell? ⟨w.heap.size + 1, 0, none⟩ = some (.int .i64 n.id) := HBX5a.out.cell 1 0 rfl rfl
              have f1_1 : X5a.cell? ⟨w.heap.size + 1, 1, none⟩ = some (.slice la n.labels.length lc) := HBX5a.out.cell 1 1 rfl rfl
              have f1_2 : X5a.cell? ⟨w.heap.size + 1, 2, none⟩ = some (.slice ka n.keys.length kc) := HBX5a.out.cell 1 2 rfl rfl
              have f1_3 : X5a.cell? ⟨w.heap.size + 1, 3, none⟩ = some (.slice va n.vals.length vc) := HBX5a.out.cell 1 3 rfl rfl
              have f2_0 : X5a.cell? ⟨w.heap.size + 2, 0, none⟩ = some (.int .i64 d.id) := HBX5a.out.cell 2 0 rfl rfl
              have f2_1 : X5a.cell? ⟨w.heap.size + 2, 1, none⟩ = some (.int .i64 d.src) := HBX5a.out.cell 2 1 rfl rfl
              have f2_2 : X5a.cell? ⟨w.heap.size + 2, 2, none⟩ = some (.int .i64 d.dst) := HBX5a.out.cell 2 2 rfl rfl
              have f2_3 : X5a.cell? ⟨w.heap.size + 2, 3, none⟩ = some (.string d.ty) := HBX5a.out.cell 2 3 rfl rfl
              have f2_4 : X5a.cell? ⟨w.heap.size + 2, 4, none⟩ = some (.slice dka d.keys.length dkc) := HBX5a.out.cell 2 4 rfl rfl
              have f2_5 : X5a.cell? ⟨w.heap.size + 2, 5, none⟩ = some (.slice dva d.vals.length dvc) := HBX5a.out.cell 2 5 rfl rfl
              rw [← hX5a] at f0_0 f0_1 f1_0 f1_1 f1_2 f1_3 f2_0 f2_1 f2_2 f2_3 f2_4 f2_5
              clear hX5a hba5a hbk5a hb5a hr5a hG5a
              have HD9 := Lib.hid (cut_any G2 d.id _ v5a.heap.size X5a HG5a.out (Nat.le_of_lt HZ5a.out) HQ2.out HSG2.out)
              rw [HQ3.out] at HD9
              go_wp2_with fail
              rw [HX5a.out]
              refine (HD9.out).mono ?_
              rintro e v5b ⟨cs5b, bs5b, rfl, hb5b, hG5b, -, hr5b⟩
              obtain ⟨ra5b, rc5b, rd5b, re5b, rfl⟩ := hG5b.form
              obtain ⟨X5b, hX5b⟩ : ∃ X, v5b.alloc (.cells #[.slice ra5b g.nodes.length rc5b, .slice rd5b g.edges.length re5b] 25) = X := ⟨_, rfl⟩
              have hba5b : Below v5b.heap.size v5b X5b := by rw [← hX5b]; exact (Below.refl _ _).alloc (Nat.le_refl _) _
              have hbk5b : Block X5b v5b.heap.size [.slice ra5b g.nodes.length rc5b, .slice rd5b g.edges.length re5b] 25 := by rw [← hX5b]; exact Block.new _ _ _
              have HBX5b := Lib.hid ((HBX5a.out.below hb5b).below hba5b)
              have HG5b := Lib.hid ((hG5b.isG (fun b hb => (hr5b b hb).2)).below hba5b (Nat.le_refl _))
              have HZ5b := Lib.hid (show v5b.heap.size < X5b.heap.size by rw [← hX5b]; simp)
              have HK5b := Lib.hid hbk5b
              have HX5b := Lib.hid hX5b
              have x5b_0 := hbk5b.cell (i := 0) rfl
              have x5b_1 := hbk5b.cell (i := 1) rfl
              clear f0_0 f0_1 f1_0 f1_1 f1_2 f1_3 f2_0 f2_1 f2_2 f2_3 f2_4 f2_5 x5a_0 x5a_1
              have HS9 := Lib.hid (sameG_any g g _ _ (v5b.heap.size) X5b HG5b.out ((HGG.out _ HBX5b.out.bel).mono (by have := (HBX5a.out.below hb5b).bel.size; exact this)) (Nat.le_of_lt HZ5b.out))
              rw [(sameG_iff g g).2 rfl] at HS9
              rw [← hX5b] at x5b_0 x5b_1
              have f0_0 : X5b.cell? ⟨w.heap.size, 0, none⟩ = some (.slice na g.nodes.length nc) := HBX5b.out.cell 0 0 rfl rfl
              have f0_1 : X5b.cell? ⟨w.heap.size, 1, none⟩ = some (.slice ea g.edges.length ec) := HBX5b.out.cell 0 1 rfl rfl
              have f1_0 : X5b.cell? ⟨w.heap.size + 1, 0, none⟩ = some (.int .i64 n.id) := HBX5b.out.cell 1 0 rfl rfl
              have f1_1 : X5b.cell? ⟨w.heap.size + 1, 1, none⟩ = some (.slice la n.labels.length lc) := HBX5b.out.cell 1 1 rfl rfl
              have f1_2 : X5b.cell? ⟨w.heap.size + 1, 2, none⟩ = some (.slice ka n.keys.length kc) := HBX5b.out.cell 1 2 rfl rfl
              have f1_3 : X5b.cell? ⟨w.heap.size + 1, 3, none⟩ = some (.slice va n.vals.length vc) := HBX5b.out.cell 1 3 rfl rfl
              have f2_0 : X5b.cell? ⟨w.heap.size + 2, 0, none⟩ = some (.int .i64 d.id) := HBX5b.out.cell 2 0 rfl rfl
              have f2_1 : X5b.cell? ⟨w.heap.size + 2, 1, none⟩ = some (.int .i64 d.src) := HBX5b.out.cell 2 1 rfl rfl
              have f2_2 : X5b.cell? ⟨w.heap.size + 2, 2, none⟩ = some (.int .i64 d.dst) := HBX5b.out.cell 2 2 rfl rfl
              have f2_3 : X5b.cell? ⟨w.heap.size + 2, 3, none⟩ = some (.string d.ty) := HBX5b.out.cell 2 3 rfl rfl
              have f2_4 : X5b.cell? ⟨w.heap.size + 2, 4, none⟩ = some (.slice dka d.keys.length dkc) := HBX5b.out.cell 2 4 rfl rfl
              have f2_5 : X5b.cell? ⟨w.heap.size + 2, 5, none⟩ = some (.slice dva d.vals.length dvc) := HBX5b.out.cell 2 5 rfl rfl
              rw [← hX5b] at f0_0 f0_1 f1_0 f1_1 f1_2 f1_3 f2_0 f2_1 f2_2 f2_3 f2_4 f2_5
              clear hX5b hba5b hbk5b hb5b hr5b hG5b
              go_wp2_with fail
              rw [HX5b.out]
              refine HS9.out.mono ?_
              rintro e z5 ⟨rfl, hbz⟩
              have HBZ5 := Lib.hid (HBX5b.out.below hbz)
              clear f0_0 f0_1 f1_0 f1_1 f1_2 f1_3 f2_0 f2_1 f2_2 f2_3 f2_4 f2_5 x5b_0 x5b_1 hbz
              go_wp2_with fail
              refine (gworks_any z5).mono ?_
              rintro e wl ⟨rfl, hbl⟩
              have HBL := Lib.hid (HBZ5.out.below hbl)
              clear hbl
              go_wp2_with fail
              exact HQ.out _ HBL.out.bel
end Go.Proofs.Ytoakloicjlfaaaa

/- Layer 5: two values that may be are told as the same text just if they are the same, in plain trees. Conditions: none. -/
namespace Go.Proofs.Ytoakloicjlfaaaa
open Go.RowKit
set_option linter.unusedVariables false

/-- A quoted text is read to its end, whatever stands behind. -/
theorem qd_esc {l r : List UInt8} {x : UInt8} {n : Nat} (h0 : l.length ≠ 0) (h : nb l 0 = 92) (he : escV l = some (x, n)) (hr : l.drop n = r) : qd l = (qd r).map fun p => ([x] ++ p.1, p.2) := by
  have h1 := sg_one.2 ⟨h0, show nb l 0 < 128 by omega⟩
  rw [qd_eq, if_neg h0, if_neg (by omega), if_neg (by unfold bad; omega), if_pos h, he]
  dsimp only
  rw [hr]
  rfl
theorem qd_piece (l r : List UInt8) (h0 : l.length ≠ 0) : qd (pieceQ l ++ r) = (qd r).map fun p => (l.take (stepQ l) ++ p.1, p.2) := by
  have hb := nb_lt l 0
  have hs1 : ∀ k, nb l 0 = k → k < 128 → sg l = 1 := fun k h1 h2 => sg_one.2 ⟨h0, by omega⟩
  have hst : (sg l = 0 ∨ nb l 0 < 128) → stepQ l = 1 := fun h => by
    unfold stepQ
    rcases h with h | h
    · rw [if_pos h]
    · have := hs1 _ rfl h
      rw [if_neg (by omega)]; exact this
  unfold pieceQ
  by_cases a1 : sg l = 0 ∨ nb l 0 = 127
  · rw [if_pos a1, hst (by omega), take_one h0]
    exact qd_esc (by simp) rfl (escV_hex _ hb r) rfl
  rw [if_neg a1]
  by_cases a2 : nb l 0 = 39 ∨ nb l 0 = 92
  · rw [if_pos a2, hst (by omega), take_one h0]
    have n1 : nb ([92, UInt8.ofNat (nb l 0)] ++ r) 1 = nb l 0 := by
      show (UInt8.ofNat (nb l 0)).toNat = _
      simp; omega
    have e := escV_q (l := [92, UInt8.ofNat (nb l 0)] ++ r) (by simp) (by rw [n1]; omega)
    rw [n1] at e
    exact qd_esc (by simp) rfl e rfl
  rw [if_neg a2]
  by_cases a3 : nb l 0 = 10
  · rw [if_pos a3, hst (by omega), take_one h0, a3]
    exact qd_esc (by simp) rfl (escV_n (by simp) rfl) rfl
  rw [if_neg a3]
  by_cases a4 : nb l 0 = 9
  · rw [if_pos a4, hst (by omega), take_one h0, a4]
    exact qd_esc (by simp) rfl (escV_t (by simp) rfl) rfl
  rw [if_neg a4]
  by_cases a5 : nb l 0 = 13
  · rw [if_pos a5, hst (by omega), take_one h0, a5]
    exact qd_esc (by simp) rfl (escV_r (by simp) rfl) rfl
  rw [if_neg a5]
  by_cases a6 : nb l 0 < 32
  · rw [if_pos a6, hst (by omega), take_one h0]
    exact qd_esc (by simp) rfl (escV_hex _ hb r) rfl
  rw [if_neg a6]
  have h1 : sg l ≠ 0 := fun e => a1 (.inl e)
  have h2 := sg_le (l := l)
  have hS := sg_take r h1
  have n0 := nb_take l r (sg l) 0 (by omega) h2.2
  have hbd : ¬ bad (l.take (sg l) ++ r) := by unfold bad; rw [hS, n0]; omega
  rw [qd_eq, if_neg (by rw [List.length_append, List.length_take]; omega), n0, if_neg (by omega), if_neg hbd, if_neg (by omega), hS]
  rw [show stepQ l = sg l from by unfold stepQ; rw [if_neg h1]]
  have h3 : (l.take (sg l)).length = sg l := by rw [List.length_take]; omega
  rw [List.drop_append_of_le_length (by omega), List.take_append_of_le_length (by omega), List.take_take, Nat.min_self]
  rw [List.drop_of_length_le (by omega), List.nil_append]
theorem qd_quote (r : List UInt8) : ∀ (k : Nat) (l : List UInt8), l.length = k → qd (quoteL l ++ 39 :: r) = some (l, r) := by
  intro k
  induction k using Nat.strongRecOn with
  | _ k ih =>
    intro l hl
    by_cases h0 : l.length = 0
    · rw [quoteL_nil h0, List.length_eq_zero_iff.1 h0, List.nil_append, qd_eq, if_neg (by simp), if_pos (show nb (39 :: r) 0 = 39 from rfl)]; rfl
    · have h1 := stepQ_pos l
      rw [quoteL_step h0, List.append_assoc, qd_piece l _ h0, ih _ (by rw [List.length_drop]; omega) (l.drop (stepQ l)) rfl]
      simp
theorem quote_inj {l m r q : List UInt8} (h : quoteL l ++ 39 :: r = quoteL m ++ 39 :: q) : l = m ∧ r = q := by
  have := qd_quote r _ l rfl
  rw [h, qd_quote q _ m rfl] at this
  injection this with this
  injection this with h1 h2
  exact ⟨h1.symm, h2.symm⟩

/-- Two lists over one class of bytes, each ended by a byte of another one. -/
theorem span_inj (p : UInt8 → Bool) : ∀ (a b r q : List UInt8), a.all p = true → b.all p = true → (∀ c, r.head? = some c → p c = false) → (∀ c, q.head? = some c → p c = false) → a ++ r = b ++ q → a = b ∧ r = q := by
  intro a
  induction a with
  | nil =>
    intro b r q _ hb hr hq h
    cases b with
    | nil => exact ⟨rfl, h⟩
    | cons c cs =>
      rw [List.nil_append] at h
      rw [h] at hr
      have := hr c rfl
      simp only [List.all_cons, Bool.and_eq_true] at hb
      rw [hb.1] at this; cases this
  | cons c cs ih =>
    intro b r q ha hb hr hq h
    simp only [List.all_cons, Bool.and_eq_true] at ha
    cases b with
    | nil =>
      rw [List.nil_append] at h
      rw [← h] at hq
      have := hq c rfl
      rw [ha.1] at this; cases this
    | cons d ds =>
      simp only [List.all_cons, Bool.and_eq_true] at hb
      rw [List.cons_append, List.cons_append] at h
      injection h with h1 h2
      obtain ⟨h3, h4⟩ := ih ds r q ha.2 hb.2 hr hq h2
      exact ⟨by rw [h1, h3], h4⟩
/-- What stands behind a value: nothing, a comma, a bracket. -/
def Term (r : List UInt8) : Prop := ∀ c, r.head? = some c → c = 44 ∨ c = 93 ∨ c = 125
def numc (c : UInt8) : Bool := c == 45 || isDig c
theorem textOf_all {n : Int} (h : In64 n) : (textOf n).all numc = true := by
  have hf := decN_facts 18 n.natAbs (by unfold In64 at h; omega) (by omega)
  unfold textOf
  rw [List.all_append]
  have h2 : (decN n.natAbs).all numc = true := by
    rw [List.all_eq_true]
    intro c hc
    unfold numc
    rw [List.all_eq_true.1 hf.1 c hc, Bool.or_true]
  rw [h2, Bool.and_true]
  split <;> decide
theorem textOf_inj {n m : Int} (hn : In64 n) (hm : In64 m) (h : textOf n = textOf m) : n = m := by
  have f1 := decN_facts 18 n.natAbs (by unfold In64 at hn; omega) (by omega)
  have f2 := decN_facts 18 m.natAbs (by unfold In64 at hm; omega) (by omega)
  have hd : ∀ k, (decN k).all isDig = true → ∀ x, decN k ≠ 45 :: x := fun k hk x e => by
    rw [e] at hk
    simp only [List.all_cons, Bool.and_eq_true] at hk
    exact absurd hk.1 (by decide)
  unfold textOf at h
  by_cases h1 : n < 0
  · rw [if_pos h1] at h
    by_cases h2 : m < 0
    · rw [if_pos h2] at h
      have h3 : decN n.natAbs = decN m.natAbs := by simpa using h
      have h4 := f1.2.1
      rw [h3, f2.2.1] at h4
      omega
    · rw [if_neg h2] at h
      exact absurd h.symm (by simpa using hd _ f2.1 (decN n.natAbs))
  · rw [if_neg h1] at h
    by_cases h2 : m < 0
    · rw [if_pos h2] at h
      exact absurd h (by simpa using hd _ f1.1 (decN m.natAbs))
    · rw [if_neg h2] at h
      have h3 : decN n.natAbs = decN m.natAbs := by simpa using h
      have h4 := f1.2.1
      rw [h3, f2.2.1] at h4
      omega
theorem term_numc {r : List UInt8} (h : Term r) : ∀ c, r.head? = some c → numc c = false := by
  intro c hc
  rcases h c hc with rfl | rfl | rfl <;> decide
theorem text_inj {n m : Int} {r q : List UInt8} (hn : In64 n) (hm : In64 m) (hr : Term r) (hq : Term q) (h : textOf n ++ r = textOf m ++ q) : n = m ∧ r = q := by
  obtain ⟨h1, h2⟩ := span_inj numc _ _ r q (textOf_all hn) (textOf_all hm) (term_numc hr) (term_numc hq) h
  exact ⟨textOf_inj hn hm h1, h2⟩
/-- Keys. -/
def ncharB (c : UInt8) : Bool := nchar c.toNat
theorem nameB_all {l : List UInt8} (h : nameB l = true) : l.all ncharB = true ∧ ∃ c t, l = c :: t ∧ letter c.toNat = true := by
  have := of_decide_eq_true h
  obtain ⟨h1, h2, h3, h4⟩ := this
  constructor
  · rw [List.all_eq_true]
    intro c hc
    obtain ⟨i, hi, he⟩ := List.getElem_of_mem hc
    have := h4 i hi
    unfold nb at this
    rw [List.getElem?_eq_getElem hi, he] at this
    exact this
  · cases l with
    | nil => simp at h1
    | cons c t => exact ⟨c, t, rfl, h3⟩
theorem key_inj {l m r q : List UInt8} (h : keyL l ++ 58 :: r = keyL m ++ 58 :: q) : l = m ∧ r = q := by
  unfold keyL at h
  have h39 : ∀ {x y z : List UInt8}, nameB x = true → x ++ y ≠ 39 :: z := fun {x y z} hx e => by
    obtain ⟨_, c, t, rfl, hc⟩ := nameB_all hx
    injection e with e1 _
    rw [e1] at hc
    exact absurd hc (by decide)
  by_cases a : nameB l = true
  · rw [if_pos a] at h
    by_cases b : nameB m = true
    · rw [if_pos b] at h
      obtain ⟨h1, h2⟩ := span_inj ncharB _ _ _ _ (nameB_all a).1 (nameB_all b).1 (fun c hc => by simp at hc; subst hc; decide) (fun c hc => by simp at hc; subst hc; decide) h
      exact ⟨h1, by simpa using h2⟩
    · rw [if_neg b] at h
      exact absurd h (h39 a)
  · rw [if_neg a] at h
    by_cases b : nameB m = true
    · rw [if_pos b] at h
      exact absurd h.symm (h39 b)
    · rw [if_neg b] at h
      have h2 : quoteL l ++ 39 :: (58 :: r) = quoteL m ++ 39 :: (58 :: q) := by simpa using h
      obtain ⟨h3, h4⟩ := quote_inj h2
      exact ⟨h3, by simpa using h4⟩
/-- The first byte of a value's text. -/
def headK (k : Int) (c : UInt8) : Prop := (k = 0 ∧ c = 110) ∨ (k = 1 ∧ (c = 116 ∨ c = 102)) ∨ (k = 2 ∧ numc c = true) ∨ (k = 3 ∧ c = 39) ∨ (k = 4 ∧ c = 91) ∨ (k = 5 ∧ c = 123) ∨ ((k = 6 ∨ k = 7) ∧ c = 35)
theorem textOf_ne {n : Int} (h : In64 n) : ∃ c t, textOf n = c :: t ∧ numc c = true := by
  have ha := textOf_all h
  cases ht : textOf n with
  | nil =>
    exfalso
    obtain ⟨c, t, hc, _⟩ := (decN_facts 18 n.natAbs (by unfold In64 at h; omega) (by omega)).2.2
    unfold textOf at ht
    rw [hc] at ht
    simp at ht
  | cons c t =>
    rw [ht] at ha
    simp only [List.all_cons, Bool.and_eq_true] at ha
    exact ⟨c, t, rfl, ha.1⟩
theorem headK_one {k k' : Int} {c : UInt8} (h : headK k c) (h' : headK k' c) : k = k' ∨ ((k = 6 ∨ k = 7) ∧ (k' = 6 ∨ k' = 7)) := by
  unfold headK at h h'
  have n1 : numc 110 = false := by decide
  have n2 : numc 116 = false := by decide
  have n3 : numc 102 = false := by decide
  have n4 : numc 39 = false := by decide
  have n5 : numc 91 = false := by decide
  have n6 : numc 123 = false := by decide
  have n7 : numc 35 = false := by decide
  rcases h with ⟨rfl, rfl⟩ | ⟨rfl, rfl | rfl⟩ | ⟨rfl, hc⟩ | ⟨rfl, rfl⟩ | ⟨rfl, rfl⟩ | ⟨rfl, rfl⟩ | ⟨hk, rfl⟩ <;> rcases h' with ⟨rfl, e⟩ | ⟨rfl, e | e⟩ | ⟨rfl, e⟩ | ⟨rfl, e⟩ | ⟨rfl, e⟩ | ⟨rfl, e⟩ | ⟨hk', e⟩ <;> first | exact .inl rfl | exact .inr ⟨by assumption, by assumption⟩ | (exfalso; simp_all; done) | (exfalso; revert e; decide)
end Go.Proofs.Ytoakloicjlfaaaa

/- Layer 5: two values that may be and have one text are one value, in plain trees. Conditions: none. -/
namespace Go.Proofs.Ytoakloicjlfaaaa
open Go.RowKit
set_option linter.unusedVariables false

def Laid (t : Vt) : Prop := ∃ B w cs, IsV B w cs t
theorem Laid.head {k : Int} {b : Bool} {i : Int} {s : ByteArray} {l : List Vt} {ks : List ByteArray} (h : Laid (.mk k b i s l ks)) : In64 i ∧ ∀ (j : Nat) u, l[j]? = some u → Laid u := by
  obtain ⟨B, w, cs, h⟩ := h
  unfold IsV at h
  obtain ⟨la, lc, ka, kc, -, -, h2, -, -, -, -, -, hL⟩ := h
  exact ⟨h2, fun j u hu => by obtain ⟨_, _, cs', _, _, _, hV⟩ := hL.get j u hu; exact ⟨_, _, cs', hV⟩⟩
theorem MayE.unused {k : Int} {b : Bool} {i : Int} {s : ByteArray} {l : List Vt} {ks : List ByteArray} (h : MayE (.mk k b i s l ks)) : unusedV k b i s l.length ks.length = true := by
  cases h with
  | mk _ _ _ _ _ _ h1 h2 h3 h4 h5 => exact h4
theorem ba_zero {s t : ByteArray} (h : s.size = 0) (k : t.size = 0) : s = t := by
  apply ByteArray.ext
  apply Array.ext'
  rw [List.length_eq_zero_iff.1 (show s.data.toList.length = 0 by simpa using h), List.length_eq_zero_iff.1 (show t.data.toList.length = 0 by simpa using k)]
theorem may_eq {k : Int} {b b' : Bool} {i i' : Int} {s s' : ByteArray} {l l' : List Vt} {ks ks' : List ByteArray} (u : unusedV k b i s l.length ks.length = true) (u' : unusedV k b' i' s' l'.length ks'.length = true)
    (h1 : k = 1 → b = b') (h2 : k = 2 ∨ k = 6 ∨ k = 7 → i = i') (h3 : k = 3 → s = s') (h4 : k = 4 ∨ k = 5 → l = l') (h5 : k = 5 → ks = ks') : Vt.mk k b i s l ks = .mk k b' i' s' l' ks' := by
  obtain ⟨a1, a2, a3, a4, a5⟩ := of_decide_eq_true u
  obtain ⟨b1, b2, b3, b4, b5⟩ := of_decide_eq_true u'
  have e1 : b = b' := by
    by_cases hk : k = 1
    · exact h1 hk
    · rw [a1.resolve_left hk, b1.resolve_left hk]
  have e2 : i = i' := by
    by_cases hk : k = 2 ∨ k = 6 ∨ k = 7
    · exact h2 hk
    · have c : i = 0 := by omega
      have d : i' = 0 := by omega
      rw [c, d]
  have e3 : s = s' := by
    by_cases hk : k = 3
    · exact h3 hk
    · exact ba_zero (a3.resolve_left hk) (b3.resolve_left hk)
  have e4 : l = l' := by
    by_cases hk : k = 4 ∨ k = 5
    · exact h4 hk
    · have c : l.length = 0 := by omega
      have d : l'.length = 0 := by omega
      rw [List.length_eq_zero_iff.1 c, List.length_eq_zero_iff.1 d]
  have e5 : ks = ks' := by
    by_cases hk : k = 5
    · exact h5 hk
    · rw [List.length_eq_zero_iff.1 (a5.resolve_left hk), List.length_eq_zero_iff.1 (b5.resolve_left hk)]
  rw [e1, e2, e3, e4, e5]
/-- Lists of texts, each read to its end. -/
theorem join_inj {α : Type} (E : α → List UInt8) (ok : α → Prop) (e : UInt8) (he : e = 93 ∨ e = 125) (hd : ∀ x, ok x → ∃ c t, E x = c :: t ∧ c ≠ e) (xs : List α) (hx : ∀ x ∈ xs, ok x)
    (inj : ∀ x ∈ xs, ∀ y, ok y → ∀ r q, Term r → Term q → E x ++ r = E y ++ q → x = y ∧ r = q) (ys : List α) (hy : ∀ y ∈ ys, ok y) (r q : List UInt8) (h : jn (xs.map E) ++ e :: r = jn (ys.map E) ++ e :: q) : xs = ys ∧ r = q := by
  have hterm : ∀ (zs : List α) (p : List UInt8), Term (Lib.joinTail [44, 32] (zs.map E) ++ e :: p) := fun zs p c hc => by
    cases zs with
    | nil =>
      simp [Lib.joinTail] at hc
      rw [← hc]
      rcases he with rfl | rfl
      · exact .inr (.inl rfl)
      · exact .inr (.inr rfl)
    | cons z zs =>
      simp [Lib.joinTail] at hc
      exact .inl hc.symm
  have htail : ∀ (xs ys : List α) (r q : List UInt8), (∀ x ∈ xs, ok x) → (∀ y ∈ ys, ok y) → (∀ x ∈ xs, ∀ y, ok y → ∀ r q, Term r → Term q → E x ++ r = E y ++ q → x = y ∧ r = q) →
      Lib.joinTail [44, 32] (xs.map E) ++ e :: r = Lib.joinTail [44, 32] (ys.map E) ++ e :: q → xs = ys ∧ r = q := by
    intro xs
    induction xs with
    | nil =>
      intro ys r q _ _ _ h
      cases ys with
      | nil => simp [Lib.joinTail] at h; exact ⟨rfl, h⟩
      | cons y ys =>
        exfalso
        simp [Lib.joinTail] at h
        rcases he with rfl | rfl
        · exact absurd h.1 (by decide)
        · exact absurd h.1 (by decide)
    | cons x xs ih =>
      intro ys r q hx hy inj h
      cases ys with
      | nil =>
        exfalso
        simp [Lib.joinTail] at h
        rcases he with rfl | rfl
        · exact absurd h.1 (by decide)
        · exact absurd h.1 (by decide)
      | cons y ys =>
        have h2 : E x ++ (Lib.joinTail [44, 32] (xs.map E) ++ e :: r) = E y ++ (Lib.joinTail [44, 32] (ys.map E) ++ e :: q) := by
          simpa [Lib.joinTail, List.append_assoc] using h
        obtain ⟨h3, h4⟩ := inj x (by simp) y (hy y (by simp)) _ _ (hterm xs r) (hterm ys q) h2
        obtain ⟨h5, h6⟩ := ih ys r q (fun x hx' => hx x (by simp [hx'])) (fun y hy' => hy y (by simp [hy'])) (fun x hx' => inj x (by simp [hx'])) h4
        exact ⟨by rw [h3, h5], h6⟩
  cases xs with
  | nil =>
    cases ys with
    | nil => simp [jn_nil] at h; exact ⟨rfl, h⟩
    | cons y ys =>
      exfalso
      obtain ⟨c, t, hc, hne⟩ := hd y (hy y (by simp))
      unfold jn at h
      rw [List.map_cons, Lib.join_cons, hc] at h
      simp [Lib.join_nil] at h
      exact hne h.1.symm
  | cons x xs =>
    cases ys with
    | nil =>
      exfalso
      obtain ⟨c, t, hc, hne⟩ := hd x (hx x (by simp))
      unfold jn at h
      rw [List.map_cons, Lib.join_cons, hc] at h
      simp [Lib.join_nil] at h
      exact hne h.1
    | cons y ys =>
      unfold jn at h
      rw [List.map_cons, List.map_cons, Lib.join_cons, Lib.join_cons, List.append_assoc, List.append_assoc] at h
      obtain ⟨h3, h4⟩ := inj x (by simp) y (hy y (by simp)) _ _ (hterm xs r) (hterm ys q) h
      obtain ⟨h5, h6⟩ := htail xs ys r q (fun x hx' => hx x (by simp [hx'])) (fun y hy' => hy y (by simp [hy'])) (fun x hx' => inj x (by simp [hx'])) h4
      exact ⟨by rw [h3, h5], h6⟩
theorem show_0 (b : Bool) (i : Int) (s : ByteArray) (l : List Vt) (ks : List ByteArray) : showV (.mk 0 b i s l ks) = [110, 117, 108, 108] := by unfold showV; rfl
theorem show_1 (b : Bool) (i : Int) (s : ByteArray) (l : List Vt) (ks : List ByteArray) : showV (.mk 1 b i s l ks) = if b then [116, 114, 117, 101] else [102, 97, 108, 115, 101] := by unfold showV; rfl
theorem show_2 (b : Bool) (i : Int) (s : ByteArray) (l : List Vt) (ks : List ByteArray) : showV (.mk 2 b i s l ks) = textOf i := by unfold showV; rfl
theorem show_3 (b : Bool) (i : Int) (s : ByteArray) (l : List Vt) (ks : List ByteArray) : showV (.mk 3 b i s l ks) = 39 :: (quoteL s.data.toList ++ [39]) := by unfold showV; rfl
theorem show_6 (b : Bool) (i : Int) (s : ByteArray) (l : List Vt) (ks : List ByteArray) : showV (.mk 6 b i s l ks) = [35, 110] ++ textOf i := by unfold showV; rfl
theorem show_7 (b : Bool) (i : Int) (s : ByteArray) (l : List Vt) (ks : List ByteArray) : showV (.mk 7 b i s l ks) = [35, 101] ++ textOf i := by unfold showV; rfl
theorem show_4 (b : Bool) (i : Int) (s : ByteArray) (l : List Vt) (ks : List ByteArray) : showV (.mk 4 b i s l ks) = [91] ++ jn (showVs l) ++ [93] := by unfold showV; rfl
theorem show_5 (b : Bool) (i : Int) (s : ByteArray) (l : List Vt) (ks : List ByteArray) : showV (.mk 5 b i s l ks) = [123] ++ jn (withKeys ks (showVs l)) ++ [125] := by unfold showV; rfl
theorem show_head {k : Int} {b : Bool} {i : Int} {s : ByteArray} {l : List Vt} {ks : List ByteArray} (h0 : 0 ≤ k) (h7 : k ≤ 7) (hi : In64 i) : ∃ c t, showV (.mk k b i s l ks) = c :: t ∧ headK k c := by
  have : k = 0 ∨ k = 1 ∨ k = 2 ∨ k = 3 ∨ k = 4 ∨ k = 5 ∨ k = 6 ∨ k = 7 := by omega
  unfold headK
  rcases this with rfl | rfl | rfl | rfl | rfl | rfl | rfl | rfl
  · exact ⟨_, _, show_0 b i s l ks, .inl ⟨rfl, rfl⟩⟩
  · cases b
    · exact ⟨_, _, show_1 false i s l ks, .inr (.inl ⟨rfl, .inr rfl⟩)⟩
    · exact ⟨_, _, show_1 true i s l ks, .inr (.inl ⟨rfl, .inl rfl⟩)⟩
  · obtain ⟨c, t, h1, h2⟩ := textOf_ne hi
    exact ⟨c, t, by rw [show_2, h1], .inr (.inr (.inl ⟨rfl, h2⟩))⟩
  · exact ⟨_, _, show_3 b i s l ks, .inr (.inr (.inr (.inl ⟨rfl, rfl⟩)))⟩
  · exact ⟨_, _, show_4 b i s l ks, .inr (.inr (.inr (.inr (.inl ⟨rfl, rfl⟩))))⟩
  · exact ⟨_, _, show_5 b i s l ks, .inr (.inr (.inr (.inr (.inr (.inl ⟨rfl, rfl⟩)))))⟩
  · exact ⟨_, _, show_6 b i s l ks, .inr (.inr (.inr (.inr (.inr (.inr ⟨.inl rfl, rfl⟩)))))⟩
  · exact ⟨_, _, show_7 b i s l ks, .inr (.inr (.inr (.inr (.inr (.inr ⟨.inr rfl, rfl⟩)))))⟩
theorem headK_end {k : Int} {c : UInt8} (h : headK k c) : c ≠ 93 ∧ c ≠ 125 := by
  unfold headK at h
  rcases h with ⟨_, rfl⟩ | ⟨_, rfl | rfl⟩ | ⟨_, hc⟩ | ⟨_, rfl⟩ | ⟨_, rfl⟩ | ⟨_, rfl⟩ | ⟨_, rfl⟩
  all_goals first | decide | (constructor <;> (rintro rfl; revert hc; decide))
theorem keyL_head (l : List UInt8) : ∃ c t, keyL l = c :: t ∧ c ≠ 125 := by
  unfold keyL
  by_cases h : nameB l = true
  · rw [if_pos h]
    obtain ⟨_, c, t, rfl, hc⟩ := nameB_all h
    exact ⟨c, t, rfl, fun e => by rw [e] at hc; revert hc; decide⟩
  · rw [if_neg h]
    exact ⟨39, _, rfl, by decide⟩
def ShowInj (a : Vt) : Prop := ∀ b r q, MayE a → MayE b → Laid a → Laid b → Term r → Term q → showV a ++ r = showV b ++ q → a = b ∧ r = q
theorem withKeys_zip (ks : List ByteArray) (l : List Vt) : withKeys ks (showVs l) = (ks.zip l).map fun p => keyL p.1.data.toList ++ [58, 32] ++ showV p.2 := by
  unfold withKeys
  rw [showVs_map, List.zipWith_map_right, List.zip, List.map_zipWith]
theorem show_inj (a : Vt) : ShowInj a := by
  refine a.down (p := ShowInj) fun k b i s l ks ih b' r q hMa hMb hLa hLb hr hq h => ?_
  obtain ⟨k', b2, i', s', l', ks'⟩ := b'
  obtain ⟨a0, a7, a5, aM⟩ := hMa.head
  obtain ⟨c0, c7, c5, cM⟩ := hMb.head
  obtain ⟨ai, aL⟩ := hLa.head
  obtain ⟨ci, cL⟩ := hLb.head
  have ua := hMa.unused
  have uc := hMb.unused
  obtain ⟨x, t, hx, hkx⟩ := show_head (b := b) (s := s) (l := l) (ks := ks) a0 a7 ai
  obtain ⟨y, u, hy, hky⟩ := show_head (b := b2) (s := s') (l := l') (ks := ks') c0 c7 ci
  have hxy : x = y := by
    rw [hx, hy, List.cons_append, List.cons_append] at h
    injection h
  subst hxy
  have hok : ∀ z : Vt, (MayE z ∧ Laid z) → ∃ c t, showV z = c :: t ∧ c ≠ 93 ∧ c ≠ 125 := fun z hz => by
    obtain ⟨k, b, i, s, l, ks⟩ := z
    obtain ⟨z0, z7, -, -⟩ := hz.1.head
    obtain ⟨zi, -⟩ := hz.2.head
    obtain ⟨c, t, h1, h2⟩ := show_head (b := b) (s := s) (l := l) (ks := ks) z0 z7 zi
    exact ⟨c, t, h1, headK_end h2⟩
  rcases headK_one hkx hky with rfl | ⟨hk, hk'⟩
  rotate_left
  · have : (k = k') ∨ (k = 6 ∧ k' = 7) ∨ (k = 7 ∧ k' = 6) := by omega
    rcases this with rfl | ⟨rfl, rfl⟩ | ⟨rfl, rfl⟩
    · rcases hk with rfl | rfl
      · rw [show_6, show_6, List.append_assoc, List.append_assoc] at h
        obtain ⟨h1, h2⟩ := text_inj ai ci hr hq (List.append_cancel_left h)
        exact ⟨may_eq ua uc (by omega) (fun _ => h1) (by omega) (by omega) (by omega), h2⟩
      · rw [show_7, show_7, List.append_assoc, List.append_assoc] at h
        obtain ⟨h1, h2⟩ := text_inj ai ci hr hq (List.append_cancel_left h)
        exact ⟨may_eq ua uc (by omega) (fun _ => h1) (by omega) (by omega) (by omega), h2⟩
    · rw [show_6, show_7] at h
      exact absurd (List.cons.inj (List.cons.inj h).2).1 (by decide)
    · rw [show_7, show_6] at h
      exact absurd (List.cons.inj (List.cons.inj h).2).1 (by decide)
  have hc : k = 0 ∨ k = 1 ∨ k = 2 ∨ k = 3 ∨ k = 4 ∨ k = 5 ∨ k = 6 ∨ k = 7 := by omega
  rcases hc with rfl | rfl | rfl | rfl | rfl | rfl | rfl | rfl
  · rw [show_0, show_0] at h
    exact ⟨may_eq ua uc (by omega) (by omega) (by omega) (by omega) (by omega), List.append_cancel_left h⟩
  · rw [show_1, show_1] at h
    cases b <;> cases b2
    · exact ⟨may_eq ua uc (fun _ => rfl) (by omega) (by omega) (by omega) (by omega), List.append_cancel_left h⟩
    · exact absurd (List.cons.inj h).1 (by decide)
    · exact absurd (List.cons.inj h).1 (by decide)
    · exact ⟨may_eq ua uc (fun _ => rfl) (by omega) (by omega) (by omega) (by omega), List.append_cancel_left h⟩
  · rw [show_2, show_2] at h
    obtain ⟨h1, h2⟩ := text_inj ai ci hr hq h
    exact ⟨may_eq ua uc (by omega) (fun _ => h1) (by omega) (by omega) (by omega), h2⟩
  · rw [show_3, show_3] at h
    have h2 : quoteL s.data.toList ++ 39 :: r = quoteL s'.data.toList ++ 39 :: q := by simpa using h
    obtain ⟨h3, h4⟩ := quote_inj h2
    refine ⟨may_eq ua uc (by omega) (by omega) (fun _ => ?_) (by omega) (by omega), h4⟩
    rw [← strOf_toList s, h3, strOf_toList]
  · rw [show_4, show_4] at h
    have h2 : jn (l.map showV) ++ 93 :: r = jn (l'.map showV) ++ 93 :: q := by
      rw [← showVs_map, ← showVs_map]
      simpa using h
    obtain ⟨h3, h4⟩ := join_inj showV (fun z => MayE z ∧ Laid z) 93 (.inl rfl) (fun z hz => by obtain ⟨c, t, g1, g2, _⟩ := hok z hz; exact ⟨c, t, g1, g2⟩) l
      (fun z hz => by obtain ⟨j, hj⟩ := List.getElem?_of_mem hz; exact ⟨aM j z hj, aL j z hj⟩)
      (fun z hz y hy r q hr hq hh => by obtain ⟨j, hj⟩ := List.getElem?_of_mem hz; exact ih j z hj y r q (aM j z hj) hy.1 (aL j z hj) hy.2 hr hq hh) l'
      (fun z hz => by obtain ⟨j, hj⟩ := List.getElem?_of_mem hz; exact ⟨cM j z hj, cL j z hj⟩) r q h2
    exact ⟨may_eq ua uc (by omega) (by omega) (by omega) (fun _ => h3) (by omega), h4⟩
  · rw [show_5, show_5, withKeys_zip, withKeys_zip] at h
    have h2 : jn ((ks.zip l).map fun p => keyL p.1.data.toList ++ [58, 32] ++ showV p.2) ++ 125 :: r = jn ((ks'.zip l').map fun p => keyL p.1.data.toList ++ [58, 32] ++ showV p.2) ++ 125 :: q := by simpa using h
    have hmem : ∀ (ks : List ByteArray) (l : List Vt) p, p ∈ ks.zip l → ∃ j, l[j]? = some p.2 := fun ks l p hp => by
      obtain ⟨j, hj⟩ := List.getElem?_of_mem hp
      rw [List.getElem?_zip_eq_some] at hj
      exact ⟨j, hj.2⟩
    obtain ⟨h3, h4⟩ := join_inj (fun p : ByteArray × Vt => keyL p.1.data.toList ++ [58, 32] ++ showV p.2) (fun p => MayE p.2 ∧ Laid p.2) 125 (.inr rfl)
      (fun p hp => by obtain ⟨c, t, g1, g2⟩ := keyL_head p.1.data.toList; exact ⟨c, _, by rw [g1]; rfl, g2⟩) (ks.zip l)
      (fun p hp => by obtain ⟨j, hj⟩ := hmem ks l p hp; exact ⟨aM j _ hj, aL j _ hj⟩)
      (fun p hp y hy r q hr hq hh => by
        obtain ⟨j, hj⟩ := hmem ks l p hp
        have hh2 : keyL p.1.data.toList ++ 58 :: (32 :: (showV p.2 ++ r)) = keyL y.1.data.toList ++ 58 :: (32 :: (showV y.2 ++ q)) := by simpa using hh
        obtain ⟨g1, g2⟩ := key_inj hh2
        obtain ⟨g3, g4⟩ := ih j p.2 hj y.2 r q (aM j _ hj) hy.1 (aL j _ hj) hy.2 hr hq (List.cons.inj g2).2
        refine ⟨Prod.ext ?_ g3, g4⟩
        rw [← strOf_toList p.1, g1, strOf_toList]) (ks'.zip l')
      (fun p hp => by obtain ⟨j, hj⟩ := hmem ks' l' p hp; exact ⟨cM j _ hj, cL j _ hj⟩) r q h2
    have e1 : ks = ks' := by
      have := congrArg (List.map Prod.fst) h3
      rwa [List.map_fst_zip (by rw [a5 rfl]; exact Nat.le_refl _), List.map_fst_zip (by rw [c5 rfl]; exact Nat.le_refl _)] at this
    have e2 : l = l' := by
      have := congrArg (List.map Prod.snd) h3
      rwa [List.map_snd_zip (by rw [a5 rfl]; exact Nat.le_refl _), List.map_snd_zip (by rw [c5 rfl]; exact Nat.le_refl _)] at this
    exact ⟨may_eq ua uc (by omega) (by omega) (by omega) (fun _ => e2) (fun _ => e1), h4⟩
  · rw [show_6, show_6, List.append_assoc, List.append_assoc] at h
    obtain ⟨h1, h2⟩ := text_inj ai ci hr hq (List.append_cancel_left h)
    exact ⟨may_eq ua uc (by omega) (fun _ => h1) (by omega) (by omega) (by omega), h2⟩
  · rw [show_7, show_7, List.append_assoc, List.append_assoc] at h
    obtain ⟨h1, h2⟩ := text_inj ai ci hr hq (List.append_cancel_left h)
    exact ⟨may_eq ua uc (by omega) (fun _ => h1) (by omega) (by omega) (by omega), h2⟩
theorem show_eq {a b : Vt} (ha : MayE a) (hb : MayE b) (la : Laid a) (lb : Laid b) : showV a = showV b ↔ a = b := by
  constructor
  · intro h
    exact (show_inj a b [] [] ha hb la lb (fun c hc => by simp at hc) (fun c hc => by simp at hc) (by rw [h])).1
  · rintro rfl; rfl
end Go.Proofs.Ytoakloicjlfaaaa

/- Layer 14, in plain words: no part of a line holds a line's end. Conditions: none. -/
namespace Go.Proofs.Ytoakloicjlfaaaa
open Go.RowKit
set_option linter.unusedSimpArgs false
set_option linter.unusedVariables false

/-- No byte is a line's end. -/
def NoNl (l : List UInt8) : Prop := ∀ c ∈ l, c ≠ 10
theorem NoNl.nil : NoNl [] := fun _ h => by simp at h
theorem NoNl.app {l m : List UInt8} (h : NoNl l) (k : NoNl m) : NoNl (l ++ m) := fun c hc => by
  rcases List.mem_append.1 hc with h1 | h1
  · exact h c h1
  · exact k c h1
theorem NoNl.cons {x : UInt8} {m : List UInt8} (h : x ≠ 10) (k : NoNl m) : NoNl (x :: m) := fun c hc => by
  rcases List.mem_cons.1 hc with rfl | h1
  · exact h
  · exact k c h1
theorem sg_tail {l : List UInt8} {i : Nat} (h0 : 1 ≤ i) (h : i < sg l) : 128 ≤ nb l i := by
  unfold sg at h
  have ht : ∀ j, tl l j = true → 128 ≤ nb l j := fun j hj => by
    unfold tl at hj
    simp only [Bool.and_eq_true, decide_eq_true_eq] at hj
    omega
  (repeat' split at h) <;> try omega
  · next a1 a2 a3 a4 =>
      have e : i = 1 := by omega
      subst e
      exact ht 1 (by simp at a3; exact a3.2.2)
  · next a1 a2 a3 a4 a5 a6 =>
      rcases Nat.lt_or_ge i 2 with h | h
      · have e : i = 1 := by omega
        subst e
        exact ht 1 (by simp at a3; exact a3.2.2)
      · have e : i = 2 := by omega
        subst e
        exact ht 2 (by simp at a5; exact a5.1)
  · next a1 a2 a3 a4 a5 a6 a7 =>
      rcases Nat.lt_or_ge i 2 with h | h
      · have e : i = 1 := by omega
        subst e
        exact ht 1 (by simp at a3; exact a3.2.2)
      · rcases Nat.lt_or_ge i 3 with h | h
        · have e : i = 2 := by omega
          subst e
          exact ht 2 (by simp at a5; exact a5.1)
        · have e : i = 3 := by omega
          subst e
          exact ht 3 (by simp at a7; exact a7.1)
theorem NoNl.hx2 (c : Nat) (hc : c < 256) : NoNl ([92, 120] ++ hx2 c) := by
  have a := hexd (c / 16) (by omega)
  have b := hexd (c % 16) (by omega)
  refine NoNl.cons (by decide) (NoNl.cons (by decide) (NoNl.cons (fun e => ?_) (NoNl.cons (fun e => ?_) NoNl.nil)))
  · rw [e] at a; have := a.2.1; revert this; decide
  · rw [e] at b; have := b.2.1; revert this; decide
theorem nb_of {l : List UInt8} {i : Nat} {c : UInt8} (h : l[i]? = some c) : nb l i = c.toNat := by
  unfold nb; rw [h]; rfl
theorem NoNl.piece (l : List UInt8) (h0 : l.length ≠ 0) : NoNl (pieceQ l) := by
  unfold pieceQ
  split
  · exact NoNl.hx2 _ (nb_lt l 0)
  split
  · next h => refine NoNl.cons (by decide) (NoNl.cons (fun e => ?_) NoNl.nil); rcases h with h | h <;> rw [h] at e <;> revert e <;> decide
  split
  · exact NoNl.cons (by decide) (NoNl.cons (by decide) NoNl.nil)
  split
  · exact NoNl.cons (by decide) (NoNl.cons (by decide) NoNl.nil)
  split
  · exact NoNl.cons (by decide) (NoNl.cons (by decide) NoNl.nil)
  split
  · exact NoNl.hx2 _ (nb_lt l 0)
  · next h1 h2 h3 h4 h5 h6 =>
      intro c hc e
      obtain ⟨i, hi⟩ := List.getElem?_of_mem hc
      have hil : i < sg l := by have := (List.getElem?_eq_some_iff.1 hi).1; rw [List.length_take] at this; omega
      rw [List.getElem?_take_of_lt hil] at hi
      have hn := nb_of hi
      rw [e] at hn
      rcases Nat.eq_zero_or_pos i with h | h
      · subst h
        exact h3 hn
      · have := sg_tail h hil
        rw [hn] at this
        revert this
        decide
theorem NoNl.quote : ∀ (k : Nat) (l : List UInt8), l.length = k → NoNl (quoteL l) := by
  intro k
  induction k using Nat.strongRecOn with
  | _ k ih =>
    intro l hl
    by_cases h0 : l.length = 0
    · rw [quoteL_nil h0]; exact NoNl.nil
    · rw [quoteL_step h0]
      have h1 := stepQ_pos l
      exact (NoNl.piece l h0).app (ih (l.drop (stepQ l)).length (by rw [List.length_drop]; omega) _ rfl)
theorem NoNl.key (l : List UInt8) : NoNl (keyL l) := by
  unfold keyL
  split
  · next h =>
      obtain ⟨ha, _⟩ := nameB_all h
      intro c hc e
      have := List.all_eq_true.1 ha c hc
      rw [e] at this
      revert this
      decide
  · exact NoNl.cons (by decide) ((NoNl.quote _ l rfl).app (NoNl.cons (by decide) NoNl.nil))
theorem NoNl.text {n : Int} (h : In64 n) : NoNl (textOf n) := by
  intro c hc e
  have := List.all_eq_true.1 (textOf_all h) c hc
  rw [e] at this
  revert this
  decide
theorem NoNl.jn : ∀ xs : List (List UInt8), (∀ x ∈ xs, NoNl x) → NoNl (jn xs) := by
  intro xs
  induction hn : xs.length using Nat.strongRecOn generalizing xs with
  | _ n ih =>
    intro h
    rcases List.eq_nil_or_concat xs with rfl | ⟨ys, y, rfl⟩
    · exact NoNl.nil
    · rw [List.concat_eq_append] at hn h ⊢
      rw [jn_snoc]
      split
      · exact h y (by simp)
      · refine ((ih ys.length (by rw [← hn]; simp) ys rfl (fun x hx => h x (by simp [hx]))).app (NoNl.cons (by decide) (NoNl.cons (by decide) NoNl.nil))).app (h y (by simp))
theorem NoNl.show (t : Vt) : MayE t → Laid t → NoNl (showV t) := by
  refine t.down (p := fun t => MayE t → Laid t → NoNl (showV t)) fun k b i s l ks ih hm hl => ?_
  obtain ⟨k0, k7, _, hM⟩ := hm.head
  obtain ⟨hi, hL⟩ := hl.head
  have hs : ∀ x ∈ showVs l, NoNl x := fun x hx => by
    rw [showVs_map] at hx
    obtain ⟨t, ht, rfl⟩ := List.mem_map.1 hx
    obtain ⟨j, hj⟩ := List.getElem?_of_mem ht
    exact ih j t hj (hM j t hj) (hL j t hj)
  unfold showV
  split
  · split <;> exact fun c hc e => by subst e; revert hc; decide
  split
  · exact NoNl.text hi
  split
  · exact NoNl.cons (by decide) ((NoNl.quote _ _ rfl).app (NoNl.cons (by decide) NoNl.nil))
  split
  · exact NoNl.app (fun c hc e => by subst e; revert hc; decide) (NoNl.text hi)
  split
  · exact NoNl.app (fun c hc e => by subst e; revert hc; decide) (NoNl.text hi)
  split
  · exact ((show NoNl [91] from NoNl.cons (by decide) NoNl.nil).app (NoNl.jn _ hs)).app (fun c hc e => by subst e; revert hc; decide)
  split
  · refine ((show NoNl [123] from NoNl.cons (by decide) NoNl.nil).app (NoNl.jn _ fun x hx => ?_)).app (fun c hc e => by subst e; revert hc; decide)
    rw [withKeys_zip] at hx
    obtain ⟨p, hp, rfl⟩ := List.mem_map.1 hx
    have h2 : p.2 ∈ l := (List.of_mem_zip hp).2
    obtain ⟨j, hj⟩ := List.getElem?_of_mem h2
    exact ((NoNl.key _).app (fun c hc e => by subst e; revert hc; decide)).app (ih j _ hj (hM j _ hj) (hL j _ hj))
  · exact fun c hc e => by subst e; revert hc; decide
end Go.Proofs.Ytoakloicjlfaaaa

/- Layer 14, in plain words: a text of lines is parted into its lines in one way. Conditions: no line holds a line's end. -/
namespace Go.Proofs.Ytoakloicjlfaaaa
open Go.RowKit
set_option linter.unusedSimpArgs false
set_option linter.unusedVariables false

theorem nl_span {a b r q : List UInt8} (ha : NoNl a) (hb : NoNl b) (h : a ++ 10 :: r = b ++ 10 :: q) : a = b ∧ r = q := by
  have h1 := span_inj (fun c => c != 10) a b (10 :: r) (10 :: q) (List.all_eq_true.2 fun c hc => by simpa using ha c hc) (List.all_eq_true.2 fun c hc => by simpa using hb c hc) (fun c hc => by simp at hc; subst hc; rfl) (fun c hc => by simp at hc; subst hc; rfl) h
  refine ⟨h1.1, ?_⟩
  have := h1.2
  injection this
theorem lines_inj : ∀ xs ys : List (List UInt8), (∀ x ∈ xs, NoNl x) → (∀ y ∈ ys, NoNl y) → xs.flatMap (fun x => x ++ [10]) = ys.flatMap (fun x => x ++ [10]) → xs = ys
  | [], [], _, _, _ => rfl
  | [], y :: ys, _, _, h => by simp at h
  | x :: xs, [], _, _, h => by simp at h
  | x :: xs, y :: ys, hx, hy, h => by
    simp only [List.flatMap_cons, List.append_assoc, List.singleton_append] at h
    obtain ⟨e1, e2⟩ := nl_span (hx x (by simp)) (hy y (by simp)) h
    rw [e1, lines_inj xs ys (fun z hz => hx z (by simp [hz])) (fun z hz => hy z (by simp [hz])) e2]
/-- The bare lines. -/
def propsM (ks : List ByteArray) (vs : List Vt) : List UInt8 := if ks = [] then [] else 32 :: showV (propsV ks vs)
def nodeB (n : Nt) : List UInt8 := 35 :: 110 :: (textOf n.id ++ (n.labels.flatMap labelL ++ propsM n.keys n.vals))
def edgeB (e : Et) : List UInt8 := edgeH e ++ propsM e.keys e.vals
theorem nodeL_bare (n : Nt) : nodeL n = nodeB n ++ [10] := by
  unfold nodeL nodeB propsL propsM
  simp
theorem edgeL_bare (e : Et) : edgeL e = edgeB e ++ [10] := by
  unfold edgeL edgeB propsL propsM
  simp
theorem textG_lines (g : Gt) : textG g = (g.nodes.map nodeB ++ g.edges.map edgeB).flatMap (fun x => x ++ [10]) := by
  unfold textG
  rw [List.flatMap_append, List.flatMap_map, List.flatMap_map]
  congr 1
  · congr 1; funext n; exact nodeL_bare n
  · congr 1; funext n; exact edgeL_bare n
theorem kinds_inj {α β : Type} {f : α → List UInt8} {h : β → List UInt8} (hk : ∀ a b, f a ≠ h b) : ∀ (xs xs' : List α) (ys ys' : List β), xs.map f ++ ys.map h = xs'.map f ++ ys'.map h → xs.map f = xs'.map f ∧ ys.map h = ys'.map h
  | [], [], _, _, e => ⟨rfl, by simpa using e⟩
  | [], x :: xs', ys, ys', e => by
    cases ys with
    | nil => simp at e
    | cons y ys => simp at e; exact absurd e.1.symm (hk x y)
  | x :: xs, [], ys, ys', e => by
    cases ys' with
    | nil => simp at e
    | cons y ys' => simp at e; exact absurd e.1 (hk x y)
  | x :: xs, x' :: xs', ys, ys', e => by
    simp only [List.map_cons, List.cons_append, List.cons.injEq] at e
    obtain ⟨h1, h2⟩ := kinds_inj hk xs xs' ys ys' e.2
    exact ⟨by simp [e.1, h1], h2⟩
theorem map_inj {α : Type} {f : α → List UInt8} {ok : α → Prop} (hf : ∀ a b, ok a → ok b → f a = f b → a = b) : ∀ xs ys : List α, (∀ x ∈ xs, ok x) → (∀ y ∈ ys, ok y) → xs.map f = ys.map f → xs = ys
  | [], [], _, _, _ => rfl
  | [], y :: ys, _, _, h => by simp at h
  | x :: xs, [], _, _, h => by simp at h
  | x :: xs, y :: ys, hx, hy, h => by
    simp only [List.map_cons, List.cons.injEq] at h
    rw [hf x y (hx x (by simp)) (hy y (by simp)) h.1, map_inj hf xs ys (fun z hz => hx z (by simp [hz])) (fun z hz => hy z (by simp [hz])) h.2]
end Go.Proofs.Ytoakloicjlfaaaa

/- Layer 14, in plain words: two graphs that may be have one text only if they are the same. Conditions: they may be and lie in memory. -/
namespace Go.Proofs.Ytoakloicjlfaaaa
open Go.RowKit
set_option linter.unusedSimpArgs false
set_option linter.unusedVariables false

/-- What comes behind a number or a name within a line. -/
def Tail (r : List UInt8) : Prop := ∀ c, r.head? = some c → c = 58 ∨ c = 32
theorem Tail.nil : Tail [] := fun c h => by simp at h
theorem Tail.cons {c : UInt8} {r : List UInt8} (h : c = 58 ∨ c = 32) : Tail (c :: r) := fun d hd => by simp at hd; subst hd; exact h
theorem num_tail {n m : Int} {r q : List UInt8} (hn : In64 n) (hm : In64 m) (hr : Tail r) (hq : Tail q) (h : textOf n ++ r = textOf m ++ q) : n = m ∧ r = q := by
  have h1 := span_inj numc _ _ r q (textOf_all hn) (textOf_all hm) (fun c hc => by rcases hr c hc with rfl | rfl <;> decide) (fun c hc => by rcases hq c hc with rfl | rfl <;> decide) h
  exact ⟨textOf_inj hn hm h1.1, h1.2⟩
theorem key_tail {l m r q : List UInt8} (hr : Tail r) (hq : Tail q) (h : keyL l ++ r = keyL m ++ q) : l = m ∧ r = q := by
  unfold keyL at h
  by_cases h1 : nameB l = true <;> by_cases h2 : nameB m = true
  · rw [if_pos h1, if_pos h2] at h
    exact span_inj ncharB l m r q (nameB_all h1).1 (nameB_all h2).1 (fun c hc => by rcases hr c hc with rfl | rfl <;> decide) (fun c hc => by rcases hq c hc with rfl | rfl <;> decide) h
  · rw [if_pos h1, if_neg h2] at h
    obtain ⟨_, c, t, rfl, hc⟩ := nameB_all h1
    rw [List.cons_append, List.cons_append] at h
    injection h with h _
    rw [h] at hc
    exact absurd hc (by decide)
  · rw [if_neg h1, if_pos h2] at h
    obtain ⟨_, c, t, rfl, hc⟩ := nameB_all h2
    rw [List.cons_append, List.cons_append] at h
    injection h with h _
    rw [← h] at hc
    exact absurd hc (by decide)
  · rw [if_neg h1, if_neg h2] at h
    simp only [List.cons_append, List.append_assoc, List.singleton_append] at h
    injection h with _ h
    exact quote_inj h
theorem propsM_tail (ks : List ByteArray) (vs : List Vt) : Tail (propsM ks vs) ∧ (∀ c, (propsM ks vs).head? = some c → c = 32) := by
  unfold propsM
  split
  · exact ⟨Tail.nil, fun c h => by simp at h⟩
  · exact ⟨Tail.cons (.inr rfl), fun c h => by simp at h; exact h.symm⟩
theorem ba_data {x y : ByteArray} (h : x.data.toList = y.data.toList) : x = y := by
  apply ByteArray.ext
  exact Array.ext' h
theorem labels_tail {p q : List UInt8} (hp : ∀ c, p.head? = some c → c = 32) (hq : ∀ c, q.head? = some c → c = 32) : ∀ ls ms : List ByteArray, ls.flatMap labelL ++ p = ms.flatMap labelL ++ q → ls = ms ∧ p = q := by
  have ht : ∀ (ls : List ByteArray) (p : List UInt8), (∀ c, p.head? = some c → c = 32) → Tail (ls.flatMap labelL ++ p) := fun ls p hp => by
    cases ls with
    | nil => exact fun c hc => .inr (hp c (by simpa using hc))
    | cons l ls => exact Tail.cons (.inl rfl)
  intro ls
  induction ls with
  | nil =>
    intro ms h
    cases ms with
    | nil => exact ⟨rfl, by simpa using h⟩
    | cons m ms =>
      have : p.head? = some 58 := by rw [show p = _ from (by simpa using h : p = _)]; rfl
      exact absurd (hp 58 this) (by decide)
  | cons l ls ih =>
    intro ms h
    cases ms with
    | nil =>
      have : q.head? = some 58 := by rw [show q = _ from (by simpa using h.symm : q = _)]; rfl
      exact absurd (hq 58 this) (by decide)
    | cons m ms =>
      simp only [List.flatMap_cons, labelL, List.cons_append, List.append_assoc] at h
      injection h with _ h
      obtain ⟨e1, e2⟩ := key_tail (ht ls p hp) (ht ms q hq) h
      obtain ⟨e3, e4⟩ := ih ms e2
      exact ⟨by rw [ba_data e1, e3], e4⟩
/-- Properties that may be, and lie in memory. -/
def OkP (ks : List ByteArray) (vs : List Vt) : Prop := ks.length = vs.length ∧ MayE (propsV ks vs) ∧ Laid (propsV ks vs)
theorem propsM_inj {ks ms : List ByteArray} {vs ws : List Vt} (h1 : OkP ks vs) (h2 : OkP ms ws) (h : propsM ks vs = propsM ms ws) : ks = ms ∧ vs = ws := by
  obtain ⟨a1, a2, a3⟩ := h1
  obtain ⟨b1, b2, b3⟩ := h2
  unfold propsM at h
  by_cases c1 : ks = [] <;> by_cases c2 : ms = []
  · subst c1 c2
    exact ⟨rfl, by rw [List.eq_nil_of_length_eq_zero a1.symm, List.eq_nil_of_length_eq_zero b1.symm]⟩
  · rw [if_pos c1, if_neg c2] at h; cases h
  · rw [if_neg c1, if_pos c2] at h; cases h
  · rw [if_neg c1, if_neg c2] at h
    injection h with _ h
    have := (show_eq a2 b2 a3 b3).1 h
    unfold propsV at this
    injection this with _ _ _ _ e1 e2
    exact ⟨e2, e1⟩
def OkN (n : Nt) : Prop := In64 n.id ∧ OkP n.keys n.vals
def OkE (e : Et) : Prop := (In64 e.id ∧ In64 e.src ∧ In64 e.dst) ∧ OkP e.keys e.vals
theorem nodeB_inj (n m : Nt) (hn : OkN n) (hm : OkN m) (h : nodeB n = nodeB m) : n = m := by
  unfold nodeB at h
  injection h with _ h
  injection h with _ h
  have ht : ∀ x : Nt, Tail (x.labels.flatMap labelL ++ propsM x.keys x.vals) := fun x => by
    cases hx : x.labels with
    | nil => simpa using (propsM_tail x.keys x.vals).1
    | cons l ls => exact Tail.cons (.inl rfl)
  obtain ⟨e1, e2⟩ := num_tail hn.1 hm.1 (ht n) (ht m) h
  obtain ⟨e3, e4⟩ := labels_tail (propsM_tail _ _).2 (propsM_tail _ _).2 _ _ e2
  obtain ⟨e5, e6⟩ := propsM_inj hn.2 hm.2 e4
  obtain ⟨a1, a2, a3, a4⟩ := n
  obtain ⟨b1, b2, b3, b4⟩ := m
  simp only at e1 e3 e5 e6
  subst e1 e3 e5 e6
  rfl
theorem edgeB_inj (n m : Et) (hn : OkE n) (hm : OkE m) (h : edgeB n = edgeB m) : n = m := by
  unfold edgeB edgeH at h
  simp only [List.append_assoc, List.cons_append, List.nil_append] at h
  injection h with _ h
  injection h with _ h
  obtain ⟨e1, h⟩ := num_tail hn.1.1 hm.1.1 (Tail.cons (.inl rfl)) (Tail.cons (.inl rfl)) h
  injection h with _ h
  obtain ⟨e2, h⟩ := key_tail (Tail.cons (.inr rfl)) (Tail.cons (.inr rfl)) h
  injection h with _ h
  injection h with _ h
  injection h with _ h
  obtain ⟨e3, h⟩ := num_tail hn.1.2.1 hm.1.2.1 (Tail.cons (.inr rfl)) (Tail.cons (.inr rfl)) h
  injection h with _ h
  injection h with _ h
  injection h with _ h
  obtain ⟨e4, h⟩ := num_tail hn.1.2.2 hm.1.2.2 (propsM_tail _ _).1 (propsM_tail _ _).1 h
  obtain ⟨e5, e6⟩ := propsM_inj hn.2 hm.2 h
  have e7 := ba_data e2
  clear e2
  obtain ⟨a1, a2, a3, a4, a5, a6⟩ := n
  obtain ⟨b1, b2, b3, b4, b5, b6⟩ := m
  simp only at e1 e7 e3 e4 e5 e6
  subst e1 e7 e3 e4 e5 e6
  rfl
structure OkG (g : Gt) : Prop where
  nodes : ∀ n ∈ g.nodes, OkN n
  edges : ∀ e ∈ g.edges, OkE e
theorem propsM_nl {ks : List ByteArray} {vs : List Vt} (h : OkP ks vs) : NoNl (propsM ks vs) := by
  unfold propsM
  split
  · exact NoNl.nil
  · exact NoNl.cons (by decide) (NoNl.show _ h.2.1 h.2.2)
theorem labels_nl (ls : List ByteArray) : NoNl (ls.flatMap labelL) := by
  intro c hc
  obtain ⟨l, _, hc⟩ := List.mem_flatMap.1 hc
  exact (NoNl.cons (by decide) (NoNl.key _)) c hc
theorem nodeB_nl {n : Nt} (h : OkN n) : NoNl (nodeB n) := NoNl.cons (by decide) (NoNl.cons (by decide) ((NoNl.text h.1).app ((labels_nl _).app (propsM_nl h.2))))
theorem edgeB_nl {n : Et} (h : OkE n) : NoNl (edgeB n) := by
  have h3 : NoNl [32, 35, 110] := NoNl.cons (by decide) (NoNl.cons (by decide) (NoNl.cons (by decide) NoNl.nil))
  exact NoNl.app (NoNl.app (NoNl.cons (by decide) (NoNl.cons (by decide) NoNl.nil)) ((NoNl.text h.1.1).app (NoNl.app (NoNl.cons (by decide) NoNl.nil) ((NoNl.key _).app (h3.app ((NoNl.text h.1.2.1).app (h3.app (NoNl.text h.1.2.2)))))))) (propsM_nl h.2)
theorem textG_inj {g h : Gt} (hg : OkG g) (hh : OkG h) (e : textG g = textG h) : g = h := by
  rw [textG_lines, textG_lines] at e
  have hl : ∀ x : Gt, OkG x → ∀ l ∈ x.nodes.map nodeB ++ x.edges.map edgeB, NoNl l := fun x hx l hl => by
    rcases List.mem_append.1 hl with hl | hl
    · obtain ⟨n, hn, rfl⟩ := List.mem_map.1 hl; exact nodeB_nl (hx.nodes n hn)
    · obtain ⟨n, hn, rfl⟩ := List.mem_map.1 hl; exact edgeB_nl (hx.edges n hn)
  have e1 := lines_inj _ _ (hl g hg) (hl h hh) e
  obtain ⟨e2, e3⟩ := kinds_inj (fun a b => by unfold nodeB edgeB edgeH; intro h; simp at h) _ _ _ _ e1
  have e4 := map_inj (ok := OkN) nodeB_inj _ _ hg.nodes hh.nodes e2
  have e5 := map_inj (ok := OkE) edgeB_inj _ _ hg.edges hh.edges e3
  obtain ⟨a1, a2⟩ := g
  obtain ⟨b1, b2⟩ := h
  simp only at e4 e5
  subst e4 e5
  rfl
end Go.Proofs.Ytoakloicjlfaaaa

/- Layer 14: the law GraphApart as a call. Conditions: what is read is small. -/
namespace Go.Proofs.Ytoakloicjlfaaaa
open Go.RowKit
set_option linter.unusedSimpArgs false
set_option linter.unusedVariables false
set_option maxRecDepth 100000

theorem TxP.may {ks : List ByteArray} {vs : List Vt} (h : propsB ks vs = true) : ks.length = vs.length ∧ MayE (propsV ks vs) := by
  have h0 := h
  unfold propsB at h
  simp only [Bool.and_eq_true, decide_eq_true_eq] at h
  refine ⟨h.1.1, ?_⟩
  by_cases hk : ks = []
  · subst hk
    have hv : vs = [] := List.eq_nil_of_length_eq_zero h.1.1.symm
    subst hv
    exact .mk _ _ _ _ _ _ (by omega) (by omega) (fun _ => rfl) (by unfold unusedV; simp; rfl) (fun j u hu => by simp at hu)
  · exact TxP.of h0 hk
theorem IsPr.laid {B : Nat} {w : World} {ka va : Option Addr} {kc vc : Nat} {ks : List ByteArray} {vs : List Vt} (h : IsPr B w ka va kc vc ks vs) : Laid (propsV ks vs) := by
  obtain ⟨h1, h2, h3, h4⟩ := h
  refine ⟨B, w, [.int .i64 5, .bool false, .int .i64 0, .string ⟨#[]⟩, .slice va vs.length vc, .slice ka ks.length kc], ?_⟩
  unfold propsV IsV
  exact ⟨va, vc, ka, kc, rfl, by unfold in64; omega, by unfold in64; omega, h2.1, h1.1, h2.2, h1.2, h3, h4⟩
theorem IsG.ok {B : Nat} {w : World} {cs : List Value} {g : Gt} (h : IsG B w cs g) (hm : MayG g) : OkG g := by
  obtain ⟨na, nc, ea, ec, rfl, hn, he, hN, hE⟩ := h
  refine ⟨fun n hn => ?_, fun n hn => ?_⟩
  · obtain ⟨j, hj⟩ := List.getElem?_of_mem hn
    obtain ⟨_, _, cs, _, _, _, hc, _⟩ := hN.at hj
    obtain ⟨la, lc, ka, kc, va, vc, rfl, hid, _, _, hp⟩ := hc
    have := hm.nodes j n hj
    unfold mayN at this
    simp only [Bool.and_eq_true] at this
    obtain ⟨h1, h2⟩ := TxP.may this.2
    exact ⟨hid, h1, h2, hp.laid⟩
  · obtain ⟨j, hj⟩ := List.getElem?_of_mem hn
    obtain ⟨_, _, cs, _, _, _, hc, _⟩ := hE.at hj
    obtain ⟨ka, kc, va, vc, rfl, hid, hp⟩ := hc
    have := hm.edges j n hj
    unfold mayE at this
    simp only [Bool.and_eq_true] at this
    obtain ⟨h1, h2⟩ := TxP.may this.2
    exact ⟨hid, h1, h2, hp.laid⟩
theorem MayG.tx {g : Gt} (h : MayG g) (hw : wtG g ≤ 1048576) : TxG g := by
  refine ⟨hw, fun j n hj => ?_, fun j n hj => ?_⟩
  · have := h.nodes j n hj
    unfold mayN at this
    simp only [Bool.and_eq_true] at this
    exact TxP.of this.2
  · have := h.edges j n hj
    unfold mayE at this
    simp only [Bool.and_eq_true] at this
    exact TxP.of this.2
set_option maxHeartbeats 16000000 in
theorem gapart_any (g h : Gt) (cs ds : List Value) (w : World) (hg : IsG w.heap.size w cs g) (hh : IsG w.heap.size w ds h) (hwg : wtG g ≤ 1048576) (hwh : wtG h ≤ 1048576) :
    Calls Try.prog 3 #[.agg cs.toArray, .agg ds.toArray] w fun e w' => e = .returned (.bool true) ∧ Below w.heap.size w w' := by
  have hg0 := hg
  have hh0 := hh
  obtain ⟨na, nc, ea, ec, rfl, -⟩ := hg
  obtain ⟨ma, mc, fa, fc, rfl, -⟩ := hh
  show Calls Try.prog 3 #[.agg #[.slice na g.nodes.length nc, .slice ea g.edges.length ec], .agg #[.slice ma h.nodes.length mc, .slice fa h.edges.length fc]] w _
  obtain ⟨W0, hw0⟩ : ∃ w0, (w.alloc (.cells #[.slice na g.nodes.length nc, .slice ea g.edges.length ec] 25)).alloc (.cells #[.slice ma h.nodes.length mc, .slice fa h.edges.length fc] 25) = w0 := ⟨_, rfl⟩
  have hb0 : Below w.heap.size w W0 := by rw [← hw0]; exact ((Below.refl _ _).alloc (Nat.le_refl _) _).alloc (by simp) _
  have hX : Block W0 w.heap.size [.slice na g.nodes.length nc, .slice ea g.edges.length ec] 25 := by rw [← hw0]; exact (Block.new w _ _).alloc _
  have hY : Block W0 (w.heap.size + 1) [.slice ma h.nodes.length mc, .slice fa h.edges.length fc] 25 := by rw [← hw0]; have := Block.new (w.alloc (.cells #[.slice na g.nodes.length nc, .slice ea g.edges.length ec] 25)) [.slice ma h.nodes.length mc, .slice fa h.edges.length fc] 25; simpa using this
  have hsz : w.heap.size + 2 ≤ W0.heap.size := by rw [← hw0]; simp
  have hl0 : w.heap.size < w.heap.size + 2 := by omega
  have hl1 : w.heap.size + 1 < w.heap.size + 2 := by omega
  have hbe : ∀ u : Ext (w.heap.size + 2) W0, Below w.heap.size w u.w := fun u => hb0.trans (u.below.mono (by omega))
  have x0 : ∀ u : Ext (w.heap.size + 2) W0, u.w.cell? ⟨w.heap.size, 0, none⟩ = some (.slice na g.nodes.length nc) := fun u => u.cell hl0 (hX.cell rfl)
  have x1 : ∀ u : Ext (w.heap.size + 2) W0, u.w.cell? ⟨w.heap.size, 1, none⟩ = some (.slice ea g.edges.length ec) := fun u => u.cell hl0 (hX.cell rfl)
  have y0 : ∀ u : Ext (w.heap.size + 2) W0, u.w.cell? ⟨w.heap.size + 1, 0, none⟩ = some (.slice ma h.nodes.length mc) := fun u => u.cell hl1 (hY.cell rfl)
  have y1 : ∀ u : Ext (w.heap.size + 2) W0, u.w.cell? ⟨w.heap.size + 1, 1, none⟩ = some (.slice fa h.edges.length fc) := fun u => u.cell hl1 (hY.cell rfl)
  have HM1 := Lib.hid (fun u : Ext (w.heap.size + 2) W0 => ext_call u hsz (rmayG_any g _ _ u.w (hg0.below (hbe u) (Nat.le_refl _)) (hbe u).size))
  have HM2 := Lib.hid (fun u : Ext (w.heap.size + 2) W0 => ext_call u hsz (rmayG_any h _ _ u.w (hh0.below (hbe u) (Nat.le_refl _)) (hbe u).size))
  have HWK := Lib.hid (fun u : Ext (w.heap.size + 2) W0 => ext_call u hsz (gworks_any u.w))
  have HT1 := Lib.hid (fun (ht : TxG g) (u : Ext (w.heap.size + 2) W0) => ext_call u hsz (text_any' g _ _ u.w (hg0.below (hbe u) (Nat.le_refl _)) (hbe u).size ht))
  have HT2 := Lib.hid (fun (ht : TxG h) (u : Ext (w.heap.size + 2) W0) => ext_call u hsz (text_any' h _ _ u.w (hh0.below (hbe u) (Nat.le_refl _)) (hbe u).size ht))
  have HS := Lib.hid (fun u : Ext (w.heap.size + 2) W0 => ext_call u hsz (sameG_any g h _ _ _ u.w (hg0.below (hbe u) (Nat.le_refl _)) (hh0.below (hbe u) (Nat.le_refl _)) (hbe u).size))
  have HOK := Lib.hid (fun (a : MayG g) (b : MayG h) => (show OkG g ∧ OkG h from ⟨hg0.ok a, hh0.ok b⟩))
  have HWG := Lib.hid (show _ ∧ _ from ⟨hwg, hwh⟩)
  have HW0 := Lib.hid hw0
  obtain ⟨u0, hu0⟩ := Ext.start (w.heap.size + 2) W0
  have HU0 := Lib.hid hu0
  obtain ⟨Q, hQ⟩ : ∃ Q : Ending → World → Prop, (fun e w' => e = .returned (.bool true) ∧ Below w.heap.size w w') = Q := ⟨_, rfl⟩
  have HQ : Hid (∀ u : Ext (w.heap.size + 2) W0, Q (.returned (.bool true)) u.w) := Lib.hid (fun u => by rw [← hQ]; exact ⟨rfl, hbe u⟩)
  rw [hQ]
  clear hQ hX hY hsz hl0 hl1 hbe hw0 hb0 hu0 hg0 hh0 hwg hwh
  have HLN := Lib.hid (rfl : g.nodes.length = g.nodes.length)
  go_enter Try.func3, Try.ntmps3
  go_wp2_with fail
  rw [HW0.out, HU0.out]
  go_wp2_with fail
  refine (HM1.out u0).mono ?_
  rintro e w1 ⟨rfl, u1, rfl⟩
  cases hm1 : mayG g with
  | false =>
    clear hm1
    go_wp2_with fail
    refine (HWK.out u1).mono ?_
    rintro e w2 ⟨rfl, u2, rfl⟩
    go_wp2_with fail
    exact HQ.out u2
  | true =>
    have HG1 := Lib.hid (MayG.of hm1)
    clear hm1
    go_wp2_with fail
    refine (HM2.out u1).mono ?_
    rintro e w2 ⟨rfl, u2, rfl⟩
    cases hm2 : mayG h with
    | false =>
      clear hm2
      go_wp2_with fail
      refine (HWK.out u2).mono ?_
      rintro e w3 ⟨rfl, u3, rfl⟩
      go_wp2_with fail
      exact HQ.out u3
    | true =>
      have HG2 := Lib.hid (MayG.of hm2)
      clear hm2
      have HA := Lib.hid (HT1.out (HG1.out.tx HWG.out.1))
      have HB := Lib.hid (HT2.out (HG2.out.tx HWG.out.2))
      have hEQ : ((strOf (textG g)).toList == (strOf (textG h)).toList) = sameG g h := by
        obtain ⟨o1, o2⟩ := HOK.out HG1.out HG2.out
        cases hs : sameG g h with
        | true => rw [(sameG_iff g h).1 hs]; simp
        | false =>
          rw [ba_beq]
          refine decide_eq_false fun e => ?_
          have e2 : textG g = textG h := by have := congrArg (fun s : ByteArray => s.data.toList) e; simpa [strOf] using this
          rw [(sameG_iff g h).2 (textG_inj o1 o2 e2)] at hs
          cases hs
      generalize strOf (textG g) = T1 at *
      generalize strOf (textG h) = T2 at *
      generalize sameG g h = sm at *
      generalize g.nodes.length = n1 at *
      generalize g.edges.length = n2 at *
      generalize h.nodes.length = n3 at *
      generalize h.edges.length = n4 at *
      cases sm with
      | true =>
        have hE2 : T1.toList = T2.toList := by simpa using hEQ
        go_wp2_with fail
        refine wp_region_at u2 (by kernel_rfl) (by kernel_rfl) ?_
        repeat (go_big_quiet_step (first | (with_reducible exact HA.out _) | (with_reducible exact HB.out _) | (with_reducible exact HS.out _) | (with_reducible exact HWK.out _)))
        refine wpQuiet_nil ?_
        rintro w9 ⟨u9, rfl⟩
        go_wp2_with fail
        exact HQ.out u9
      | false =>
        have hE2 : ¬ T1.toList = T2.toList := by simpa using hEQ
        go_wp2_with fail
        refine wp_region_at u2 (by kernel_rfl) (by kernel_rfl) ?_
        repeat (go_big_quiet_step (first | (with_reducible exact HA.out _) | (with_reducible exact HB.out _) | (with_reducible exact HS.out _) | (with_reducible exact HWK.out _)))
        refine wpQuiet_nil ?_
        rintro w9 ⟨u9, rfl⟩
        go_wp2_with fail
        exact HQ.out u9
end Go.Proofs.Ytoakloicjlfaaaa
