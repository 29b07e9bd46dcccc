/- The reference's book in memory. Conditions: none. -/
import Derived.Test.YtaonfacbmolklaaWith
namespace Go.Proofs.Ytaonfacbmolklaa
open Go.RowKit
set_option linter.unusedSimpArgs false
set_option linter.unusedVariables false

/-- A transaction with its two rows' values. -/
abbrev Z := E × Value × Value
def cellsZ (z : Z) : List Value := cellsE z.1 z.2.1 z.2.2
/-- A row of texts that lies in a block of S that is none of N's. -/
def RowIn (u : World) (N S : Nat → Prop) (v : Value) (ks : List ByteArray) : Prop :=
  ∃ a c, v = .slice a ks.length c ∧ (ks = [] ∨ ∃ b off, a = some ⟨b, off, none⟩ ∧ S b ∧ ¬ N b ∧ b < u.heap.size ∧ ∀ (i : Nat) x, ks[i]? = some x → u.cell? ⟨b, off + i, none⟩ = some (.string x))
theorem RowIn.row {u : World} {N S : Nat → Prop} {v : Value} {ks : List ByteArray} (h : RowIn u N S v ks) : ∃ a c, v = .slice a ks.length c ∧ StrRow u.heap.size u a ks := by
  obtain ⟨a, c, rfl, h⟩ := h
  refine ⟨a, c, rfl, ?_⟩
  rcases h with rfl | ⟨b, off, h1, _, _, h2, h3⟩
  · exact .inl rfl
  · refine .inr ⟨b, off, h1, h2, fun i v hv => ?_⟩
    rw [List.getElem?_map] at hv
    cases hk : ks[i]? with
    | none => rw [hk] at hv; cases hv
    | some x => rw [hk] at hv; cases hv; exact h3 i x hk
theorem RowIn.same {u u' : World} {N N' S S' : Nat → Prop} {v : Value} {ks : List ByteArray} (h : RowIn u N S v ks) (hs : ∀ k, S k → ¬ N k → k < u.heap.size → u'.heap[k]? = u.heap[k]? ∧ S' k ∧ ¬ N' k) : RowIn u' N' S' v ks := by
  obtain ⟨a, c, rfl, h⟩ := h
  refine ⟨a, c, rfl, ?_⟩
  rcases h with rfl | ⟨b, off, h1, h4, h5, h2, h3⟩
  · exact .inl rfl
  · obtain ⟨h6, h7, h8⟩ := hs b h4 h5 h2
    refine .inr ⟨b, off, h1, h7, h8, ?_, fun i x hx => ?_⟩
    · exact (Array.getElem?_eq_some_iff.1 (h6.trans (Array.getElem?_eq_getElem h2))).1
    · have h9 := h3 i x hx
      unfold World.cell? at h9 ⊢
      rw [h6]; exact h9
def NotRow (P : Nat) (lv : Value) (k : Nat) : Prop := k = P ∨ lv.ownBlock = some k
structure IsRef (u : World) (B P : Nat) (last : Int) (S : Nat → Prop) (lv : Value) (zs : List Z) : Prop where
  blk : Block u P [lv, .int .i64 last] 28
  base : ∀ k, S k → B ≤ k
  sP : S P
  row : u.ownsRow B 58 6 lv zs.length (zs.flatMap cellsZ)
  sl : ∀ g, lv.ownBlock = some g → S g ∧ g ≠ P
  rows : ∀ z ∈ zs, RowIn u (NotRow P lv) S z.2.1 z.1.reads ∧ RowIn u (NotRow P lv) S z.2.2 z.1.touches
/-- The reference's book lies at P, with its memory within S. -/
def RefAt (u : World) (B P : Nat) (bk : Bk) (S : Nat → Prop) : Prop := ∃ lv zs, IsRef u B P bk.last S lv zs ∧ zs.map (fun z => z.1) = bk.es
theorem cellsZ_len (z : Z) : (cellsZ z).length = 6 := rfl
theorem IsRef.cell {u : World} {B P : Nat} {last : Int} {S : Nat → Prop} {lv : Value} {zs : List Z} (h : IsRef u B P last S lv zs) {i : Nat} {z : Z} (hz : zs[i]? = some z) :
    ∃ g c, lv = .slice (some ⟨g, 0, none⟩) zs.length c ∧ g < u.heap.size ∧ ∀ (q : Nat) v, (cellsZ z)[q]? = some v → u.cell? ⟨g, i * 6 + q, none⟩ = some v := by
  have hh := h.row
  obtain ⟨a, c, hv⟩ := own_form h.row
  have hc : Cells u.heap.size u a (zs.flatMap cellsZ) := own_cells_of (by rw [hv] at hh; exact hh)
  rcases hh.2 with ⟨h1, h2⟩ | ⟨g, cap, cur, h1, h2⟩
  · have := (List.getElem?_eq_some_iff.1 hz).1; omega
  · refine ⟨g, cap, h1, (h.row.lt g (by rw [h1]; rfl)).2, fun q v hq => ?_⟩
    rw [h1] at hv
    injection hv with e1 _ _
    obtain ⟨b, off, e2, _, h3⟩ := Cells.elem (size := 6) hc (fun z _ => cellsZ_len z) (by omega) hz
    rw [← e1] at e2
    injection e2 with e2
    injection e2 with e3 e4
    subst e3 e4
    have := h3 q v hq
    rwa [Nat.zero_add] at this
theorem IsRef.same {u u' : World} {B P : Nat} {last : Int} {S S' : Nat → Prop} {lv : Value} {zs : List Z} (h : IsRef u B P last S lv zs) (hs : ∀ k, S k → k < u.heap.size → u'.heap[k]? = u.heap[k]?) (hS : ∀ k, S k → S' k) (hB : ∀ k, S' k → B ≤ k) : IsRef u' B P last S' lv zs :=
  ⟨h.blk.of_heap (hs P h.sP h.blk.lt), hB, hS P h.sP, own_of_heap h.row (fun k e => hs k (h.sl k e).1 (h.row.lt k e).2), fun g e => ⟨hS g (h.sl g e).1, (h.sl g e).2⟩,
    fun z hz => ⟨(h.rows z hz).1.same fun k h1 h2 h3 => ⟨hs k h1 h3, hS k h1, h2⟩, (h.rows z hz).2.same fun k h1 h2 h3 => ⟨hs k h1 h3, hS k h1, h2⟩⟩⟩
end Go.Proofs.Ytaonfacbmolklaa
