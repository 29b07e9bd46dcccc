/- Parts X1, S6, S7, S24 of this seat (pruned, scripts that are alike kept once as default arguments: q1, q2, ..). Conditions: each says its own. -/
import Derived.Lib.IndexBytes
import Derived.Test.YtndhpdclpgemfaaGreatZ6
namespace Go.Proofs.YtndhpdclpgemfaaGreat
open Go.RowKit Go.Deep Go.ChangeShapes Go.WideShapes
set_option linter.unusedVariables false
set_option linter.unusedSimpArgs false
set_option maxRecDepth 100000
def SlOk (a : Option Addr) (n c : Nat) : Prop := (n ≤ c ∧ c ≤ 9223372036854775807) ∧ (a = none → c = 0)
def RowR {α : Type} (R : List Value → α → Prop) (size B : Nat) (w : World) (a : Option Addr) (l : List α) : Prop :=
  ∀ (i : Nat) (o : α), l[i]? = some o → ∃ b off cs, a = some ⟨b, off, none⟩ ∧ b < B ∧ cs.length = size ∧ (∀ j v, cs[j]? = some v → w.cell? ⟨b, off + (i * size + j), none⟩ = some v) ∧ R cs o
theorem RowR.below {α : Type} {R R' : List Value → α → Prop} {size B B' : Nat} {w w' : World} {a : Option Addr} {l : List α} (h : RowR R size B w a l) (hb : Below B' w w') (hB : B ≤ B') (hR : ∀ cs x, R cs x → R' cs x) : RowR R' size B w' a l := by
 intro i o ho
 obtain ⟨b, off, cs, h1, h2, h3, h4, h5⟩ := h i o ho
 exact ⟨b, off, cs, h1, h2, h3, fun j v hv => by rw [hb.cell (by show b < B'; omega)]; exact h4 j v hv, hR _ _ h5⟩
theorem RowR.mono {α : Type} {R R' : List Value → α → Prop} {size B B' : Nat} {w : World} {a : Option Addr} {l : List α} (h : RowR R size B w a l) (hB : B ≤ B') (hR : ∀ cs x, R cs x → R' cs x) : RowR R' size B' w a l := by
 intro i o ho
 obtain ⟨b, off, cs, h1, h2, h3, h4, h5⟩ := h i o ho
 exact ⟨b, off, cs, h1, by omega, h3, h4, hR _ _ h5⟩
def wtS (ks : List ByteArray) : Nat := (ks.map fun k => k.size + 1).sum
inductive Ex where
  | mk (op : Int) (nm : ByteArray) (val : Vt) (ns : List ByteArray) (args : List Ex)
mutual
def IsX (B : Nat) (w : World) : List Value → Ex → Prop
  | cs, .mk op nm v ns az => ∃ vc na nc xa xc, cs = .int .i64 op :: .string nm :: (vc ++ [.slice na ns.length nc, .slice xa az.length xc]) ∧ in64 op ∧ IsV B w vc v ∧ SlOk na ns.length nc ∧ SlOk xa az.length xc ∧ StrRow B w na ns ∧ IsXs B w xa 0 az
def IsXs (B : Nat) (w : World) : Option Addr → Nat → List Ex → Prop
  | _, _, [] => True
  | a, n, t :: ts => (∃ b off cs, a = some ⟨b, off, none⟩ ∧ b < B ∧ cs.length = 10 ∧ (∀ j v, cs[j]? = some v → w.cell? ⟨b, off + (n * 10 + j), none⟩ = some v) ∧ IsX B w cs t) ∧ IsXs B w a (n + 1) ts
end
mutual
def wtX : Ex → Nat
  | .mk _ nm v ns az => 1 + nm.size + wtV v + wtS ns + wtXs az
def wtXs : List Ex → Nat
  | [] => 0
  | t :: ts => wtX t + wtXs ts
end
theorem wtX_pos (t : Ex) : 1 ≤ wtX t := by cases t; unfold wtX; omega
theorem wtXs_sum (l : List Ex) : wtXs l = (l.map wtX).sum := by
 induction l with
 | nil => simp [wtXs]
 | cons t ts ih => simp [wtXs, ih]
theorem wtXs_len (l : List Ex) : l.length ≤ wtXs l := by
 induction l with
 | nil => simp
 | cons t ts ih => have := wtX_pos t; simp only [wtXs, List.length_cons]; omega
theorem wtXs_get {l : List Ex} {i : Nat} {t : Ex} (h : l[i]? = some t) : wtX t ≤ wtXs l := by rw [wtXs_sum]; exact sum_get wtX h
theorem Ex.down {p : Ex → Prop} (h : ∀ op nm v ns az, (∀ (j : Nat) t, az[j]? = some t → p t) → p (.mk op nm v ns az)) (t : Ex) : p t := by
 induction hn : wtX t using Nat.strongRecOn generalizing t with
 | _ n ih =>
  obtain ⟨op, nm, v, ns, az⟩ := t
  refine h op nm v ns az fun j t ht => ih (wtX t) ?_ t rfl
  have := wtXs_get ht
  rw [← hn]
  simp only [wtX]
  omega
theorem IsXs.row {B : Nat} {w : World} {a : Option Addr} {l : List Ex} : ∀ {n : Nat}, IsXs B w a n l → ∀ (i : Nat) (t : Ex), l[i]? = some t →
    ∃ b off cs, a = some ⟨b, off, none⟩ ∧ b < B ∧ cs.length = 10 ∧ (∀ j v, cs[j]? = some v → w.cell? ⟨b, off + ((n + i) * 10 + j), none⟩ = some v) ∧ IsX B w cs t := by
 induction l with
 | nil => intro n _ i t h; simp at h
 | cons u us ih =>
  intro n h i t ht
  unfold IsXs at h
  cases i with
  | zero => simp at ht; subst ht; exact h.1
  | succ i =>
   have := ih h.2 i t (by simpa using ht)
   rwa [show n + 1 + i = n + (i + 1) from by omega] at this
theorem IsXs.mk {B : Nat} {w : World} {a : Option Addr} {l : List Ex} : ∀ {n : Nat}, (∀ (i : Nat) (t : Ex), l[i]? = some t →
    ∃ b off cs, a = some ⟨b, off, none⟩ ∧ b < B ∧ cs.length = 10 ∧ (∀ j v, cs[j]? = some v → w.cell? ⟨b, off + ((n + i) * 10 + j), none⟩ = some v) ∧ IsX B w cs t) → IsXs B w a n l := by
 induction l with
 | nil => intro n _; simp [IsXs]
 | cons u us ih =>
  intro n h
  unfold IsXs
  exact ⟨h 0 u rfl, ih fun i t ht => by
   have := h (i + 1) t (by simpa using ht)
   rwa [show n + (i + 1) = n + 1 + i from by omega] at this⟩
theorem isXs_iff {B : Nat} {w : World} {a : Option Addr} {l : List Ex} : IsXs B w a 0 l ↔ RowR (IsX B w) 10 B w a l :=
  ⟨fun h i t ht => by have := h.row i t ht; rwa [Nat.zero_add] at this, fun h => IsXs.mk fun i t ht => by rw [Nat.zero_add]; exact h i t ht⟩
theorem IsX.below {B B' : Nat} {w w' : World} (hb : Below B' w w') (hB : B ≤ B') (t : Ex) : ∀ cs, IsX B w cs t → IsX B w' cs t := by
 refine t.down (p := fun t => ∀ cs, IsX B w cs t → IsX B w' cs t) fun op nm v ns az ih cs h => ?_
 unfold IsX at h ⊢
 obtain ⟨vc, na, nc, xa, xc, h1, h2, h3, h4, h5, h6, h7⟩ := h
 refine ⟨vc, na, nc, xa, xc, h1, h2, IsV.below hb hB v _ h3, h4, h5, h6.below hb hB, IsXs.mk fun j t ht => ?_⟩
 obtain ⟨b, off, cs', g1, g2, g3, g4, g5⟩ := h7.row j t ht
 exact ⟨b, off, cs', g1, g2, g3, fun q v hv => by rw [hb.cell (by show b < B'; omega)]; exact g4 q v hv, ih j t ht cs' g5⟩
theorem IsX.mono {B B' : Nat} {w : World} (hB : B ≤ B') (t : Ex) : ∀ cs, IsX B w cs t → IsX B' w cs t := by
 refine t.down (p := fun t => ∀ cs, IsX B w cs t → IsX B' w cs t) fun op nm v ns az ih cs h => ?_
 unfold IsX at h ⊢
 obtain ⟨vc, na, nc, xa, xc, h1, h2, h3, h4, h5, h6, h7⟩ := h
 refine ⟨vc, na, nc, xa, xc, h1, h2, IsV.mono hB v _ h3, h4, h5, h6.mono hB, IsXs.mk fun j t ht => ?_⟩
 obtain ⟨b, off, cs', g1, g2, g3, g4, g5⟩ := h7.row j t ht
 exact ⟨b, off, cs', g1, by omega, g3, g4, ih j t ht cs' g5⟩
theorem IsX.cells {B : Nat} {w : World} {cs : List Value} {op : Int} {nm : ByteArray} {v : Vt} {ns : List ByteArray} {az : List Ex} (h : IsX B w cs (.mk op nm v ns az)) :
    ∃ k b i s l ks la lc ka kc na nc xa xc, v = .mk k b i s l ks ∧ cs = [.int .i64 op, .string nm, .int .i64 k, .bool b, .int .i64 i, .string s, .slice la l.length lc, .slice ka ks.length kc, .slice na ns.length nc, .slice xa az.length xc] ∧ in64 op ∧
      IsV B w [.int .i64 k, .bool b, .int .i64 i, .string s, .slice la l.length lc, .slice ka ks.length kc] v ∧ SlOk na ns.length nc ∧ SlOk xa az.length xc ∧ StrRow B w na ns ∧ RowR (IsX B w) 10 B w xa az := by
 obtain ⟨k, b, i, s, l, ks⟩ := v
 unfold IsX at h
 obtain ⟨vc, na, nc, xa, xc, h1, h2, h3, h4, h5, h6, h7⟩ := h
 have h9 := h3
 unfold IsV at h9
 obtain ⟨la, lc, ka, kc, rfl, -⟩ := h9
 exact ⟨k, b, i, s, l, ks, la, lc, ka, kc, na, nc, xa, xc, rfl, h1, h2, h3, h4, h5, h6, isXs_iff.1 h7⟩
theorem field_trodN {H : Type} {enc : TypeId × Value → H} {P : Program} {w : World} {base : Nat} {spare : Nat → Bool} {held : Bool} {fs : Array Field} {m : Nat} {cs : List Value} {xs : List (DataW H × List MemPlace)}
    (hl : xs.length = fs.size) (hf : ∀ (i : Nat) (f : Field), fs[i]? = some f → DataW.trod enc P w base spare held m f.type ((cs.drop f.offset).take (P.cellsOf f.type)) = xs[i]?)
    (i : Nat) (f : Field) (hi : fs[i]? = some f) {k : Nat} (hc : P.cellsOf f.type = k) : ∃ y, xs[i]? = some y ∧ DataW.trod enc P w base spare held m f.type ((cs.drop f.offset).take k) = some y := by
 have h1 := hf i f hi
 have h2 := (Array.getElem?_eq_some_iff.1 hi).1
 rw [hc] at h1
 exact ⟨_, List.getElem?_eq_getElem (by omega), h1.trans (List.getElem?_eq_getElem (by omega))⟩
theorem list10 {α : Type} {cs : List α} (h : cs.length = 10) : ∃ c0 c1 c2 c3 c4 c5 c6 c7 c8 c9, cs = [c0, c1, c2, c3, c4, c5, c6, c7, c8, c9] := by
 match cs, h with
 | [c0, c1, c2, c3, c4, c5, c6, c7, c8, c9], _ => exact ⟨c0, c1, c2, c3, c4, c5, c6, c7, c8, c9, rfl⟩
theorem list5 {α : Type} {cs : List α} (h : cs.length = 5) : ∃ c0 c1 c2 c3 c4, cs = [c0, c1, c2, c3, c4] := by
 match cs, h with
 | [c0, c1, c2, c3, c4], _ => exact ⟨c0, c1, c2, c3, c4, rfl⟩
set_option maxRecDepth 100000 in
theorem open_expr {H : Type} {enc : TypeId × Value → H} {w : World} {base : Nat} {spare : Nat → Bool} {held : Bool} : ∀ (k : Nat) (fuel : Nat) (cs : List Value) (x : DataW H × List MemPlace), Rows.uptoBulk x.1 ≤ k →
    DataW.trod enc Tryz.prog w base spare held fuel 36 cs = some x → ∃ t : Ex, IsX w.heap.size w cs t ∧ wtX t ≤ Rows.uptoBulk x.1 ∧ cs.length = 10 := by
 intro k
 induction k with
 | zero =>
  intro fuel cs x hk h
  obtain ⟨xs, n, _, hx, _⟩ := DataW.trod_struct Tryz.underlying36 h
  rw [hx] at hk
  simp [Rows.uptoBulk] at hk
 | succ k ih =>
  intro fuel cs x hk h
  obtain ⟨xs, n, _, hx, hcl, hxl, hf⟩ := DataW.trod_struct Tryz.underlying36 h
  have hcl10 : cs.length = 10 := hcl.trans (by kernel_rfl)
  obtain ⟨c0, c1, c2, c3, c4, c5, c6, c7, c8, c9, rfl⟩ := list10 hcl10
  obtain ⟨y0, e0, t0⟩ := field_trod hxl hf 0 _ rfl (by kernel_rfl) c0 rfl
  obtain ⟨y1, e1, t1⟩ := field_trod hxl hf 1 _ rfl (by kernel_rfl) c1 rfl
  obtain ⟨y2, e2, t2⟩ := field_trodN hxl hf 2 _ rfl (k := 6) (by kernel_rfl)
  obtain ⟨y3, e3, t3⟩ := field_trod hxl hf 3 _ rfl (by kernel_rfl) c8 rfl
  obtain ⟨y4, e4, t4⟩ := field_trod hxl hf 4 _ rfl (by kernel_rfl) c9 rfl
  obtain ⟨z0, z1, z2, z3, z4, rfl⟩ := list5 (show xs.length = 5 from hxl)
  simp at e0 e1 e2 e3 e4
  subst e0 e1 e2 e3 e4
  obtain ⟨n0, g0, -, w0⟩ := DataW.trod_int Tryz.underlying3 t0
  obtain ⟨s1, g1, p1, -⟩ := DataW.trod_string Tryz.underlying9 t1
  obtain ⟨tv, hv, hwv⟩ := open_value _ _ _ _ (Nat.le_refl _) t2
  obtain ⟨na, nc, ns, g3, l3, q3, s3, r3⟩ := open_strs t3
  have hbx : Rows.uptoBulk x.1 = Rows.uptoBulk z0.1 + (Rows.uptoBulk z1.1 + (Rows.uptoBulk z2.1 + (Rows.uptoBulk z3.1 + Rows.uptoBulk z4.1))) + 1 := by
   rw [hx]; simp [Rows.uptoBulk, Rows.uptoBulkAll]
  obtain ⟨xa, xc, os, g4, l4, q4, s4, r4⟩ := open_rowsP (IsX w.heap.size w) wtX 10 Tryz.underlying34 (by kernel_rfl) (by omega) (fun n cs y hy _ hh => by
   obtain ⟨t, h1, h2, _⟩ := ih n cs y (by omega) hh
   exact ⟨t, h1, h2⟩) t4
  injection g0 with g0
  injection g1 with g1
  subst g0 g1 g3 g4
  refine ⟨.mk n0 s1 tv ns os, ?_, ?_, rfl⟩
  ·unfold IsX
   exact ⟨_, na, nc, xa, xc, rfl, in64_of_wf w0, hv, ⟨l3, q3⟩, ⟨l4, q4⟩, r3, isXs_iff.2 r4⟩
  ·have h1 : Rows.uptoBulk z1.1 = s1.size + 1 := by rw [p1]; simp [Rows.uptoBulk]
   simp only [wtX, wtS]
   rw [wtXs_sum]
   omega
end Go.Proofs.YtndhpdclpgemfaaGreat
namespace Go.Proofs.YtndhpdclpgemfaaGreat
open Go.RowKit
set_option linter.unusedSimpArgs false
set_option linter.unusedVariables false
def strOf (l : List UInt8) : ByteArray := ⟨l.toArray⟩
theorem strOf_list (l : List UInt8) : (strOf l).toList = l := by simp [strOf]
theorem strOf_size (l : List UInt8) : (strOf l).size = l.length := by simp [strOf, ByteArray.size]
theorem nums_of_bytes (l : List UInt8) : strOfNums (l.map fun c => (c.toNat : Int)) = strOf l := by
 unfold strOfNums strOf
 rw [List.map_map]
 congr 2
 refine (List.map_congr_left fun c _ => ?_).trans (List.map_id l)
 simp
theorem lit_at (k : Nat) (h : k < 16) : ∀ h' : k < (ByteArray.mk #[48, 49, 50, 51, 52, 53, 54, 55, 56, 57, 97, 98, 99, 100, 101, 102]).size, (ByteArray.mk #[48, 49, 50, 51, 52, 53, 54, 55, 56, 57, 97, 98, 99, 100, 101, 102])[k].toNat = (hxd k).toNat := by
 have : k = 0 ∨ k = 1 ∨ k = 2 ∨ k = 3 ∨ k = 4 ∨ k = 5 ∨ k = 6 ∨ k = 7 ∨ k = 8 ∨ k = 9 ∨ k = 10 ∨ k = 11 ∨ k = 12 ∨ k = 13 ∨ k = 14 ∨ k = 15 := by omega
 rcases this with h | h | h | h | h | h | h | h | h | h | h | h | h | h | h | h <;> subst h <;> intro _ <;> rfl
theorem strOf_append (p q : List UInt8) : strOf p ++ strOf q = strOf (p ++ q) := by
 apply ByteArray.ext; simp [strOf]
theorem extract_strOf (s : ByteArray) (k n : Nat) (h : k + n ≤ s.size) : s.extract k (k + n) = strOf ((s.data.toList.drop k).take n) := by
 apply ByteArray.ext
 apply Array.ext'
 simp [strOf]
theorem add_of (p q : List UInt8) (B : ByteArray) (hB : strOf q = B) (u : World) (h : p.length + q.length ≤ 9223372036854775807) {r : List UInt8} (hr : p ++ q = r) : (Op.stringOp .add (strOf p) B).run Tryz.prog u = .ok (.string (strOf r)) u := by
 subst hr
 subst hB
 rw [← strOf_append]
 exact run_string_add_sum (P := Tryz.prog) (w := u) (strOf p) (strOf q) (by rw [strOf_size, strOf_size]; exact h)
end Go.Proofs.YtndhpdclpgemfaaGreat
namespace Go.Proofs.YtndhpdclpgemfaaGreat
open Go.RowKit Go.Shelf
set_option linter.unusedSimpArgs false
set_option linter.unusedVariables false
inductive MayE : Vt → Prop
  | mk (k : Int) (b : Bool) (i : Int) (s : ByteArray) (l : List Vt) (ks : List ByteArray) (h1 : 0 ≤ k) (h2 : k ≤ 7) (h3 : k = 5 → ks.length = l.length) (h4 : unusedV k b i s l.length ks.length = true) (h5 : ∀ (j : Nat) u, l[j]? = some u → MayE u) : MayE (.mk k b i s l ks)
theorem MayE.head {k : Int} {b : Bool} {i : Int} {s : ByteArray} {l : List Vt} {ks : List ByteArray} (h : MayE (.mk k b i s l ks)) : 0 ≤ k ∧ k ≤ 7 ∧ (k = 5 → ks.length = l.length) ∧ ∀ (j : Nat) u, l[j]? = some u → MayE u := by
 cases h with
 | mk _ _ _ _ _ _ h1 h2 h3 h4 h5 => exact ⟨h1, h2, h3, h5⟩
theorem MayE.of_may (t : Vt) : ∀ d p, (mayV t d p).2 = true → MayE t := by
 refine t.down (p := fun t => ∀ d p, (mayV t d p).2 = true → MayE t) fun k b i s l ks ih d p h => ?_
 obtain ⟨k', b', i', s', l', ks', he, hh, hp⟩ := mayV_parts h
 injection he with e1 e2 e3 e4 e5 e6
 subst e1 e2 e3 e4 e5 e6
 have h9 := of_decide_eq_true hh
 exact .mk _ _ _ _ _ _ h9.2.2.1 h9.2.2.2.1 (fun h5 => (h9.2.2.2.2.2.2 h5).1) h9.2.2.2.2.1 (fun j u hu => by obtain ⟨q, hq⟩ := hp j u hu; exact ih j u hu _ _ hq)
end Go.Proofs.YtndhpdclpgemfaaGreat
