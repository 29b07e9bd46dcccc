/- The contract of num.Text: the decimal digits. Conditions: the argument is a number of 64 bits. -/
import Derived.Test.YtkmjchpmbndpiaaP4
import Derived.Laws.BytesString
import Derived.Laws.IdiomStrings
namespace Go.Proofs.Ytkmjchpmbndpiaa
open Go.RowKit
set_option linter.unusedSimpArgs false
set_option linter.unusedVariables false

/-- A digit's byte. -/
def digB (d : Nat) : UInt8 := UInt8.ofNat (48 + d)
/-- The digits of m, with fuel, ahead of acc. -/
def decF : Nat → Nat → List UInt8 → List UInt8
  | 0, _, acc => acc
  | f + 1, m, acc => if m < 10 then digB m :: acc else decF f (m / 10) (digB (m % 10) :: acc)
/-- The decimal digits of m, below 10^19. -/
def decN (m : Nat) : List UInt8 := decF 19 m []
def textOf (n : Int) : List UInt8 := (if n < 0 then [45] else []) ++ decN n.natAbs

def bytesV (l : List UInt8) : List Value := l.map fun b => .int .u8 b.toNat

def digitsV : List Value := [.int .u8 48, .int .u8 49, .int .u8 50, .int .u8 51, .int .u8 52, .int .u8 53, .int .u8 54, .int .u8 55, .int .u8 56, .int .u8 57]
theorem digitsV_get {d : Nat} (h : d < 10) : digitsV[d]? = some (.int .u8 (digB d).toNat) := by
  have : d = 0 ∨ d = 1 ∨ d = 2 ∨ d = 3 ∨ d = 4 ∨ d = 5 ∨ d = 6 ∨ d = 7 ∨ d = 8 ∨ d = 9 := by omega
  rcases this with rfl | rfl | rfl | rfl | rfl | rfl | rfl | rfl | rfl | rfl <;> rfl
theorem digB_nat {d : Nat} (h : d < 10) : ((digB d).toNat : Int) = 48 + d := by
  unfold digB; simp; omega
def bufV (f : Nat) (L : List UInt8) : List Value := List.replicate f (.int .u8 0) ++ bytesV L
theorem bufV_get (f : Nat) (L : List UInt8) : (bufV (f + 1) L)[f]? = some (.int .u8 0) := by
  unfold bufV; rw [List.getElem?_append_left (by simp)]; simp
theorem bufV_set (f : Nat) (L : List UInt8) (b : UInt8) : (bufV (f + 1) L).set f (.int .u8 b.toNat) = bufV f (b :: L) := by
  unfold bufV
  rw [List.set_append_left _ _ (by simp), List.replicate_succ', List.set_append_right _ _ (by simp)]
  simp [bytesV]

theorem slice20 (b f : Nat) (hf : f ≤ 19) (w : World) : (Instr.sliceAt 38 (.pointer (some ⟨b, 0, none⟩)) (some (.int .i64 (f : Int))) none none).run Try.prog w = .ok (.slice (some ⟨b, f, none⟩) (20 - f) (20 - f)) w := by
  have hl : Try.prog.arrayLen 38 = 20 := by kernel_rfl
  have he : Try.prog.elem 38 = 5 := by kernel_rfl
  have hu : Try.prog.underlying 38 = some (.array (Try.prog.arrayLen 38) (Try.prog.elem 38)) := by rw [hl, he]; exact Try.underlying38
  have hz : ∀ w, (sizeOf 5).run Try.prog w = .ok 1 w := fun _ => by kernel_rfl
  rw [run_sliceAt_array_l w 38 ⟨b, 0, none⟩ hu .i64 f (by omega) (by rw [hl]; omega), he, hz, hl]
  simp only [Result.andThen, slicedAt, Int.toNat_natCast]
  rw [if_neg (by omega)]
  simp [addr_add]
theorem conv20 (b f : Nat) (L : List UInt8) (hL : L.length = 20 - f) (w : World) (h : Block w b (bufV f L) 38) : (convert 39 9 (.slice (some ⟨b, f, none⟩) (20 - f) (20 - f))).run Try.prog w = .ok (.string ⟨L.toArray⟩) w := by
  have hc := run_convert_bytes_back w 39 9 5 ⟨b, f, none⟩ (20 - f) L Try.underlying39 Try.underlying5 Try.underlying9 (fun j hj => by
    rw [addr_add]
    refine h.cell ?_
    unfold bufV bytesV
    rw [List.getElem?_append_right (by simp)]
    simp [List.getElem?_eq_getElem hj])
  rw [hL] at hc
  exact hc

set_option maxHeartbeats 400000 in
theorem text_any (n : Int) (w : World) (hn : In64 n) : Calls Try.prog 24 #[.int .i64 n] w fun e w' => e = .returned (.string ⟨(textOf n).toArray⟩) ∧ Below w.heap.size w w' := by
  have HN : Hid (n.natAbs < 10 ^ 19) := Lib.hid (by have := natAbs_le hn; omega)
  have HS := Lib.hid (fun w => size_any n w hn)
  clear hn
  go_enter Try.func24, Try.ntmps24
  go_wp2_with fail
  refine (HS.out _).mono ?_; rintro e w' ⟨rfl, rfl⟩
  go_wp2_with fail
  go_loopw [5, 6] (fun i m wr => ∃ (f mm : Nat) (L : List UInt8), i = .int .i64 ((f : Int) + 1) ∧ m = .int .u64 mm ∧ 1 ≤ f ∧ f ≤ 19 ∧ Hid (mm < 10 ^ f ∧ decF f mm L = decN n.natAbs ∧ L.length = 19 - f) ∧
      Block wr w.heap.size digitsV 37 ∧ Block wr (w.heap.size + 1) (bufV (f + 1) L) 38 ∧ Below w.heap.size w wr) (fun i _ _ => (intOf i).toNat)
  case atStart =>
    refine ⟨19, _, [], rfl, rfl, by omega, by omega, Lib.hid ⟨HN.out, rfl, rfl⟩, ?_, ?_, ((Below.refl _ _).alloc (Nat.le_refl _) _).alloc (by simp) _⟩
    · exact (Block.new w digitsV 37).alloc _
    · have h := Block.new (w.alloc (.cells digitsV.toArray 37)) (bufV 20 []) 38
      simp only [World.size_alloc] at h
      exact h
  case round =>
    obtain ⟨f, mm, L, rfl, rfl, hf1, hf2, hh, hb0, hb1, hbel⟩ := hrel
    have c0 := hb0.cell (digitsV_get (d := mm % 10) (by omega))
    have c1 := hb1.cell (bufV_get f L)
    have f1 := hb1.free f
    have hsz := hb1.lt
    have hb2 := hb1.set f (.int .u8 (digB (mm % 10)).toNat)
    rw [bufV_set] at hb2
    have hbel2 : Below w.heap.size w (wr.setCell ⟨w.heap.size + 1, f, none⟩ (.int .u8 (digB (mm % 10)).toNat)) := hbel.setCell (by simp) _
    by_cases hlt : mm < 10
    · have hdl : decN n.natAbs = digB (mm % 10) :: L := by
        rw [← hh.out.2.1, show f = (f - 1) + 1 from by omega, decF, if_pos hlt, Nat.mod_eq_of_lt hlt]
      have hll : (digB (mm % 10) :: L).length = 20 - f := by simp only [List.length_cons]; have := hh.out.2.2; omega
      by_cases hneg : n < 0
      · obtain ⟨g, rfl⟩ : ∃ g, f = g + 1 := ⟨f - 1, by omega⟩
        have hb3 := hb2.set g (.int .u8 45)
        have c3 := hb2.cell (bufV_get g (digB (mm % 10) :: L))
        have f3 := hb2.free g
        rw [show (bufV (g + 1) (digB (mm % 10) :: L)).set g (.int .u8 45) = bufV g (45 :: digB (mm % 10) :: L) from bufV_set g _ 45] at hb3
        have hs := slice20 (w.heap.size + 1) g (by omega)
        have hcv := conv20 (w.heap.size + 1) g _ (by simp only [List.length_cons] at hll ⊢; omega) _ hb3
        have hbel3 := Lib.hid (Below.setCell hbel2 (p := ⟨w.heap.size + 1, g, none⟩) (by simp) (.int .u8 45))
        have HD := Lib.hid hdl
        clear hb0 hb1 hb2 hb3 hdl hll hbel2
        go_wp2_with fail
        go_ret
        refine ⟨?_, hbel3.out⟩
        unfold textOf
        rw [if_pos hneg, HD.out]; rfl
      · have hs := slice20 (w.heap.size + 1) f hf2
        have hcv := conv20 (w.heap.size + 1) f _ hll _ hb2
        have HBel := Lib.hid hbel2
        have HD := Lib.hid hdl
        clear hb0 hb1 hb2 hdl hll hbel2
        go_wp2_with fail
        go_ret
        refine ⟨?_, HBel.out⟩
        unfold textOf
        rw [if_neg (by omega), HD.out]; rfl
    · have hw : IntKind.u64.wrap ((mm : Int) / 10) = ((mm / 10 : Nat) : Int) := by
        have h1 := hh.out.1
        have h2 : 10 ^ f ≤ 10 ^ 19 := Nat.pow_le_pow_right (by omega) hf2
        rw [IntKind.wrap_u64]; omega
      have HB0 := Lib.hid hb0
      have HB2 := Lib.hid hb2
      have HBel := Lib.hid hbel2
      clear hb0 hb1 hb2 hbel2
      go_wp2_with fail
      go_roundw
      case rel =>
        have hh := hh.out
        have hf3 : 2 ≤ f := by
          rcases Nat.lt_or_ge 1 f with h | h
          · exact h
          · have : f = 1 := by omega
            rw [this] at hh; omega
        refine ⟨f - 1, mm / 10, digB (mm % 10) :: L, ?_, rfl, by omega, by omega, Lib.hid ⟨?_, ?_, ?_⟩, ?_, ?_, HBel.out⟩
        · simp; omega
        · have h1 : 10 ^ f = 10 ^ (f - 1) * 10 := by rw [← Nat.pow_succ]; congr 1; omega
          omega
        · rw [← hh.2.1]
          conv => rhs; rw [show f = (f - 1) + 1 from by omega, decF, if_neg hlt]
        · simp only [List.length_cons]; omega
        · exact HB0.out.set_other (by simp) _
        · rw [show f - 1 + 1 = f from by omega]; exact HB2.out
      case measure => first | (simp [intOf]; done) | (simp [intOf]; omega)
end Go.Proofs.Ytkmjchpmbndpiaa
