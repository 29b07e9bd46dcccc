/- Layer 5: the builder's writers over lists of bytes; the contract of coded. Conditions: none. -/
import Derived.Test.YtangldmjgidgcaaS6
import Derived.Test.YtangldmjgidgcaaS7
import Derived.Test.YtangldmjgidgcaaShelf
import Derived.WalkKit
import Derived.BigCall
namespace Go.Proofs.Ytangldmjgidgcaa
open Go.RowKit Go.Shelf
set_option linter.unusedSimpArgs false
set_option linter.unusedVariables false

/-- The call's own builder, in block b, holds these bytes. -/
def Bld (B b : Nat) (l : List UInt8) (w : World) : Prop := Lib.IsBuilderF 44 5 B b (Lib.byteCells l) w
/-- What a writer leaves: the builder with more bytes, all else as it was. -/
def Wrote (B b : Nat) (l : List UInt8) (w w' : World) : Prop := Bld B b l w' ∧ Below B w w' ∧ Lib.OthersKept 5 (some b) w w'

theorem bld_byte (B b : Nat) (l : List UInt8) (c : Nat) (w : World) (h : Bld B b l w) (hl : l.length + 1 ≤ 140737488355328) (hB : B ≤ w.heap.size) (hc : c < 256) :
    Calls Try.prog 25 #[.pointer (some ⟨b, 0, none⟩), .int .u8 c] w fun e w' => e = .returned .nilIface ∧ Wrote B b (l ++ [UInt8.ofNat c]) w w' := by
  refine (Any.Builder_WriteByte_k { shLays167 with } shExtra B b (Lib.byteCells l) c w h (by rw [Lib.byteCells_length]; exact hl) hB).mono ?_
  rintro e w' ⟨rfl, h1, b1, k1⟩
  refine ⟨rfl, Or.inr ?_, b1, k1⟩
  rw [Lib.byteCells_append, show Lib.byteCells [UInt8.ofNat c] = [.int .u8 c] from by simp [Lib.byteCells]; omega]
  exact h1
theorem bld_string (B b : Nat) (l : List UInt8) (s : ByteArray) (w : World) (h : Bld B b l w) (hl : l.length + s.size ≤ 140737488355328) (hB : B ≤ w.heap.size) :
    Calls Try.prog 27 #[.pointer (some ⟨b, 0, none⟩), .string s] w fun e w' => e = .returned (.tuple #[.int .i64 s.size, .nilIface]) ∧ Wrote B b (l ++ s.data.toList) w w' := by
  refine (Any.Builder_WriteString_k { shLays166 with } shExtra B b (Lib.byteCells l) s w h (by rw [Lib.byteCells_length]; exact hl) hB).mono ?_
  rintro e w' ⟨rfl, h1, b1, k1⟩
  refine ⟨rfl, Or.inr ?_, b1, k1⟩
  rw [Lib.byteCells_append]
  exact h1
theorem bld_rune (B b : Nat) (l : List UInt8) (r : Nat) (w : World) (h : Bld B b l w) (hl : l.length + 4 ≤ 140737488355328) (hB : B ≤ w.heap.size) (hr : r ≤ 2147483647) :
    Calls Try.prog 26 #[.pointer (some ⟨b, 0, none⟩), .int .i32 r] w fun e w' => e = .returned (.tuple #[.int .i64 (Lib.runeCells r).length, .nilIface]) ∧ Wrote B b (l ++ Lib.encodeRune r) w w' := by
  refine (Any.Builder_WriteRune_k { shLays168 with } shExtra B b (Lib.byteCells l) r (by omega) (by omega) w h (by rw [Lib.byteCells_length]; exact hl) hB).mono ?_
  rintro e w' ⟨rfl, h1, b1, k1⟩
  refine ⟨rfl, Or.inr ?_, b1, k1⟩
  rw [Lib.byteCells_append, Lib.byteCells_encodeRune]
  exact h1
theorem bld_str (B b : Nat) (l : List UInt8) (w : World) (h : Bld B b l w) (hB : B ≤ w.heap.size) :
    Calls Try.prog 29 #[.pointer (some ⟨b, 0, none⟩)] w fun e w' => e = .returned (.string (strOf l)) ∧ Wrote B b l w w' := by
  refine (Any.Builder_String_any_k { shLays169 with } shExtra B b l w h hB).mono ?_
  rintro e w' ⟨rfl, h1, b1, k1⟩
  exact ⟨rfl, h1, b1, k1⟩
theorem Wrote.trans {B b : Nat} {l l' : List UInt8} {w w' w'' : World} (h : Wrote B b l w w') (k : Wrote B b l' w' w'') : Wrote B b l' w w'' := ⟨k.1, h.2.1.trans k.2.1, h.2.2.trans k.2.2⟩
theorem Wrote.size {B b : Nat} {l : List UInt8} {w w' : World} (h : Wrote B b l w w') : B ≤ w.heap.size → B ≤ w'.heap.size := fun k => Nat.le_trans k h.2.1.size

set_option maxRecDepth 20000 in
theorem coded_any (B b : Nat) (l : List UInt8) (c : Nat) (w : World) (h : Bld B b l w) (hl : l.length + 4 ≤ 140737488355328) (hB : B ≤ w.heap.size) (hc : c < 256) :
    Calls Try.prog 28 #[.pointer (some ⟨b, 0, none⟩), .int .u8 c] w fun e w' => e = .returned (.tuple #[]) ∧ Wrote B b (l ++ ([92, 120] ++ hx2 c)) w w' := by
  have h1 : c / 16 < 16 := by omega
  have h2 : c % 16 < 16 := by omega
  have L1 := lit_at _ h1 h1
  have L2 := lit_at _ h2 h2
  have H1 := Lib.hid (bld_string B b l ⟨#[92, 120]⟩ w h (by have : (ByteArray.mk #[92, 120]).size = 2 := rfl; omega) hB)
  have hq : (c : Int) / 16 = ((c / 16 : Nat) : Int) := by omega
  have p1 : (0 : Int) ≤ ((c / 16 : Nat) : Int) := by omega
  have p2 : ((c / 16 : Nat) : Int) < 16 := by omega
  rw [show hx2 c = [hxd (c / 16), hxd (c % 16)] from rfl]
  have hr : (c : Int) % 16 = ((c % 16 : Nat) : Int) := by omega
  have p3 : (0 : Int) ≤ ((c % 16 : Nat) : Int) := by omega
  have p4 : ((c % 16 : Nat) : Int) < 16 := by omega
  generalize c / 16 = p at *
  generalize c % 16 = q at *
  go_enter Try.func28, Try.ntmps28
  go_wp2_with fail
  refine H1.out.mono ?_
  rintro e w1 ⟨rfl, k1⟩
  have K1 := Lib.hid k1
  clear k1
  go_wp2_with fail
  refine (bld_byte B b _ _ w1 K1.out.1 (by simp; omega) (K1.out.size hB) (hxd p).toNat_lt).mono ?_
  rintro e w2 ⟨rfl, k2⟩
  have K2 := Lib.hid k2
  clear k2
  go_wp2_with fail
  refine (bld_byte B b _ _ w2 K2.out.1 (by simp; omega) (K2.out.size (K1.out.size hB)) (hxd q).toNat_lt).mono ?_
  rintro e w3 ⟨rfl, k3⟩
  have K3 := Lib.hid k3
  clear k3
  go_wp2_with fail
  go_end0
  refine ⟨rfl, ?_⟩
  have := (K1.out.trans K2.out).trans K3.out
  simpa using this
end Go.Proofs.Ytangldmjgidgcaa
