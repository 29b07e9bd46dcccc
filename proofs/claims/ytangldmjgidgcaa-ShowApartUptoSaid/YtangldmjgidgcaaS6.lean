/- Layer 5: the contract of the reference's hex. Conditions: none. -/
import Derived.Test.YtangldmjgidgcaaS4
import Derived.Test.YtangldmjgidgcaaS5
import Derived.Outline
import Derived.Laws.BytesArg
import Derived.Laws.IdiomStrings
import Derived.Deep.RegionLaw
namespace Go.Proofs.Ytangldmjgidgcaa
open Go.RowKit
set_option linter.unusedSimpArgs false
set_option linter.unusedVariables false

def strOf (l : List UInt8) : ByteArray := ⟨l.toArray⟩
theorem strOf_list (l : List UInt8) : (strOf l).toList = l := by simp [strOf]
theorem strOf_size (l : List UInt8) : (strOf l).size = l.length := by simp [strOf, ByteArray.size]
theorem nums_of_bytes (l : List UInt8) : strOfNums (l.map fun c => (c.toNat : Int)) = strOf l := by
  unfold strOfNums strOf
  rw [List.map_map]
  congr 2
  refine (List.map_congr_left fun c _ => ?_).trans (List.map_id l)
  simp
theorem lit_at (k : Nat) (h : k < 16) : ∀ h' : k < (ByteArray.mk #[48, 49, 50, 51, 52, 53, 54, 55, 56, 57, 97, 98, 99, 100, 101, 102]).size, (ByteArray.mk #[48, 49, 50, 51, 52, 53, 54, 55, 56, 57, 97, 98, 99, 100, 101, 102])[k].toNat = (hxd k).toNat := by
  have : k = 0 ∨ k = 1 ∨ k = 2 ∨ k = 3 ∨ k = 4 ∨ k = 5 ∨ k = 6 ∨ k = 7 ∨ k = 8 ∨ k = 9 ∨ k = 10 ∨ k = 11 ∨ k = 12 ∨ k = 13 ∨ k = 14 ∨ k = 15 := by omega
  rcases this with h | h | h | h | h | h | h | h | h | h | h | h | h | h | h | h <;> subst h <;> intro _ <;> rfl

theorem convTwo (w : World) (b d : UInt8) : (convert 36 9 (.slice (some ⟨w.heap.size, 0, none⟩) 2 2)).run Try.prog (w.alloc (.cells #[.int .u8 b.toNat, .int .u8 d.toNat] 5)).drew = .ok (.string (strOf [b, d])) (w.alloc (.cells #[.int .u8 b.toNat, .int .u8 d.toNat] 5)).drew := by
  have hc := run_convert_bytes_arg (P := Try.prog) (w.alloc (.cells #[.int .u8 b.toNat, .int .u8 d.toNat] 5)).drew 36 5 Try.underlying36 Try.underlying5 w.heap.size 0 2 2 ([b, d].map fun c => (c.toNat : Int)) rfl (fun i hi => by
    have : i = 0 ∨ i = 1 := by omega
    rcases this with h | h <;> subst h <;> simp) 9 Try.underlying9
  rw [nums_of_bytes] at hc
  exact hc

set_option maxRecDepth 20000 in
theorem hex_any (c : Nat) (hc : c < 256) (w : World) :
    Calls Try.prog 30 #[.int .u8 c] w fun e w' => e = .returned (.string (strOf (hx2 c))) ∧ Below w.heap.size w w' := by
  rw [show hx2 c = [hxd (c / 16), hxd (c % 16)] from rfl]
  have hq : (c : Int).tdiv 16 = ((c / 16 : Nat) : Int) := by rw [Int.tdiv_eq_ediv_of_nonneg (by omega)]; omega
  have hr : (c : Int).tmod 16 = ((c % 16 : Nat) : Int) := by rw [Int.tmod_eq_emod_of_nonneg (by omega)]; omega
  have h1 : c / 16 < 16 := by omega
  have h2 : c % 16 < 16 := by omega
  have L1 := lit_at _ h1 h1
  have L2 := lit_at _ h2 h2
  generalize c / 16 = p at *
  generalize c % 16 = q at *
  go_enter Try.func30, Try.ntmps30
  go_wp2_with fail
  have HV := convTwo w (hxd p) (hxd q)
  go_region
  go_wp2_with fail
  go_ret
  exact ⟨rfl, ((Below.refl _ _).alloc (Nat.le_refl _) _).drew⟩
end Go.Proofs.Ytangldmjgidgcaa
