/- Layer 5: the contracts of digit and escaped. Written by genS12.py. Conditions: none. -/
import Derived.Test.YtangldmjgidgcaaS10
import Derived.Test.YtangldmjgidgcaaS11
import Derived.Outline
import Derived.BigQuiet
namespace Go.Proofs.Ytangldmjgidgcaa
open Go.RowKit Go.Shelf
set_option linter.unusedSimpArgs false
set_option linter.unusedVariables false

theorem digV (c : Fin 256) : Lib.indexByte [48, 49, 50, 51, 52, 53, 54, 55, 56, 57, 97, 98, 99, 100, 101, 102] (UInt8.ofNat (if 65 ≤ c.val ∧ c.val ≤ 70 then c.val + 32 else c.val)) = hexv c.val := by
  revert c; decide +kernel
theorem indexHex_any (i : Int) (c : Nat) (hi : i = c) (v : Int) (hv : Lib.indexByte [48, 49, 50, 51, 52, 53, 54, 55, 56, 57, 97, 98, 99, 100, 101, 102] (UInt8.ofNat c) = v) (w : World) :
    Calls Try.prog 48 #[.string ⟨#[48, 49, 50, 51, 52, 53, 54, 55, 56, 57, 97, 98, 99, 100, 101, 102]⟩, .int .u8 i] w fun e w' => e = .returned (.int .i64 v) ∧ w = w' := by
  subst hi
  subst hv
  refine (Any.strings_IndexByte { shLays137 with } ⟨#[48, 49, 50, 51, 52, 53, 54, 55, 56, 57, 97, 98, 99, 100, 101, 102]⟩ c w).mono ?_
  rintro e w' ⟨rfl, rfl⟩
  exact ⟨rfl, rfl⟩
theorem sdigit_any (c : Nat) (hc : c < 256) (w : World) :
    Calls Try.prog 40 #[.int .u8 c] w fun e w' => e = .returned (.int .i64 (hexv c)) ∧ w = w' := by
  have hv := digV ⟨c, hc⟩
  simp only at hv
  generalize hexv c = v at *
  by_cases a : 65 ≤ c
  · have a' : (65 : Int) ≤ c := by omega
    by_cases b : c ≤ 70
    · have b' : (c : Int) ≤ 70 := by omega
      rw [if_pos ⟨a, b⟩] at hv
      have HV := Lib.hid hv
      clear hv
      go_enter Try.func40, Try.ntmps40
      go_wp2_with fail
      refine (indexHex_any _ (c + 32) (by omega) v HV.out w).mono ?_
      rintro e w' ⟨rfl, rfl⟩
      go_wp2_with fail
      go_ret
      exact ⟨rfl, rfl⟩
    · have b' : ¬ (c : Int) ≤ 70 := by omega
      rw [if_neg (by omega)] at hv
      have HV := Lib.hid hv
      clear hv
      go_enter Try.func40, Try.ntmps40
      go_wp2_with fail
      refine (indexHex_any _ c rfl v HV.out w).mono ?_
      rintro e w' ⟨rfl, rfl⟩
      go_wp2_with fail
      go_ret
      exact ⟨rfl, rfl⟩
  · have a' : ¬ (65 : Int) ≤ c := by omega
    rw [if_neg (by omega)] at hv
    have HV := Lib.hid hv
    clear hv
    go_enter Try.func40, Try.ntmps40
    go_wp2_with fail
    refine (indexHex_any _ c rfl v HV.out w).mono ?_
    rintro e w' ⟨rfl, rfl⟩
    go_wp2_with fail
    go_ret
    exact ⟨rfl, rfl⟩

theorem sdigit_any2 (c : Nat) (hc : c < 256) (w : World) :
    Calls Try.prog 40 #[.int .u8 c] w fun e w' => e = .returned (.int .i64 (hexv c)) ∧ w' = w := (sdigit_any c hc w).mono fun _ _ ⟨h, k⟩ => ⟨h, k.symm⟩
theorem or16 : ∀ a b : Fin 16, bits BinOp.or IntKind.i64 ((a.val : Int) * 16) b.val % 256 = ((UInt8.ofNat ((a.val : Int) * (16 : Int) + b.val).toNat).toNat : Int) := by decide +kernel
theorem or_of {a b : Int} (h1 : 0 ≤ a) (h2 : a ≤ 15) (h3 : 0 ≤ b) (h4 : b ≤ 15) : bits BinOp.or IntKind.i64 (a * 16) b % 256 = ((UInt8.ofNat (a * (16 : Int) + b).toNat).toNat : Int) := by
  have h := or16 ⟨a.toNat, by omega⟩ ⟨b.toNat, by omega⟩
  simp only [Int.toNat_of_nonneg h1, Int.toNat_of_nonneg h3] at h
  exact h
theorem below_drewN (w : World) (n : Nat) : Below w.heap.size w (w.drewN n) := by
  induction n with
  | zero => exact Below.refl _ _
  | succ n ih => exact ih.drew
/-- What escaped hands back. -/
def escR (l : List UInt8) : Value := match escV l with | none => .tuple #[.int .u8 0, .int .i64 0] | some (x, n) => .tuple #[.int .u8 x.toNat, .int .i64 n]
theorem hexv_lt (c : Nat) : hexv c ≤ 15 := by unfold hexv; (repeat' split) <;> omega
set_option maxRecDepth 100000 in
set_option maxHeartbeats 1000000 in
theorem escaped_any (s : ByteArray) (w : World) (hs : s.size ≤ 9223372036854770000) :
    Calls Try.prog 22 #[.string s] w fun e w' => e = .returned (escR s.data.toList) ∧ Below w.heap.size w w' := by

  by_cases h1 : s.size < 2
  · have q1 : (s.size : Int) < 2 := by omega
    have HE := Lib.hid (show escR s.data.toList = _ from by unfold escR; rw [show escV s.data.toList = none from by (have hln : s.data.toList.length = s.size := by simp); unfold escV; rw [if_pos (by omega)]])
    rw [HE.out]
    go_enter Try.func22, Try.ntmps22
    go_wp2_with fail
    go_ret2
    exact ⟨rfl, Below.refl _ _⟩
  have q1 : ¬ (s.size : Int) < 2 := by omega
  have HX1 : Hid (s[1].toNat = nb s.data.toList 1) := Lib.hid (nb_get s 1 (by omega))
  have hc1 : s[1].toNat < 256 := by have := s[1].toNat_lt; omega
  by_cases a92 : s[1].toNat = 92
  · have q92 : (((s[1].toNat : Nat) : Int) == 92) = true := by simp; omega
    have HE := Lib.hid (show escR s.data.toList = _ from by unfold escR; rw [show escV s.data.toList = some (UInt8.ofNat (nb s.data.toList 1), 2) from by (have hln : s.data.toList.length = s.size := by simp); have hx := HX1.out; unfold escV; rw [if_neg (by omega), if_pos (by omega)]])
    clear a92
    rw [HE.out]
    go_enter Try.func22, Try.ntmps22
    go_wp2_with fail
    go_ret2
    exact ⟨by rw [← HX1.out]; simp, Below.refl _ _⟩
  have q92 : (((s[1].toNat : Nat) : Int) == 92) = false := by simp; omega
  by_cases a39 : s[1].toNat = 39
  · have q39 : (((s[1].toNat : Nat) : Int) == 39) = true := by simp; omega
    have HE := Lib.hid (show escR s.data.toList = _ from by unfold escR; rw [show escV s.data.toList = some (UInt8.ofNat (nb s.data.toList 1), 2) from by (have hln : s.data.toList.length = s.size := by simp); have hx := HX1.out; unfold escV; rw [if_neg (by omega), if_pos (by omega)]])
    clear a39
    rw [HE.out]
    go_enter Try.func22, Try.ntmps22
    go_wp2_with fail
    go_ret2
    exact ⟨by rw [← HX1.out]; simp, Below.refl _ _⟩
  have q39 : (((s[1].toNat : Nat) : Int) == 39) = false := by simp; omega
  by_cases a110 : s[1].toNat = 110
  · have q110 : (((s[1].toNat : Nat) : Int) == 110) = true := by simp; omega
    have HE := Lib.hid (show escR s.data.toList = _ from by unfold escR; rw [show escV s.data.toList = some (10, 2) from by (have hln : s.data.toList.length = s.size := by simp); have hx := HX1.out; unfold escV; rw [if_neg (by omega), if_neg (by omega), if_pos (by omega)]])
    clear a110
    rw [HE.out]
    go_enter Try.func22, Try.ntmps22
    go_wp2_with fail
    go_ret2
    exact ⟨rfl, Below.refl _ _⟩
  have q110 : (((s[1].toNat : Nat) : Int) == 110) = false := by simp; omega
  by_cases a116 : s[1].toNat = 116
  · have q116 : (((s[1].toNat : Nat) : Int) == 116) = true := by simp; omega
    have HE := Lib.hid (show escR s.data.toList = _ from by unfold escR; rw [show escV s.data.toList = some (9, 2) from by (have hln : s.data.toList.length = s.size := by simp); have hx := HX1.out; unfold escV; rw [if_neg (by omega), if_neg (by omega), if_neg (by omega), if_pos (by omega)]])
    clear a116
    rw [HE.out]
    go_enter Try.func22, Try.ntmps22
    go_wp2_with fail
    go_ret2
    exact ⟨rfl, Below.refl _ _⟩
  have q116 : (((s[1].toNat : Nat) : Int) == 116) = false := by simp; omega
  by_cases a114 : s[1].toNat = 114
  · have q114 : (((s[1].toNat : Nat) : Int) == 114) = true := by simp; omega
    have HE := Lib.hid (show escR s.data.toList = _ from by unfold escR; rw [show escV s.data.toList = some (13, 2) from by (have hln : s.data.toList.length = s.size := by simp); have hx := HX1.out; unfold escV; rw [if_neg (by omega), if_neg (by omega), if_neg (by omega), if_neg (by omega), if_pos (by omega)]])
    clear a114
    rw [HE.out]
    go_enter Try.func22, Try.ntmps22
    go_wp2_with fail
    go_ret2
    exact ⟨rfl, Below.refl _ _⟩
  have q114 : (((s[1].toNat : Nat) : Int) == 114) = false := by simp; omega
  by_cases h4 : s.size < 4
  · have q4 : (s.size : Int) < 4 := by omega
    have HE := Lib.hid (show escR s.data.toList = _ from by unfold escR; rw [show escV s.data.toList = none from by (have hln : s.data.toList.length = s.size := by simp); have hx := HX1.out; unfold escV; rw [if_neg (by omega), if_neg (by omega), if_neg (by omega), if_neg (by omega), if_neg (by omega), if_pos (.inl (by omega))]])
    rw [HE.out]
    go_enter Try.func22, Try.ntmps22
    go_wp2_with fail
    go_ret2
    exact ⟨rfl, Below.refl _ _⟩
  have q4 : ¬ (s.size : Int) < 4 := by omega
  by_cases a120 : s[1].toNat = 120
  rotate_left
  · have q120 : (((s[1].toNat : Nat) : Int) != 120) = true := by simp; omega
    have HE := Lib.hid (show escR s.data.toList = _ from by unfold escR; rw [show escV s.data.toList = none from by (have hln : s.data.toList.length = s.size := by simp); have hx := HX1.out; unfold escV; rw [if_neg (by omega), if_neg (by omega), if_neg (by omega), if_neg (by omega), if_neg (by omega), if_pos (.inr (.inl (by omega)))]])
    rw [HE.out]
    go_enter Try.func22, Try.ntmps22
    go_wp2_with fail
    go_ret2
    exact ⟨rfl, Below.refl _ _⟩
  have q120 : (((s[1].toNat : Nat) : Int) != 120) = false := by simp; omega
  have g2 : 2 < s.size := by omega
  have g3 : 3 < s.size := by omega
  have HX2 : Hid (s[2].toNat = nb s.data.toList 2) := Lib.hid (nb_get s 2 (by omega))
  have HX3 : Hid (s[3].toNat = nb s.data.toList 3) := Lib.hid (nb_get s 3 (by omega))
  have A120 := Lib.hid a120
  clear a120
  have hc2 : s[2].toNat < 256 := by have := s[2].toNat_lt; omega
  have hc3 : s[3].toNat < 256 := by have := s[3].toNat_lt; omega
  have D2 := Lib.hid (sdigit_any s[2].toNat hc2)
  have D3 := Lib.hid (sdigit_any s[3].toNat hc3)
  have l2 := hexv_lt s[2].toNat
  have l3 := hexv_lt s[3].toNat
  by_cases n2 : hexv s[2].toNat < 0
  · have n2x := n2
    have HE := Lib.hid (show escR s.data.toList = _ from by unfold escR; rw [show escV s.data.toList = none from by (have hln : s.data.toList.length = s.size := by simp); have hx := HX1.out; have hx2 := HX2.out; have hx3 := HX3.out; have a120 := A120.out; unfold escV; rw [if_neg (by omega), if_neg (by omega), if_neg (by omega), if_neg (by omega), if_neg (by omega), if_pos (.inr (.inr (.inl (by rw [← hx2]; exact n2))))]])
    rw [HE.out]
    go_enter Try.func22, Try.ntmps22
    go_wp2_with fail
    refine (D2.out w).mono ?_
    rintro e w' ⟨rfl, rfl⟩
    go_wp2_with fail
    go_ret2
    exact ⟨rfl, Below.refl _ _⟩
  by_cases n3 : hexv s[3].toNat < 0
  · have n3x := n3
    have HE := Lib.hid (show escR s.data.toList = _ from by unfold escR; rw [show escV s.data.toList = none from by (have hln : s.data.toList.length = s.size := by simp); have hx := HX1.out; have hx2 := HX2.out; have hx3 := HX3.out; have a120 := A120.out; unfold escV; rw [if_neg (by omega), if_neg (by omega), if_neg (by omega), if_neg (by omega), if_neg (by omega), if_pos (.inr (.inr (.inr (by rw [← hx3]; exact n3))))]])
    rw [HE.out]
    go_enter Try.func22, Try.ntmps22
    go_wp2_with fail
    refine (D2.out w).mono ?_
    rintro e w' ⟨rfl, rfl⟩
    go_wp2_with fail
    refine (D3.out w).mono ?_
    rintro e w' ⟨rfl, rfl⟩
    go_wp2_with fail
    go_ret2
    exact ⟨rfl, Below.refl _ _⟩
  · have n4 : 0 ≤ hexv s[2].toNat := by omega
    have n5 : 0 ≤ hexv s[3].toNat := by omega
    have HE := Lib.hid (show escR s.data.toList = _ from by unfold escR; rw [show escV s.data.toList = some (UInt8.ofNat (hexv s[2].toNat * (16 : Int) + hexv s[3].toNat).toNat, (4 : Nat)) from by (have hln : s.data.toList.length = s.size := by simp); have hx := HX1.out; have hx2 := HX2.out; have hx3 := HX3.out; have a120 := A120.out; unfold escV; rw [if_neg (by omega), if_neg (by omega), if_neg (by omega), if_neg (by omega), if_neg (by omega), if_neg (by rw [← hx2, ← hx3]; omega), ← hx2, ← hx3]])
    rw [HE.out]
    go_enter Try.func22, Try.ntmps22
    go_wp2_with fail
    refine (D2.out w).mono ?_
    rintro e w' ⟨rfl, rfl⟩
    go_wp2_with fail
    refine (D3.out w).mono ?_
    rintro e w' ⟨rfl, rfl⟩
    go_wp2_with fail
    go_quiet ((exact Calls.quiet_of_same (sdigit_any2 _ (by assumption) _)))
    have HO := Lib.hid (or_of n4 l2 n5 l3)
    go_wp2_with fail
    go_ret2
    exact ⟨by rw [HO.out]; rfl, below_drewN _ _⟩
end Go.Proofs.Ytangldmjgidgcaa
