/- The reference's with: marks and others, anew. Conditions: the row is sorted. -/
import Derived.Test.YtaonfacbmolklaaLab
namespace Go.Proofs.Ytaonfacbmolklaa
open Go.RowKit
set_option linter.unusedSimpArgs false
set_option linter.unusedVariables false

def WithP (w : World) (la : Option Addr) (l r : List ByteArray) (e : Ending) (w' : World) : Prop := ∃ a c, e = .returned (.slice a r.length c) ∧ StrRow w'.heap.size w' a r ∧ ((a = la ∧ r = l) ∨ ∃ b, a = some ⟨b, 0, none⟩ ∧ w.heap.size ≤ b) ∧ Below w.heap.size w w'
set_option maxRecDepth 100000 in
set_option maxHeartbeats 4000000 in
theorem with_any (w : World) (l more : List ByteArray) (la ma : Option Addr) (lc mc : Nat) (hl : StrRow w.heap.size w la l) (hm : StrRow w.heap.size w ma more) (hs : SortedS l) (hn : l.length + more.length ≤ 1099511627776) :
    Calls Try.prog 30 #[.slice la l.length lc, .slice ma more.length mc] w (WithP w la l (addS l more)) := by
  have HLR := Lib.hid hl
  have HMR := Lib.hid hm
  have HS := Lib.hid hs
  obtain ⟨m, hmn⟩ : ∃ m, more.length = m := ⟨_, rfl⟩
  rw [hmn] at hn ⊢
  have HMN := Lib.hid hmn
  obtain ⟨Q, hQ⟩ : ∃ Q, WithP w la l (addS l more) = Q := ⟨_, rfl⟩
  have HQ := Lib.hid hQ
  rw [hQ]
  obtain ⟨n0, hn0⟩ : ∃ n, l.length = n := ⟨_, rfl⟩
  rw [hn0] at hn ⊢
  have HN0 := Lib.hid hn0
  clear hl hm hs hmn hQ hn0
  go_enter Try.func30, Try.ntmps30
  go_wp2_with fail
  go_loopw [0, 5] (fun vv jv wr => ∃ (j n : Nat) (a : Option Addr) (c : Nat) (ks : List ByteArray), jv = .int .i64 j ∧ vv = .slice a n c ∧ j ≤ m ∧ n ≤ n0 + j ∧ Hid (ks = addS l (more.take j) ∧ ks.length = n) ∧ Hid (StrRow wr.heap.size wr a ks) ∧ Hid ((a = la ∧ ks = l) ∨ ∃ b, a = some ⟨b, 0, none⟩ ∧ w.heap.size ≤ b) ∧ Hid (Below w.heap.size w wr)) (fun _ jv _ => m - (intOf jv).toNat)
  case atStart => exact ⟨0, n0, la, lc, l, rfl, rfl, Nat.zero_le _, by omega, Lib.hid ⟨rfl, HN0.out⟩, HLR, Lib.hid (.inl ⟨rfl, rfl⟩), Lib.hid (Below.refl _ _)⟩
  case round =>
    obtain ⟨j, n, a, c, ks, rfl, rfl, hj, hn2, HK, HR, HA, HB⟩ := hrel
    by_cases hlt : j < m
    · have hlt' : (j : Int) < m := by omega
      have hj0 : (0 : Int) ≤ (j : Int) := by omega
      obtain ⟨x, hx⟩ : ∃ x, more[j]? = some x := get_some (by have := HMN.out; omega)
      obtain ⟨b, off, rfl, hb, hc⟩ := HMR.out.get hx
      have hcw : wr.cell? ⟨b, off + j, none⟩ = some (.string x) := by rw [HB.out.cell hb]; exact hc
      have hsk : SortedS ks := by rw [HK.out.1]; exact addS_sorted HS.out
      have hla := label_any wr ks x a c HR.out (by have := HK.out.2; omega)
      rw [lab_ins x ks hsk, HK.out.2] at hla
      have HLA := Lib.hid hla
      have HNX : Hid (insS ks x = addS l (more.take (j + 1))) := Lib.hid (by rw [addS_take hx, ← HK.out.1])
      have HLE : Hid ((insS ks x).length ≤ n + 1) := Lib.hid (by have := insS_len x ks; have := HK.out.2; omega)
      clear hx hc hsk hla
      go_wp2_with fail
      refine HLA.out.mono ?_
      rintro e w2 ⟨a2, c2, rfl, hown, hb2⟩
      have hle := HLE.out
      have HR2 : Hid (StrRow w2.heap.size w2 a2 (insS ks x)) := Lib.hid (own_cells_of hown)
      have HA2 : Hid ((a2 = la ∧ insS ks x = l) ∨ ∃ b, a2 = some ⟨b, 0, none⟩ ∧ w.heap.size ≤ b) := Lib.hid (by
        rcases hown.2 with ⟨h1, h2⟩ | ⟨g, cap, cur, h1, h2, _⟩
        · exfalso
          have h3 : (insS ks x).length = 0 := h2
          have : x ∈ insS ks x := (insS_mem ks).2 (.inl rfl)
          rw [List.length_eq_zero_iff.1 h3] at this
          cases this
        · injection h1 with e1 _ _
          exact .inr ⟨g, e1, Nat.le_trans HB.out.size h2⟩)
      have HB2 : Hid (Below w.heap.size w w2) := Lib.hid (HB.out.trans (hb2.mono HB.out.size))
      clear hown hb2
      obtain ⟨nn, hnn⟩ : ∃ nn, (insS ks x).length = nn := ⟨_, rfl⟩
      rw [hnn] at hle ⊢
      have HK2 : Hid (insS ks x = addS l (more.take (j + 1)) ∧ (insS ks x).length = nn) := Lib.hid ⟨HNX.out, hnn⟩
      clear hnn
      go_wp2_with fail
      go_roundw
      case rel => exact ⟨j + 1, nn, a2, c2, insS ks x, by go_num, rfl, by omega, by omega, HK2, HR2, HA2, HB2⟩
      case measure => simp [intOf]; omega
    · have hlt' : ¬ (j : Int) < m := by omega
      have hjm : j = m := by omega
      have HF : Hid (ks = addS l more) := Lib.hid (by have h := HK.out.1; rwa [List.take_of_length_le (by have := HMN.out; omega)] at h)
      go_wp2_with fail
      rw [← HQ.out]
      refine ⟨a, c, ?_, by rw [← HF.out]; exact HR.out, by rw [← HF.out]; exact HA.out, HB.out⟩
      rw [← HF.out, HK.out.2]
end Go.Proofs.Ytaonfacbmolklaa
