/- The texts Ist of this seat, one behind the other. Conditions: each says its own. -/
import Derived.Deep.Cut
import Derived.Test.YtjoopjmcnkiieaaM7

/- IndexStamps. Conditions: the acts can be read. -/
namespace Go.Proofs.Ytjoopjmcnkiieaa
open Go.RowKit Go.Lib Go.Maps
set_option linter.unusedSimpArgs false
set_option linter.unusedVariables false

theorem runS_keys (os : List Act25) : ∀ x ∈ (runS os).2, x.size ≤ maxLen := by
  have h : ∀ (os : List Act25) (s : List (ByteArray × Int) × List ByteArray), (∀ x ∈ s.2, x.size ≤ maxLen) → ∀ x ∈ (os.foldl (fun s o => (stepL o s.1, stepH o s.1 s.2)) s).2, x.size ≤ maxLen := by
    intro os
    induction os with
    | nil => intro s h; exact h
    | cons o os ih =>
      intro s h
      rw [List.foldl_cons]
      refine ih _ (fun x hx => ?_)
      have hx : x ∈ stepH o s.1 s.2 := hx
      have h2 : x ∈ s.2 ++ [o.key] ∨ x ∈ s.2 := by
        unfold stepH at hx
        split at hx
        · exact .inl hx
        · split at hx
          · split at hx
            · exact .inl hx
            · exact .inr hx
          · exact .inr hx
      rcases h2 with h2 | h2
      · rcases List.mem_append.1 h2 with h2 | h2
        · exact h x h2
        · rw [List.mem_singleton.1 h2]; exact o.hk
      · exact h x h2
  exact h os ([], []) (fun x hx => by cases hx)
theorem within_all (x : ByteArray) : withinS x ⟨#[]⟩ ⟨#[]⟩ = true := by
  have h : ∀ l : List UInt8, Op.bytesLess l [] = false := fun l => by cases l <;> rfl
  unfold withinS ltS
  rw [show (⟨#[]⟩ : ByteArray).toList = [] from by rw [ba_list], h]
  rfl
theorem stampF_all : ∀ H : List ByteArray, stampF ⟨#[]⟩ ⟨#[]⟩ H = H.length
  | [] => rfl
  | c :: r => by simp only [stampF]; rw [if_pos (within_all c)]; rfl
section
variable {w u : World} {B : List KB} {o tb xb : Nat} {lt lr : List (ByteArray × Int)} {Ht Hr : List ByteArray} {a b : ByteArray}
theorem LS.tstamp (h : LS w B o tb xb lt Ht lr Hr u) (hH : Ht.length ≤ 1000000) (hsz : ∀ x ∈ Ht, x.size ≤ maxLen) :
    Calls Try.prog 20 #[.pointer (some ⟨tb, 0, none⟩), .string a, .string b] u fun e w' => e = .returned (.int .i64 (stampF a b Ht)) ∧ LS w B o tb xb lt Ht lr Hr w' := by
  have h0 := h
  obtain ⟨F, G, h1, h2, hB⟩ := h
  refine (tstamp_any h1 hH hsz).mono ?_
  rintro e w' ⟨rfl, hs⟩
  exact ⟨rfl, h0.same hs⟩
theorem LS.rstamp (h : LS w B o tb xb lt Ht lr Hr u) (hH : Hr.length ≤ 1000000) :
    Calls Try.prog 21 #[.pointer (some ⟨xb, 0, none⟩), .string a, .string b] u fun e w' => e = .returned (.int .i64 (stampF a b Hr.reverse)) ∧ u = w' := by
  obtain ⟨F, G, h1, h2, hB⟩ := h
  exact rstamp_any h2 hH
end
set_option maxRecDepth 100000 in
set_option maxHeartbeats 16000000 in
theorem stamps_any (n : Int) (a0 : Option Addr) (cap0 : Nat) (os : List Act25) (a b : ByteArray) (W : World) (hrow : Cells W.heap.size W a0 (os.flatMap Act25.cells)) :
    Calls Try.prog 6 #[.int .i64 n, .slice a0 os.length cap0, .string a, .string b] W fun e w' => e = .returned (.bool true) ∧ Below W.heap.size W w' := by
  obtain ⟨Q, hQ⟩ : ∃ Q, (fun (e : Ending) (w' : World) => e = .returned (.bool true) ∧ Below W.heap.size W w') = Q := ⟨_, rfl⟩
  have HQ : Hid (∀ u, Below W.heap.size W u → Q (.returned (.bool true)) u) := Lib.hid (fun u hb => by rw [← hQ]; exact ⟨rfl, hb⟩)
  rw [hQ]
  have HG := Lib.hid (grown_any n a0 cap0 os W hrow)
  have HW := Lib.hid works_any
  have HWE : Hid (∀ u, Below W.heap.size W u → Calls Try.prog 12 #[] u fun e w' => e = .returned (.bool true) ∧ Below W.heap.size W w') := Lib.hid (fun u hb => (HW.out u).mono (by rintro e w' ⟨rfl, h2⟩; exact ⟨rfl, hb.trans (h2.mono hb.size)⟩))
  have HKS := Lib.hid (runS_keys (os.take (min os.length 500)))
  clear hQ hrow HW
  go_enter Try.func6, Try.ntmps6
  go_upto_region 4 with (go_at_call 9; refine HG.out.mono ?_; clear HG; rintro e w1 ⟨tb, xb, rfl, hg⟩; have HT := Lib.hid hg; clear hg)
  obtain ⟨l, hl⟩ : ∃ l, (runS (os.take (min os.length 500))).1 = l := ⟨_, rfl⟩
  obtain ⟨H, hH⟩ : ∃ H, (runS (os.take (min os.length 500))).2 = H := ⟨_, rfl⟩
  have hHl := HT.out.l2
  have htl := HT.out.tl
  have hks := HKS.out
  rw [hl, hH] at htl
  rw [hH] at hHl hks
  have hH5 : H.length ≤ 1000000 := by omega
  have HTL := Lib.hid htl
  have HHL := Lib.hid hH5
  have HK2 := Lib.hid hks
  obtain ⟨s, hs⟩ : ∃ s, stampF a b H.reverse = s := ⟨_, rfl⟩
  have HA : Hid (∀ u, TL W [] (ordN n) tb xb l H u → Calls Try.prog 20 #[.pointer (some ⟨tb, 0, none⟩), .string a, .string b] u fun e w' => e = .returned (.int .i64 s) ∧ TL W [] (ordN n) tb xb l H w') := Lib.hid (fun u h => by have := LS.tstamp (a := a) (b := b) h (by simpa using HHL.out) (fun x hx => HK2.out x (by simpa using hx)); rw [hs] at this; exact this)
  have HB : Hid (∀ u, TL W [] (ordN n) tb xb l H u → Calls Try.prog 21 #[.pointer (some ⟨xb, 0, none⟩), .string a, .string b] u fun e w' => e = .returned (.int .i64 s) ∧ u = w') := Lib.hid (fun u h => by have := LS.rstamp (a := a) (b := b) h HHL.out; rw [hs] at this; exact this)
  have HC : Hid (∀ u, TL W [] (ordN n) tb xb l H u → Calls Try.prog 20 #[.pointer (some ⟨tb, 0, none⟩), .string ⟨#[]⟩, .string ⟨#[]⟩] u fun e w' => e = .returned (.int .i64 H.length) ∧ TL W [] (ordN n) tb xb l H w') := Lib.hid (fun u h => by have := LS.tstamp (a := ⟨#[]⟩) (b := ⟨#[]⟩) h (by simpa using HHL.out) (fun x hx => HK2.out x (by simpa using hx)); rw [stampF_all, List.length_reverse] at this; exact this)
  have HD : Hid (∀ u, TL W [] (ordN n) tb xb l H u → Calls Try.prog 19 #[.pointer (some ⟨tb, 0, none⟩)] u fun e w' => e = .returned (.int .i64 H.length) ∧ u = w') := Lib.hid (fun u h => by have := LS.tchanges h; rw [List.length_reverse] at this; exact this)
  generalize H.length = hn at *
  clear hl hH hHl htl hks hH5 hs HT HKS
  go_wp2_with (first
    | (go_at_call 20; refine (HA.out _ HTL.out).mono ?_; clear HA; rintro e w2 ⟨rfl, h2⟩; have HT2 := Lib.hid h2; clear h2)
    | (go_at_call 21; refine (HB.out _ HT2.out).mono ?_; clear HB; rintro e w3 ⟨rfl, rfl⟩)
    | (go_at_call 20; refine (HC.out _ HT2.out).mono ?_; clear HC; rintro e w4 ⟨rfl, h4⟩; have HT4 := Lib.hid h4; clear h4)
    | (go_at_call 19; refine (HD.out _ HT4.out).mono ?_; clear HD; rintro e w5 ⟨rfl, rfl⟩)
    | (go_at_call 12; refine (HWE.out _ HT4.out.bel).mono ?_; clear HWE; rintro e w6 ⟨rfl, h6⟩; have HB6 := Lib.hid h6; clear h6))
  exact HQ.out _ HB6.out
end Go.Proofs.Ytjoopjmcnkiieaa
