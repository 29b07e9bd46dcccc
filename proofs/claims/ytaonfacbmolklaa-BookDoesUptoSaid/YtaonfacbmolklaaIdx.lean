/- slices.IndexFunc and slices.ContainsFunc at each closure: what they answer, given what the closure answers. Conditions: none. -/
import Derived.Test.YtaonfacbmolklaaAdd
namespace Go.Proofs.Ytaonfacbmolklaa
open Go.RowKit
set_option linter.unusedSimpArgs false
set_option linter.unusedVariables false

/-- Where the first one stands of which p holds; -1: none. -/
def idxV {α : Type} (p : α → Bool) : List α → Int
  | [] => -1
  | v :: vs => if p v then 0 else (match idxV p vs with | .ofNat n => .ofNat (n + 1) | .negSucc m => .negSucc m)
theorem idxV_any {α : Type} (p : α → Bool) (l : List α) : (idxV p l = -1 ∧ l.any p = false) ∨ ∃ n : Nat, idxV p l = n ∧ n < l.length ∧ l.any p = true := by
  induction l with
  | nil => exact .inl ⟨rfl, rfl⟩
  | cons v vs ih =>
    unfold idxV
    by_cases h : p v = true
    · rw [if_pos h]; exact .inr ⟨0, rfl, by simp, by simp [h]⟩
    · rw [if_neg h]
      rcases ih with ⟨h1, h2⟩ | ⟨n, h1, h2, h3⟩
      · rw [h1]; exact .inl ⟨rfl, by simp [h, h2]⟩
      · rw [h1]; exact .inr ⟨n + 1, rfl, by simpa using h2, by simp [h3]⟩
theorem idxV_at {α : Type} {p : α → Bool} {l : List α} {j : Nat} {v : α} (hv : l[j]? = some v) (hp : p v = true) (hn : ∀ (i : Nat) u, i < j → l[i]? = some u → p u = false) : idxV p l = j := by
  induction l generalizing j with
  | nil => simp at hv
  | cons u us ih =>
    unfold idxV
    cases j with
    | zero =>
      obtain rfl : u = v := by simpa using hv
      rw [if_pos hp]; rfl
    | succ j =>
      have h0 := hn 0 u (by omega) rfl
      rw [if_neg (by rw [h0]; decide), ih (j := j) (by simpa using hv) (fun i w hi hw => hn (i + 1) w (by omega) (by simpa using hw))]
      rfl
theorem idxV_none {α : Type} {p : α → Bool} {l : List α} (hn : ∀ (i : Nat) u, l[i]? = some u → p u = false) : idxV p l = -1 := by
  induction l with
  | nil => rfl
  | cons u us ih =>
    unfold idxV
    have h0 := hn 0 u rfl
    rw [if_neg (by rw [h0]; decide), ih (fun i w hw => hn (i + 1) w (by simpa using hw))]
    rfl

theorem any_range {α : Type} (p : α → Bool) (d : α) (l : List α) : (List.range l.length).any (fun j => p (l.getD j d)) = l.any p := by
  rw [Bool.eq_iff_iff, List.any_eq_true, List.any_eq_true]
  constructor
  · rintro ⟨j, hj, hp⟩
    have hj' : j < l.length := by simpa using hj
    rw [List.getD_eq_getElem?_getD, List.getElem?_eq_getElem hj'] at hp
    exact ⟨l[j], List.getElem_mem hj', hp⟩
  · rintro ⟨x, hx, hp⟩
    obtain ⟨j, hj⟩ := List.mem_iff_getElem?.1 hx
    exact ⟨j, by have := (List.getElem?_eq_some_iff.1 hj).1; simpa using this, by rw [List.getD_eq_getElem?_getD, hj]; exact hp⟩

set_option maxRecDepth 100000 in
set_option maxHeartbeats 4000000 in
theorem idx_open (vals : List Value) (p : Nat → Bool) (a : Option Addr) (c bx B : Nat) (w : World) (hrow : Cells B w a vals) (hB : B ≤ w.heap.size) (hn : vals.length ≤ 1099511627776)
    (hf : ∀ (w' : World) (j : Nat) v, Below w.heap.size w w' → vals[j]? = some v → Calls Try.prog 26 #[v, .pointer (some ⟨bx, 0, none⟩)] w' fun e w'' => e = .returned (.bool (p j)) ∧ Below w'.heap.size w' w'') :
    Calls Try.prog 41 #[.slice a vals.length c, .func (.func 26) #[] #[.pointer (some ⟨bx, 0, none⟩)]] w fun e w' => e = .returned (.int .i64 (idxV p (List.range vals.length))) ∧ Below w.heap.size w w' := by
  obtain ⟨n, hl⟩ : ∃ n, vals.length = n := ⟨_, rfl⟩
  rw [hl] at hn ⊢
  have HR := Lib.hid hrow
  have HF := Lib.hid hf
  have HLN := Lib.hid hl
  obtain ⟨R, hR⟩ : ∃ R, idxV p (List.range n) = R := ⟨_, rfl⟩
  have HRR := Lib.hid hR
  rw [hR]
  clear hrow hf hl hR
  go_enter Try.func41, Try.ntmps41
  go_wp2_with fail
  go_loopw [8] (fun iv wr => ∃ (j : Nat), iv = .int .i64 j ∧ j ≤ n ∧ Hid (∀ (i : Nat), i < j → p i = false) ∧ Hid (Below w.heap.size w wr)) (fun iv _ => n - (intOf iv).toNat)
  case atStart => exact ⟨0, rfl, Nat.zero_le _, Lib.hid (fun _ h => absurd h (Nat.not_lt_zero _)), Lib.hid (Below.refl _ _)⟩
  case round =>
    obtain ⟨j, rfl, hj, HN, HBR⟩ := hrel
    by_cases hlt : j < n
    · have hlt' : (j : Int) < n := by omega
      have hj0 : (0 : Int) ≤ (j : Int) := by omega
      obtain ⟨v, hv⟩ : ∃ v, vals[j]? = some v := get_some (by have := HLN.out; omega)
      have hrr := HR.out.below HBR.out hB
      obtain ⟨b, off, rfl, hb, hc⟩ : ∃ b off, a = some ⟨b, off, none⟩ ∧ b < B ∧ wr.cell? ⟨b, off + j, none⟩ = some v := by
        rcases hrr with h | ⟨b, off, h1, h2, h3⟩
        · rw [h] at hv; simp at hv
        · exact ⟨b, off, h1, h2, h3 j v hv⟩
      have HI := Lib.hid (HF.out wr j v HBR.out hv)
      have HV := Lib.hid hv
      clear hv hrr
      cases hp : p j with
      | false =>
        have HPV := Lib.hid hp
        rw [hp] at HI
        clear hp
        go_wp2_with fail
        refine HI.out.mono ?_
        rintro e w2 ⟨rfl, hb2⟩
        have HB2 := Lib.hid (below_step HBR.out rfl hb2)
        clear hb2 hc
        go_wp2_with fail
        go_roundw
        case rel => exact ⟨j + 1, by go_num, by omega, Lib.hid (fun i hi => by
            by_cases hij : i = j
            · subst hij; exact HPV.out
            · exact HN.out i (by omega)), HB2⟩
        case measure => simp [intOf]; omega
      | true =>
        have HRJ : Hid (R = (j : Int)) := Lib.hid (by rw [← HRR.out]; exact idxV_at (List.getElem?_range hlt) hp (fun i u hi hu => by rw [List.getElem?_range (by omega)] at hu; cases hu; exact HN.out _ hi))
        rw [hp] at HI
        clear hp
        go_wp2_with fail
        refine HI.out.mono ?_
        rintro e w2 ⟨rfl, hb2⟩
        have HB2 := Lib.hid (below_step HBR.out rfl hb2)
        clear hb2 hc
        go_wp2_with fail
        go_ret
        exact ⟨by rw [HRJ.out]; rfl, HB2.out⟩
    · have hlt' : ¬ (j : Int) < n := by omega
      have HRJ : Hid (R = -1) := Lib.hid (by rw [← HRR.out]; exact idxV_none (fun i u hu => by
        have h1 := (List.getElem?_eq_some_iff.1 hu).1
        simp at h1
        rw [List.getElem?_range h1] at hu; cases hu; exact HN.out _ (by omega)))
      go_wp2_with fail
      go_ret
      exact ⟨by rw [HRJ.out]; rfl, HBR.out⟩
theorem cont_open (vals : List Value) (p : Nat → Bool) (a : Option Addr) (c bx B : Nat) (w : World) (hrow : Cells B w a vals) (hB : B ≤ w.heap.size) (hn : vals.length ≤ 1099511627776)
    (hf : ∀ (w' : World) (j : Nat) v, Below w.heap.size w w' → vals[j]? = some v → Calls Try.prog 26 #[v, .pointer (some ⟨bx, 0, none⟩)] w' fun e w'' => e = .returned (.bool (p j)) ∧ Below w'.heap.size w' w'') :
    Calls Try.prog 25 #[.slice a vals.length c, .func (.func 26) #[] #[.pointer (some ⟨bx, 0, none⟩)]] w fun e w' => e = .returned (.bool ((List.range vals.length).any p)) ∧ Below w.heap.size w w' := by
  have HI := Lib.hid (idx_open vals p a c bx B w hrow hB hn hf)
  have hc := idxV_any p (List.range vals.length)
  obtain ⟨n, hl⟩ : ∃ n, vals.length = n := ⟨_, rfl⟩
  rw [hl] at HI hc ⊢
  generalize (List.range n).any p = R at *
  generalize idxV p (List.range n) = q at *
  clear hrow hf hn hl
  rcases hc with ⟨rfl, rfl⟩ | ⟨m, rfl, -, rfl⟩
  all_goals
    go_enter Try.func25, Try.ntmps25
    go_wp2_with fail
    refine HI.out.mono ?_
    rintro e w1 ⟨rfl, hb1⟩
    have HB1 := Lib.hid hb1
    clear hb1
    go_wp2_with fail
    go_ret
    exact ⟨by rfl, HB1.out⟩

set_option maxRecDepth 100000 in
set_option maxHeartbeats 4000000 in
theorem idx_forget (vals : List Value) (p : Nat → Bool) (a : Option Addr) (c bx B : Nat) (w : World) (hrow : Cells B w a vals) (hB : B ≤ w.heap.size) (hn : vals.length ≤ 1099511627776)
    (hf : ∀ (w' : World) (j : Nat) v, Below w.heap.size w w' → vals[j]? = some v → Calls Try.prog 46 #[v, .pointer (some ⟨bx, 0, none⟩)] w' fun e w'' => e = .returned (.bool (p j)) ∧ Below w'.heap.size w' w'') :
    Calls Try.prog 41 #[.slice a vals.length c, .func (.func 46) #[] #[.pointer (some ⟨bx, 0, none⟩)]] w fun e w' => e = .returned (.int .i64 (idxV p (List.range vals.length))) ∧ Below w.heap.size w w' := by
  obtain ⟨n, hl⟩ : ∃ n, vals.length = n := ⟨_, rfl⟩
  rw [hl] at hn ⊢
  have HR := Lib.hid hrow
  have HF := Lib.hid hf
  have HLN := Lib.hid hl
  obtain ⟨R, hR⟩ : ∃ R, idxV p (List.range n) = R := ⟨_, rfl⟩
  have HRR := Lib.hid hR
  rw [hR]
  clear hrow hf hl hR
  go_enter Try.func41, Try.ntmps41
  go_wp2_with fail
  go_loopw [8] (fun iv wr => ∃ (j : Nat), iv = .int .i64 j ∧ j ≤ n ∧ Hid (∀ (i : Nat), i < j → p i = false) ∧ Hid (Below w.heap.size w wr)) (fun iv _ => n - (intOf iv).toNat)
  case atStart => exact ⟨0, rfl, Nat.zero_le _, Lib.hid (fun _ h => absurd h (Nat.not_lt_zero _)), Lib.hid (Below.refl _ _)⟩
  case round =>
    obtain ⟨j, rfl, hj, HN, HBR⟩ := hrel
    by_cases hlt : j < n
    · have hlt' : (j : Int) < n := by omega
      have hj0 : (0 : Int) ≤ (j : Int) := by omega
      obtain ⟨v, hv⟩ : ∃ v, vals[j]? = some v := get_some (by have := HLN.out; omega)
      have hrr := HR.out.below HBR.out hB
      obtain ⟨b, off, rfl, hb, hc⟩ : ∃ b off, a = some ⟨b, off, none⟩ ∧ b < B ∧ wr.cell? ⟨b, off + j, none⟩ = some v := by
        rcases hrr with h | ⟨b, off, h1, h2, h3⟩
        · rw [h] at hv; simp at hv
        · exact ⟨b, off, h1, h2, h3 j v hv⟩
      have HI := Lib.hid (HF.out wr j v HBR.out hv)
      have HV := Lib.hid hv
      clear hv hrr
      cases hp : p j with
      | false =>
        have HPV := Lib.hid hp
        rw [hp] at HI
        clear hp
        go_wp2_with fail
        refine HI.out.mono ?_
        rintro e w2 ⟨rfl, hb2⟩
        have HB2 := Lib.hid (below_step HBR.out rfl hb2)
        clear hb2 hc
        go_wp2_with fail
        go_roundw
        case rel => exact ⟨j + 1, by go_num, by omega, Lib.hid (fun i hi => by
            by_cases hij : i = j
            · subst hij; exact HPV.out
            · exact HN.out i (by omega)), HB2⟩
        case measure => simp [intOf]; omega
      | true =>
        have HRJ : Hid (R = (j : Int)) := Lib.hid (by rw [← HRR.out]; exact idxV_at (List.getElem?_range hlt) hp (fun i u hi hu => by rw [List.getElem?_range (by omega)] at hu; cases hu; exact HN.out _ hi))
        rw [hp] at HI
        clear hp
        go_wp2_with fail
        refine HI.out.mono ?_
        rintro e w2 ⟨rfl, hb2⟩
        have HB2 := Lib.hid (below_step HBR.out rfl hb2)
        clear hb2 hc
        go_wp2_with fail
        go_ret
        exact ⟨by rw [HRJ.out]; rfl, HB2.out⟩
    · have hlt' : ¬ (j : Int) < n := by omega
      have HRJ : Hid (R = -1) := Lib.hid (by rw [← HRR.out]; exact idxV_none (fun i u hu => by
        have h1 := (List.getElem?_eq_some_iff.1 hu).1
        simp at h1
        rw [List.getElem?_range h1] at hu; cases hu; exact HN.out _ (by omega)))
      go_wp2_with fail
      go_ret
      exact ⟨by rw [HRJ.out]; rfl, HBR.out⟩
theorem cont_forget (vals : List Value) (p : Nat → Bool) (a : Option Addr) (c bx B : Nat) (w : World) (hrow : Cells B w a vals) (hB : B ≤ w.heap.size) (hn : vals.length ≤ 1099511627776)
    (hf : ∀ (w' : World) (j : Nat) v, Below w.heap.size w w' → vals[j]? = some v → Calls Try.prog 46 #[v, .pointer (some ⟨bx, 0, none⟩)] w' fun e w'' => e = .returned (.bool (p j)) ∧ Below w'.heap.size w' w'') :
    Calls Try.prog 25 #[.slice a vals.length c, .func (.func 46) #[] #[.pointer (some ⟨bx, 0, none⟩)]] w fun e w' => e = .returned (.bool ((List.range vals.length).any p)) ∧ Below w.heap.size w w' := by
  have HI := Lib.hid (idx_forget vals p a c bx B w hrow hB hn hf)
  have hc := idxV_any p (List.range vals.length)
  obtain ⟨n, hl⟩ : ∃ n, vals.length = n := ⟨_, rfl⟩
  rw [hl] at HI hc ⊢
  generalize (List.range n).any p = R at *
  generalize idxV p (List.range n) = q at *
  clear hrow hf hn hl
  rcases hc with ⟨rfl, rfl⟩ | ⟨m, rfl, -, rfl⟩
  all_goals
    go_enter Try.func25, Try.ntmps25
    go_wp2_with fail
    refine HI.out.mono ?_
    rintro e w1 ⟨rfl, hb1⟩
    have HB1 := Lib.hid hb1
    clear hb1
    go_wp2_with fail
    go_ret
    exact ⟨by rfl, HB1.out⟩

set_option maxRecDepth 100000 in
set_option maxHeartbeats 4000000 in
theorem idx_drop (vals : List Value) (p : Nat → Bool) (a : Option Addr) (c bx B : Nat) (w : World) (hrow : Cells B w a vals) (hB : B ≤ w.heap.size) (hn : vals.length ≤ 1099511627776)
    (hf : ∀ (w' : World) (j : Nat) v, Below w.heap.size w w' → vals[j]? = some v → Calls Try.prog 39 #[v, .pointer (some ⟨bx, 0, none⟩)] w' fun e w'' => e = .returned (.bool (p j)) ∧ Below w'.heap.size w' w'') :
    Calls Try.prog 41 #[.slice a vals.length c, .func (.func 39) #[] #[.pointer (some ⟨bx, 0, none⟩)]] w fun e w' => e = .returned (.int .i64 (idxV p (List.range vals.length))) ∧ Below w.heap.size w w' := by
  obtain ⟨n, hl⟩ : ∃ n, vals.length = n := ⟨_, rfl⟩
  rw [hl] at hn ⊢
  have HR := Lib.hid hrow
  have HF := Lib.hid hf
  have HLN := Lib.hid hl
  obtain ⟨R, hR⟩ : ∃ R, idxV p (List.range n) = R := ⟨_, rfl⟩
  have HRR := Lib.hid hR
  rw [hR]
  clear hrow hf hl hR
  go_enter Try.func41, Try.ntmps41
  go_wp2_with fail
  go_loopw [8] (fun iv wr => ∃ (j : Nat), iv = .int .i64 j ∧ j ≤ n ∧ Hid (∀ (i : Nat), i < j → p i = false) ∧ Hid (Below w.heap.size w wr)) (fun iv _ => n - (intOf iv).toNat)
  case atStart => exact ⟨0, rfl, Nat.zero_le _, Lib.hid (fun _ h => absurd h (Nat.not_lt_zero _)), Lib.hid (Below.refl _ _)⟩
  case round =>
    obtain ⟨j, rfl, hj, HN, HBR⟩ := hrel
    by_cases hlt : j < n
    · have hlt' : (j : Int) < n := by omega
      have hj0 : (0 : Int) ≤ (j : Int) := by omega
      obtain ⟨v, hv⟩ : ∃ v, vals[j]? = some v := get_some (by have := HLN.out; omega)
      have hrr := HR.out.below HBR.out hB
      obtain ⟨b, off, rfl, hb, hc⟩ : ∃ b off, a = some ⟨b, off, none⟩ ∧ b < B ∧ wr.cell? ⟨b, off + j, none⟩ = some v := by
        rcases hrr with h | ⟨b, off, h1, h2, h3⟩
        · rw [h] at hv; simp at hv
        · exact ⟨b, off, h1, h2, h3 j v hv⟩
      have HI := Lib.hid (HF.out wr j v HBR.out hv)
      have HV := Lib.hid hv
      clear hv hrr
      cases hp : p j with
      | false =>
        have HPV := Lib.hid hp
        rw [hp] at HI
        clear hp
        go_wp2_with fail
        refine HI.out.mono ?_
        rintro e w2 ⟨rfl, hb2⟩
        have HB2 := Lib.hid (below_step HBR.out rfl hb2)
        clear hb2 hc
        go_wp2_with fail
        go_roundw
        case rel => exact ⟨j + 1, by go_num, by omega, Lib.hid (fun i hi => by
            by_cases hij : i = j
            · subst hij; exact HPV.out
            · exact HN.out i (by omega)), HB2⟩
        case measure => simp [intOf]; omega
      | true =>
        have HRJ : Hid (R = (j : Int)) := Lib.hid (by rw [← HRR.out]; exact idxV_at (List.getElem?_range hlt) hp (fun i u hi hu => by rw [List.getElem?_range (by omega)] at hu; cases hu; exact HN.out _ hi))
        rw [hp] at HI
        clear hp
        go_wp2_with fail
        refine HI.out.mono ?_
        rintro e w2 ⟨rfl, hb2⟩
        have HB2 := Lib.hid (below_step HBR.out rfl hb2)
        clear hb2 hc
        go_wp2_with fail
        go_ret
        exact ⟨by rw [HRJ.out]; rfl, HB2.out⟩
    · have hlt' : ¬ (j : Int) < n := by omega
      have HRJ : Hid (R = -1) := Lib.hid (by rw [← HRR.out]; exact idxV_none (fun i u hu => by
        have h1 := (List.getElem?_eq_some_iff.1 hu).1
        simp at h1
        rw [List.getElem?_range h1] at hu; cases hu; exact HN.out _ (by omega)))
      go_wp2_with fail
      go_ret
      exact ⟨by rw [HRJ.out]; rfl, HBR.out⟩
theorem cont_drop (vals : List Value) (p : Nat → Bool) (a : Option Addr) (c bx B : Nat) (w : World) (hrow : Cells B w a vals) (hB : B ≤ w.heap.size) (hn : vals.length ≤ 1099511627776)
    (hf : ∀ (w' : World) (j : Nat) v, Below w.heap.size w w' → vals[j]? = some v → Calls Try.prog 39 #[v, .pointer (some ⟨bx, 0, none⟩)] w' fun e w'' => e = .returned (.bool (p j)) ∧ Below w'.heap.size w' w'') :
    Calls Try.prog 25 #[.slice a vals.length c, .func (.func 39) #[] #[.pointer (some ⟨bx, 0, none⟩)]] w fun e w' => e = .returned (.bool ((List.range vals.length).any p)) ∧ Below w.heap.size w w' := by
  have HI := Lib.hid (idx_drop vals p a c bx B w hrow hB hn hf)
  have hc := idxV_any p (List.range vals.length)
  obtain ⟨n, hl⟩ : ∃ n, vals.length = n := ⟨_, rfl⟩
  rw [hl] at HI hc ⊢
  generalize (List.range n).any p = R at *
  generalize idxV p (List.range n) = q at *
  clear hrow hf hn hl
  rcases hc with ⟨rfl, rfl⟩ | ⟨m, rfl, -, rfl⟩
  all_goals
    go_enter Try.func25, Try.ntmps25
    go_wp2_with fail
    refine HI.out.mono ?_
    rintro e w1 ⟨rfl, hb1⟩
    have HB1 := Lib.hid hb1
    clear hb1
    go_wp2_with fail
    go_ret
    exact ⟨by rfl, HB1.out⟩

set_option maxRecDepth 100000 in
set_option maxHeartbeats 4000000 in
theorem idx_meet (vals : List Value) (p : Nat → Bool) (a : Option Addr) (c bx B : Nat) (w : World) (hrow : Cells B w a vals) (hB : B ≤ w.heap.size) (hn : vals.length ≤ 1099511627776)
    (hf : ∀ (w' : World) (j : Nat) v, Below w.heap.size w w' → vals[j]? = some v → Calls Try.prog 53 #[v, .pointer (some ⟨bx, 0, none⟩)] w' fun e w'' => e = .returned (.bool (p j)) ∧ Below w'.heap.size w' w'') :
    Calls Try.prog 57 #[.slice a vals.length c, .func (.func 53) #[] #[.pointer (some ⟨bx, 0, none⟩)]] w fun e w' => e = .returned (.int .i64 (idxV p (List.range vals.length))) ∧ Below w.heap.size w w' := by
  obtain ⟨n, hl⟩ : ∃ n, vals.length = n := ⟨_, rfl⟩
  rw [hl] at hn ⊢
  have HR := Lib.hid hrow
  have HF := Lib.hid hf
  have HLN := Lib.hid hl
  obtain ⟨R, hR⟩ : ∃ R, idxV p (List.range n) = R := ⟨_, rfl⟩
  have HRR := Lib.hid hR
  rw [hR]
  clear hrow hf hl hR
  go_enter Try.func57, Try.ntmps57
  go_wp2_with fail
  go_loopw [8] (fun iv wr => ∃ (j : Nat), iv = .int .i64 j ∧ j ≤ n ∧ Hid (∀ (i : Nat), i < j → p i = false) ∧ Hid (Below w.heap.size w wr)) (fun iv _ => n - (intOf iv).toNat)
  case atStart => exact ⟨0, rfl, Nat.zero_le _, Lib.hid (fun _ h => absurd h (Nat.not_lt_zero _)), Lib.hid (Below.refl _ _)⟩
  case round =>
    obtain ⟨j, rfl, hj, HN, HBR⟩ := hrel
    by_cases hlt : j < n
    · have hlt' : (j : Int) < n := by omega
      have hj0 : (0 : Int) ≤ (j : Int) := by omega
      obtain ⟨v, hv⟩ : ∃ v, vals[j]? = some v := get_some (by have := HLN.out; omega)
      have hrr := HR.out.below HBR.out hB
      obtain ⟨b, off, rfl, hb, hc⟩ : ∃ b off, a = some ⟨b, off, none⟩ ∧ b < B ∧ wr.cell? ⟨b, off + j, none⟩ = some v := by
        rcases hrr with h | ⟨b, off, h1, h2, h3⟩
        · rw [h] at hv; simp at hv
        · exact ⟨b, off, h1, h2, h3 j v hv⟩
      have HI := Lib.hid (HF.out wr j v HBR.out hv)
      have HV := Lib.hid hv
      clear hv hrr
      cases hp : p j with
      | false =>
        have HPV := Lib.hid hp
        rw [hp] at HI
        clear hp
        go_wp2_with fail
        refine HI.out.mono ?_
        rintro e w2 ⟨rfl, hb2⟩
        have HB2 := Lib.hid (below_step HBR.out rfl hb2)
        clear hb2 hc
        go_wp2_with fail
        go_roundw
        case rel => exact ⟨j + 1, by go_num, by omega, Lib.hid (fun i hi => by
            by_cases hij : i = j
            · subst hij; exact HPV.out
            · exact HN.out i (by omega)), HB2⟩
        case measure => simp [intOf]; omega
      | true =>
        have HRJ : Hid (R = (j : Int)) := Lib.hid (by rw [← HRR.out]; exact idxV_at (List.getElem?_range hlt) hp (fun i u hi hu => by rw [List.getElem?_range (by omega)] at hu; cases hu; exact HN.out _ hi))
        rw [hp] at HI
        clear hp
        go_wp2_with fail
        refine HI.out.mono ?_
        rintro e w2 ⟨rfl, hb2⟩
        have HB2 := Lib.hid (below_step HBR.out rfl hb2)
        clear hb2 hc
        go_wp2_with fail
        go_ret
        exact ⟨by rw [HRJ.out]; rfl, HB2.out⟩
    · have hlt' : ¬ (j : Int) < n := by omega
      have HRJ : Hid (R = -1) := Lib.hid (by rw [← HRR.out]; exact idxV_none (fun i u hu => by
        have h1 := (List.getElem?_eq_some_iff.1 hu).1
        simp at h1
        rw [List.getElem?_range h1] at hu; cases hu; exact HN.out _ (by omega)))
      go_wp2_with fail
      go_ret
      exact ⟨by rw [HRJ.out]; rfl, HBR.out⟩
theorem cont_meet (vals : List Value) (p : Nat → Bool) (a : Option Addr) (c bx B : Nat) (w : World) (hrow : Cells B w a vals) (hB : B ≤ w.heap.size) (hn : vals.length ≤ 1099511627776)
    (hf : ∀ (w' : World) (j : Nat) v, Below w.heap.size w w' → vals[j]? = some v → Calls Try.prog 53 #[v, .pointer (some ⟨bx, 0, none⟩)] w' fun e w'' => e = .returned (.bool (p j)) ∧ Below w'.heap.size w' w'') :
    Calls Try.prog 52 #[.slice a vals.length c, .func (.func 53) #[] #[.pointer (some ⟨bx, 0, none⟩)]] w fun e w' => e = .returned (.bool ((List.range vals.length).any p)) ∧ Below w.heap.size w w' := by
  have HI := Lib.hid (idx_meet vals p a c bx B w hrow hB hn hf)
  have hc := idxV_any p (List.range vals.length)
  obtain ⟨n, hl⟩ : ∃ n, vals.length = n := ⟨_, rfl⟩
  rw [hl] at HI hc ⊢
  generalize (List.range n).any p = R at *
  generalize idxV p (List.range n) = q at *
  clear hrow hf hn hl
  rcases hc with ⟨rfl, rfl⟩ | ⟨m, rfl, -, rfl⟩
  all_goals
    go_enter Try.func52, Try.ntmps52
    go_wp2_with fail
    refine HI.out.mono ?_
    rintro e w1 ⟨rfl, hb1⟩
    have HB1 := Lib.hid hb1
    clear hb1
    go_wp2_with fail
    go_ret
    exact ⟨by rfl, HB1.out⟩

end Go.Proofs.Ytaonfacbmolklaa
