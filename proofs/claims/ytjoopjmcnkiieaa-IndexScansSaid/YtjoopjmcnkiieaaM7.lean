/- The texts Wk, Open, Sp, J2, Do of this seat, one behind the other. Conditions: each says its own. -/
import Derived.Lib.IndexBytes
import Derived.Deep.Slices
import Derived.ChangeArms
import Derived.Test.YtjoopjmcnkiieaaM6

/- The law's works: its small example. Conditions: none. -/
namespace Go.Proofs.Ytjoopjmcnkiieaa
open Go.RowKit Go.Lib Go.Maps
set_option linter.unusedSimpArgs false
set_option linter.unusedVariables false

/-- A tree alone. -/
def OT (w : World) (o tb : Nat) (l : List (ByteArray × Int)) (H : List ByteArray) (u : World) : Prop := ∃ F, IsTree u o tb F l H ∧ Base w [] F (fun _ => 0) u
section
variable {w u : World} {o tb : Nat} {l : List (ByteArray × Int)} {H : List ByteArray} {key a b : ByteArray} {x : Int}
theorem OT.bel (h : OT w o tb l H u) : Below w.heap.size w u := by obtain ⟨F, _, hB⟩ := h; exact hB.bel
theorem OT.same {u' : World} (h : OT w o tb l H u) (hb : Below u.heap.size u u') : OT w o tb l H u' := by
  obtain ⟨F, h1, hB⟩ := h
  exact ⟨F, h1.frame (F := F) (G := fun _ => 0) (G' := fun _ => 0) (Fr.of_below hb (fun _ => by omega) (fun _ _ => rfl)) (fun k => by have := hB.one k; omega), hB.same hb⟩
theorem OT.put (h : OT w o tb l H u) (ho3 : 3 ≤ o) (ho2 : o ≤ 64) (hl : l.length ≤ 1000000) (hH : H.length ≤ 1000000) (hkey : key.size ≤ maxLen) :
    Calls Try.prog 15 #[.pointer (some ⟨tb, 0, none⟩), .string key, .int .i64 x] u fun e w' => e = .returned (.bool (hasF key l)) ∧ OT w o tb (insF key x l) (key :: H) w' := by
  obtain ⟨F, h1, hB⟩ := h
  refine (tput_any ho3 ho2 h1 hl hH hkey).mono ?_
  rintro e w' ⟨rfl, F', hf, ht⟩
  exact ⟨rfl, F', ht, hB.left hf (fun _ _ => rfl)⟩
theorem OT.del (h : OT w o tb l H u) (ho3 : 3 ≤ o) (ho2 : o ≤ 64) (hl : l.length ≤ 1000000) (hH : H.length ≤ 1000000) (hkey : key.size ≤ maxLen) :
    Calls Try.prog 26 #[.pointer (some ⟨tb, 0, none⟩), .string key] u fun e w' => e = .returned (.bool (hasF key l)) ∧ OT w o tb (delF key l) (if hasF key l then key :: H else H) w' := by
  obtain ⟨F, h1, hB⟩ := h
  refine (tdel_any ho3 ho2 h1 hl hH hkey).mono ?_
  rintro e w' ⟨rfl, F', hf, ht⟩
  exact ⟨rfl, F', ht, hB.left hf (fun _ _ => rfl)⟩
theorem OT.get (h : OT w o tb l H u) (ho2 : o ≤ 64) :
    Calls Try.prog 25 #[.pointer (some ⟨tb, 0, none⟩), .string key] u fun e w' => e = .returned (.tuple #[.int .i64 ((getF key l).getD 0), .bool (getF key l).isSome]) ∧ OT w o tb l H w' := by
  have h0 := h
  obtain ⟨F, h1, hB⟩ := h
  refine (tget_any ho2 h1).mono ?_
  rintro e w' ⟨rfl, hs⟩
  exact ⟨rfl, h0.same ⟨hs.2.1.symm, hs.2.2.1.symm, hs.2.2.2.symm, by rw [hs.1]; exact Nat.le_refl _, fun k _ => by rw [hs.1]⟩⟩
theorem OT.len (h : OT w o tb l H u) : Calls Try.prog 17 #[.pointer (some ⟨tb, 0, none⟩)] u fun e w' => e = .returned (.int .i64 l.length) ∧ u = w' := by
  obtain ⟨F, h1, hB⟩ := h
  exact tlen_any h1
theorem OT.depth (h : OT w o tb l H u) (ho3 : 3 ≤ o) (ho2 : o ≤ 64) (hl : l.length ≤ 1000000) : Calls Try.prog 24 #[.pointer (some ⟨tb, 0, none⟩)] u (DepthP o l.length u) := by
  obtain ⟨F, h1, hB⟩ := h
  exact tdepth_any ho3 ho2 h1 hl
theorem OT.stamp (h : OT w o tb l H u) (hH : H.length ≤ 1000000) (hsz : ∀ x ∈ H, x.size ≤ maxLen) : Calls Try.prog 20 #[.pointer (some ⟨tb, 0, none⟩), .string a, .string b] u fun e w' => e = .returned (.int .i64 (stampF a b H)) ∧ OT w o tb l H w' := by
  have h0 := h
  obtain ⟨F, h1, hB⟩ := h
  refine (tstamp_any h1 hH hsz).mono ?_
  rintro e w' ⟨rfl, hs⟩
  exact ⟨rfl, h0.same hs⟩
theorem OT.all {most : Nat} (h : OT w o tb l H u) (ho2 : o ≤ 64) (hmost : most ≤ 1000000) (hl : l.length ≤ 1000000) :
    Calls Try.prog 16 #[.pointer (some ⟨tb, 0, none⟩), .string a, .string b, .int .i64 most] u fun e w' => AllP (part a b l) most u e w' ∧ OT w o tb l H w' := by
  have h0 := h
  obtain ⟨F, h1, hB⟩ := h
  refine (all_any ho2 h1 hmost hl).mono ?_
  rintro e w' ha
  exact ⟨ha, h0.same ha.1⟩
end
theorem ot_new {o : Nat} (ho3 : 3 ≤ o) (ho2 : o ≤ 64) (w : World) : Calls Try.prog 13 #[.int .i64 o] w fun e w' => ∃ tb, e = .returned (.tuple #[.pointer (some ⟨tb, 0, none⟩), .int .i64 0]) ∧ OT w o tb [] [] w' := by
  refine (new_any ho3 ho2 w).mono ?_
  rintro e w' ⟨tb, F, rfl, ht, hb, hlow⟩
  exact ⟨tb, rfl, F, ht, ⟨hb, fun k => by have := ht.one k; omega, fun k hk => by have := hlow k hk; omega, fun b hb => by cases hb⟩⟩
theorem convOne (w : World) (b : UInt8) : (convert 66 9 (.slice (some ⟨w.heap.size, 0, none⟩) 1 1)).run Try.prog (w.alloc (.cells #[.int .u8 b.toNat] 5)) = .ok (.string ⟨#[b]⟩) (w.alloc (.cells #[.int .u8 b.toNat] 5)) := by
  have h := Block.new w [.int .u8 b.toNat] 5
  have hc := run_convert_bytes_back (P := Try.prog) (w.alloc (.cells #[.int .u8 b.toNat] 5)) 66 9 5 ⟨w.heap.size, 0, none⟩ 1 [b] Try.underlying66 Try.underlying5 Try.underlying9 (fun j hj => by
    rw [addr_add]
    have : j = 0 := by simpa using hj
    subst this
    exact h.cell rfl)
  exact hc
def wl : Nat → List (ByteArray × Int)
  | 0 => []
  | i + 1 => wl i ++ [(⟨#[UInt8.ofNat (97 + i)]⟩, (i : Int))]
def wH : Nat → List ByteArray
  | 0 => []
  | i + 1 => ⟨#[UInt8.ofNat (97 + i)]⟩ :: wH i
def chA (i : Nat) : ByteArray := ⟨#[UInt8.ofNat (97 + i)]⟩
theorem chA_size (i : Nat) : (chA i).size = 1 := rfl
theorem wl_ins0 : insF (chA 0) ((0 : Nat) : Int) (wl 0) = wl 1 := by kernel_rfl
theorem wl_ins1 : insF (chA 1) ((1 : Nat) : Int) (wl 1) = wl 2 := by kernel_rfl
theorem wl_ins2 : insF (chA 2) ((2 : Nat) : Int) (wl 2) = wl 3 := by kernel_rfl
theorem wl_ins3 : insF (chA 3) ((3 : Nat) : Int) (wl 3) = wl 4 := by kernel_rfl
theorem wl_ins4 : insF (chA 4) ((4 : Nat) : Int) (wl 4) = wl 5 := by kernel_rfl
theorem wl_ins (i : Fin 5) : insF (chA i.val) (i.val : Int) (wl i.val) = wl (i.val + 1) :=
  match i with
  | ⟨0, _⟩ => wl_ins0
  | ⟨1, _⟩ => wl_ins1
  | ⟨2, _⟩ => wl_ins2
  | ⟨3, _⟩ => wl_ins3
  | ⟨4, _⟩ => wl_ins4
theorem wl_len : ∀ i : Nat, (wl i).length = i
  | 0 => rfl
  | i + 1 => by simp [wl, wl_len i]
theorem wH_len : ∀ i : Nat, (wH i).length = i
  | 0 => rfl
  | i + 1 => by simp [wH, wH_len i]
theorem wH_size : ∀ i : Nat, ∀ x ∈ wH i, x.size ≤ maxLen
  | 0, x, hx => by cases hx
  | i + 1, x, hx => by
    rcases List.mem_cons.1 hx with rfl | hx
    · show 1 ≤ maxLen
      unfold maxLen; omega
    · exact wH_size i x hx
theorem w_get : getF (chA 2) (wl 5) = some 2 := by kernel_rfl
theorem w_part : part (chA 1) (chA 3) (wl 5) = [(chA 1, 1), (chA 2, 2)] := by kernel_rfl
theorem w_has : hasF (chA 0) (wl 5) = true := by kernel_rfl
theorem w_has2 : hasF (chA 0) (delF (chA 0) (wl 5)) = false := by kernel_rfl
theorem w_len2 : (delF (chA 0) (wl 5)).length = 4 := by kernel_rfl
theorem w_stamp : stampF (chA 0) (chA 1) (chA 0 :: wH 5) = 6 := by kernel_rfl
theorem w_del2 : delF (chA 0) (delF (chA 0) (wl 5)) = delF (chA 0) (wl 5) := by kernel_rfl
set_option maxRecDepth 100000 in
set_option maxHeartbeats 16000000 in
theorem works_any (w : World) : Calls Try.prog 12 #[] w fun e w' => e = .returned (.bool true) ∧ Below w.heap.size w w' := by
  obtain ⟨Q, hQ⟩ : ∃ Q, (fun (e : Ending) (w' : World) => e = .returned (.bool true) ∧ Below w.heap.size w w') = Q := ⟨_, rfl⟩
  have HQ : Hid (∀ w', Below w.heap.size w w' → Q (.returned (.bool true)) w') := Lib.hid (by intro w' hb; rw [← hQ]; exact ⟨rfl, hb⟩)
  rw [hQ]
  clear hQ
  have HN := Lib.hid (ot_new (o := 3) (by omega) (by omega) w)
  go_enter Try.func12, Try.ntmps12
  go_wp2_with (go_at_call 13; refine HN.out.mono ?_; clear HN; rintro e w1 ⟨tb, rfl, h0⟩; have H0 := Lib.hid h0; clear h0)
  go_loopw [3] (fun iv wr => ∃ i : Nat, iv = .int .i64 i ∧ i ≤ 5 ∧ Hid (OT w 3 tb (wl i) (wH i) wr)) (fun iv _ => 5 - (intOf iv).toNat)
  case atStart => exact ⟨0, rfl, by omega, H0⟩
  case round =>
    clear H0
    obtain ⟨i, rfl, hi, HT⟩ := hrel
    by_cases hlt : i < 5
    · have hlt' : (i : Int) < 5 := by omega
      have HP := Lib.hid (fun (u : World) (h : OT w 3 tb (wl i) (wH i) u) => (OT.put (key := chA i) (x := (i : Int)) h (by omega) (by omega) (by rw [wl_len]; omega) (by rw [wH_len]; omega) (by rw [chA_size]; unfold maxLen; omega)))
      have HI := Lib.hid (wl_ins ⟨i, hlt⟩)
      have HHH : Hid (chA i :: wH i = wH (i + 1)) := Lib.hid rfl
      have HU := Lib.hid (HP.out (wr.alloc (.cells #[.int .u8 (97 + (i : Int))] 5)) (HT.out.same ((Below.refl _ _).alloc (Nat.le_refl _) _)))
      have hb8 : ((UInt8.ofNat (97 + i)).toNat : Int) = 97 + (i : Int) := by rw [UInt8.toNat_ofNat']; omega
      have hcv : (convert 66 9 (.slice (some ⟨wr.heap.size, 0, none⟩) 1 1)).run Try.prog (wr.alloc (.cells #[.int .u8 (97 + (i : Int))] 5)) = .ok (.string (chA i)) (wr.alloc (.cells #[.int .u8 (97 + (i : Int))] 5)) := by
        have := convOne wr (UInt8.ofNat (97 + i))
        rw [hb8] at this
        exact this
      have hw8 : IntKind.u8.wrap (97 + (i : Int)) = 97 + (i : Int) := by simp [IntKind.wrap, IntKind.signed, IntKind.bits]; omega
      have hwi : IntKind.i64.wrap ((i : Int) + 1) = (i : Int) + 1 := IntWalk.i64_in _ (by omega)
      have hwj : IntKind.i64.wrap (97 + (i : Int)) = 97 + (i : Int) := IntWalk.i64_in _ (by omega)
      clear hb8 HP
      go_wp2_with (go_at_call 15; refine HU.out.mono ?_; clear HU; rintro e w2 ⟨rfl, h2⟩; have H2 : Hid (OT w 3 tb (wl (i + 1)) (wH (i + 1)) w2) := Lib.hid (by rw [← HI.out, ← HHH.out]; exact h2); clear h2)
      go_roundw
      case rel => exact ⟨i + 1, by go_num, by omega, H2⟩
      case measure => simp [intOf]; omega
    · have hlt' : ¬ (i : Int) < 5 := by omega
      obtain rfl : i = 5 := by omega
      have HG : Hid (∀ u, OT w 3 tb (wl 5) (wH 5) u → Calls Try.prog 25 #[.pointer (some ⟨tb, 0, none⟩), .string ⟨#[99]⟩] u fun e w' => e = .returned (.tuple #[.int .i64 2, .bool true]) ∧ OT w 3 tb (wl 5) (wH 5) w') := Lib.hid (fun u h => by
        have := OT.get (key := chA 2) h (by omega)
        rw [w_get] at this
        exact this)
      have HA : Hid (∀ u, OT w 3 tb (wl 5) (wH 5) u → Calls Try.prog 16 #[.pointer (some ⟨tb, 0, none⟩), .string ⟨#[98]⟩, .string ⟨#[100]⟩, .int .i64 5] u fun e w' => (∃ g c, e = .returned (.tuple #[.slice (some ⟨g, 0, none⟩) 2 c, .bool true]) ∧ w'.cell? ⟨g, 0, none⟩ = some (.string ⟨#[98]⟩)) ∧ OT w 3 tb (wl 5) (wH 5) w') := Lib.hid (fun u h => by
        have := OT.all (a := chA 1) (b := chA 3) (most := 5) h (by omega) (by omega) (by rw [wl_len]; omega)
        rw [w_part] at this
        refine this.mono ?_
        rintro e w' ⟨⟨_, h1⟩, h2⟩
        refine ⟨?_, h2⟩
        rcases h1 with ⟨_, v, rfl, hr⟩ | ⟨h3, _⟩
        · obtain ⟨g, c, rfl⟩ := ownsRow_succ hr
          refine ⟨g, c, rfl, ?_⟩
          have ha := Arr.of_own hr
          obtain ⟨_, e9, _, h4, _⟩ := ha.cell (i := 0) (x := .string (chA 1)) rfl
          injection e9 with e9
          injection e9 with e9 _
          subst e9
          exact h4
        · simp at h3)
      have HD : Hid (∀ u, OT w 3 tb (wl 5) (wH 5) u → Calls Try.prog 26 #[.pointer (some ⟨tb, 0, none⟩), .string ⟨#[97]⟩] u fun e w' => e = .returned (.bool true) ∧ OT w 3 tb (delF (chA 0) (wl 5)) (chA 0 :: wH 5) w') := Lib.hid (fun u h => by
        have := OT.del (key := chA 0) h (by omega) (by omega) (by rw [wl_len]; omega) (by rw [wH_len]; omega) (by rw [chA_size]; unfold maxLen; omega)
        rw [w_has] at this
        exact this)
      have HD2 : Hid (∀ u, OT w 3 tb (delF (chA 0) (wl 5)) (chA 0 :: wH 5) u → Calls Try.prog 26 #[.pointer (some ⟨tb, 0, none⟩), .string ⟨#[97]⟩] u fun e w' => e = .returned (.bool false) ∧ OT w 3 tb (delF (chA 0) (wl 5)) (chA 0 :: wH 5) w') := Lib.hid (fun u h => by
        have := OT.del (key := chA 0) h (by omega) (by omega) (by rw [w_len2]; omega) (by rw [List.length_cons, wH_len]; omega) (by rw [chA_size]; unfold maxLen; omega)
        rw [w_has2, w_del2] at this
        exact this)
      have HL : Hid (∀ u, OT w 3 tb (delF (chA 0) (wl 5)) (chA 0 :: wH 5) u → Calls Try.prog 17 #[.pointer (some ⟨tb, 0, none⟩)] u fun e w' => e = .returned (.int .i64 4) ∧ u = w') := Lib.hid (fun u h => by
        have := OT.len h
        rw [w_len2] at this
        exact this)
      have HS : Hid (∀ u, OT w 3 tb (delF (chA 0) (wl 5)) (chA 0 :: wH 5) u → Calls Try.prog 20 #[.pointer (some ⟨tb, 0, none⟩), .string ⟨#[97]⟩, .string ⟨#[98]⟩] u fun e w' => e = .returned (.int .i64 6) ∧ OT w 3 tb (delF (chA 0) (wl 5)) (chA 0 :: wH 5) w') := Lib.hid (fun u h => by
        have := OT.stamp (a := chA 0) (b := chA 1) h (by rw [List.length_cons, wH_len]; omega) (fun x hx => by
          rcases List.mem_cons.1 hx with rfl | hx
          · show 1 ≤ maxLen
            unfold maxLen; omega
          · exact wH_size 5 x hx)
        rw [w_stamp] at this
        exact this)
      have HDP : Hid (∀ u, OT w 3 tb (delF (chA 0) (wl 5)) (chA 0 :: wH 5) u → Calls Try.prog 24 #[.pointer (some ⟨tb, 0, none⟩)] u fun e w' => e = .returned (.int .i64 2) ∧ u = w') := Lib.hid (fun u h => by
        refine (OT.depth h (by omega) (by omega) (by rw [w_len2]; omega)).mono ?_
        rintro e w' ⟨d, rfl, ⟨h1, h2⟩, rfl⟩
        rw [w_len2] at h1 h2
        have : d = 1 := by
          match d, h1, h2 with
          | 0, h1, _ => have := h1 rfl; omega
          | 1, _, _ => rfl
          | d + 2, _, h2 =>
            have h3 := h2 (by omega)
            have h4 : 2 ^ 1 ≤ 2 ^ (d + 2 - 1) := Nat.pow_le_pow_right (by omega) (by omega)
            simp at h3 h4
            omega
        subst this
        exact ⟨rfl, rfl⟩)
      have HT0 := HT
      clear HT
      go_wp2_with (first
        | (go_at_call 25; refine (HG.out _ HT0.out).mono ?_; rintro e w2 ⟨rfl, h2⟩; have HT2 := Lib.hid h2; clear h2 HG)
        | (go_at_call 16; refine (HA.out _ HT2.out).mono ?_; rintro e w3 ⟨⟨g, c, rfl, hcg⟩, h3⟩; have HT3 := Lib.hid h3; clear h3 HA)
        | (go_at_call 26; refine (HD.out _ HT3.out).mono ?_; rintro e w4 ⟨rfl, h4⟩; have HT4 := Lib.hid h4; clear h4 HD)
        | (go_at_call 26; refine (HD2.out _ HT4.out).mono ?_; rintro e w5 ⟨rfl, h5⟩; have HT5 := Lib.hid h5; clear h5 HD2)
        | (go_at_call 17; refine (HL.out _ HT5.out).mono ?_; rintro e w6 ⟨rfl, rfl⟩; clear HL)
        | (go_at_call 20; refine (HS.out _ HT5.out).mono ?_; rintro e w7 ⟨rfl, h7⟩; have HT7 := Lib.hid h7; clear h7 HS)
        | (go_at_call 24; refine (HDP.out _ HT7.out).mono ?_; rintro e w8 ⟨rfl, rfl⟩; clear HDP))
      exact HQ.out _ HT7.out.bel
end Go.Proofs.Ytjoopjmcnkiieaa

/- A slice that came in, read as a row of elements of whatever kind: each element's cells. Conditions: each element's reading tells its cells. -/
namespace Go.Proofs.Ytjoopjmcnkiieaa
open Go.RowKit Go.Deep Go.ChangeShapes Go.WideShapes

theorem spot_none {w : World} {a : Addr} {v : Value} (h : w.cell? a = some v) : a = ⟨a.block, a.off, none⟩ := by
  have := World.cell?_spot h
  cases a; simp_all

theorem flat_get {α : Type} {f : α → List Value} {size : Nat} {os : List α} (hf : ∀ o ∈ os, (f o).length = size) {i : Nat} {v : Value} (h : (os.flatMap f)[i]? = some v) :
    ∃ k j o, i = k * size + j ∧ j < size ∧ os[k]? = some o ∧ (f o)[j]? = some v := by
  induction os generalizing i with
  | nil => simp at h
  | cons o os ih =>
    have h0 := hf o (by simp)
    rw [List.flatMap_cons] at h
    by_cases hi : i < size
    · rw [List.getElem?_append_left (by omega)] at h
      exact ⟨0, i, o, by omega, hi, rfl, h⟩
    · rw [List.getElem?_append_right (by omega), h0] at h
      obtain ⟨k, j, u, h1, h2, h3, h4⟩ := ih (fun u hu => hf u (by simp [hu])) h
      refine ⟨k + 1, j, u, ?_, h2, by simpa using h3, h4⟩
      rw [Nat.succ_mul]; omega

theorem choose_list {α : Type} {p : Nat → α → Prop} {n : Nat} (h : ∀ i, i < n → ∃ o, p i o) : ∃ os : List α, os.length = n ∧ ∀ (i : Nat) o, os[i]? = some o → p i o := by
  induction n with
  | zero => exact ⟨[], rfl, by simp⟩
  | succ n ih =>
    obtain ⟨os, h1, h2⟩ := ih (fun i hi => h i (by omega))
    obtain ⟨o, ho⟩ := h n (by omega)
    refine ⟨os ++ [o], by simp [h1], fun i u hu => ?_⟩
    by_cases hin : i < os.length
    · rw [List.getElem?_append_left hin] at hu; exact h2 i u hu
    · rw [List.getElem?_append_right (by omega)] at hu
      have : i = n := by
        have := (List.getElem?_eq_some_iff.1 hu).1
        simp at this; omega
      subst this
      rw [show i - os.length = 0 from by omega] at hu
      simp at hu; subst hu; exact ho

theorem open_rows {H : Type} {enc : TypeId × Value → H} {P : Program} {w : World} {base : Nat} {spare : Nat → Bool} {held : Bool} {α : Type} (f : α → List Value) (size : Nat) {t e : TypeId} {fuel : Nat} {a : Option Addr} {len cap : Nat} {x : DataW H × List MemPlace}
    (ht : P.underlying t = some (.slice e)) (hC : P.cellsOf e = size)
    (hel : ∀ (n : Nat) (cs : List Value) (y : DataW H × List MemPlace), cs.length = size → DataW.trod enc P w base spare held n e cs = some y → ∃ o : α, cs = f o)
    (h : DataW.trod enc P w base spare held fuel t [.slice a len cap] = some x) :
    ∃ os : List α, os.length = len ∧ len ≤ cap ∧ cap ≤ maxLen ∧ (a = none → cap = 0) ∧ (∀ o ∈ os, (f o).length = size) ∧ Cells w.heap.size w a (os.flatMap f) := by
  rcases open_slice ht h with ⟨h0, _⟩ | ⟨b, l, c, m, n, D, Pl, hcs, hb, hl, hm, hmm, hx, hi⟩
  · injection h0 with h0; injection h0 with h1 h2 h3; subst h1 h2 h3
    exact ⟨[], rfl, Nat.le_refl _, Nat.zero_le _, fun _ => rfl, by simp, .inl rfl⟩
  · injection hcs with h0; injection h0 with h1 h2 h3; subst h1 h2 h3
    have hlm : len ≤ m := by subst hmm; split <;> omega
    have hex : ∀ i, i < len → ∃ o : α, (f o).length = size ∧ ∀ j v, (f o)[j]? = some v → w.cell? (b.add (i * size + j)) = some v := by
      intro i hil
      obtain ⟨cs', hc, ht'⟩ := hi i (by omega)
      rw [hC] at hc
      obtain ⟨_, hcl, hat⟩ := World.cells?_some hc
      obtain ⟨o, rfl⟩ := hel n cs' _ hcl ht'
      refine ⟨o, hcl, fun j v hj => ?_⟩
      have hjl : j < size := by rw [← hcl]; exact (List.getElem?_eq_some_iff.1 hj).1
      rw [← Go.Deep.add_add, hat j hjl, hj]
    obtain ⟨os, h1, h2⟩ := choose_list hex
    refine ⟨os, h1, hl, hm, (fun h => by cases h), fun o ho => ?_, ?_⟩
    · obtain ⟨i, hi⟩ := List.getElem?_of_mem ho
      exact (h2 i o hi).1
    · have hlen : ∀ o ∈ os, (f o).length = size := fun o ho => by obtain ⟨i, hi⟩ := List.getElem?_of_mem ho; exact (h2 i o hi).1
      by_cases hne : os.flatMap f = []
      · exact .inl hne
      · obtain ⟨v0, hv0⟩ : ∃ v, (os.flatMap f)[0]? = some v := by
          cases hq : os.flatMap f with
          | nil => exact absurd hq hne
          | cons v t => exact ⟨v, rfl⟩
        have hall : ∀ (i : Nat) v, (os.flatMap f)[i]? = some v → w.cell? (b.add i) = some v := fun i v hv => by
          obtain ⟨k, j, o, rfl, _, ho, hj⟩ := flat_get hlen hv
          exact (h2 k o ho).2 j v hj
        have hc0 := hall 0 v0 hv0
        have hsp : b = ⟨b.block, b.off, none⟩ := by
          have h0 : b.add 0 = b := by cases b; simp [Addr.add]
          rw [h0] at hc0; exact spot_none hc0
        refine .inr ⟨b.block, b.off, by rw [← hsp], ?_, fun i v hv => ?_⟩
        · have h0 : b.add 0 = b := by cases b; simp [Addr.add]
          rw [h0] at hc0; exact World.block_lt_of_cell? w _ hc0
        · have := hall i v hv
          rw [hsp, addr_add] at this; exact this

/-- One field of a struct that is read, if it takes one cell: its cell is read. -/
theorem one_field {H : Type} {enc : TypeId × Value → H} {P : Program} {w : World} {base : Nat} {spare : Nat → Bool} {held : Bool} {fs : Array Field} {m : Nat} {cs : List Value} {xs : List (DataW H × List MemPlace)}
    (hl : xs.length = fs.size) (hf : ∀ (i : Nat) (f : Field), fs[i]? = some f → DataW.trod enc P w base spare held m f.type ((cs.drop f.offset).take (P.cellsOf f.type)) = xs[i]?)
    (i : Nat) (f : Field) (hi : fs[i]? = some f) (hc : P.cellsOf f.type = 1) (c : Value) (hcs : cs[f.offset]? = some c) : ∃ y, DataW.trod enc P w base spare held m f.type [c] = some y := by
  have h1 := hf i f hi
  have h2 := (Array.getElem?_eq_some_iff.1 hi).1
  obtain ⟨h3, h4⟩ := List.getElem?_eq_some_iff.1 hcs
  rw [hc, List.drop_eq_getElem_cons h3, h4] at h1
  exact ⟨_, h1.trans (List.getElem?_eq_getElem (by omega))⟩
theorem int_field {H : Type} {enc : TypeId × Value → H} {P : Program} {w : World} {base : Nat} {spare : Nat → Bool} {held : Bool} {fs : Array Field} {m : Nat} {cs : List Value} {xs : List (DataW H × List MemPlace)}
    (hl : xs.length = fs.size) (hf : ∀ (i : Nat) (f : Field), fs[i]? = some f → DataW.trod enc P w base spare held m f.type ((cs.drop f.offset).take (P.cellsOf f.type)) = xs[i]?)
    (i : Nat) (f : Field) (hi : fs[i]? = some f) (hc : P.cellsOf f.type = 1) (c : Value) (hcs : cs[f.offset]? = some c) {k : IntKind} (hu : P.underlying f.type = some (.int k)) : ∃ n, c = .int k n := by
  obtain ⟨y, hy⟩ := one_field hl hf i f hi hc c hcs
  obtain ⟨n, h1, _⟩ := DataW.trod_int hu hy
  injection h1 with h1
  exact ⟨n, h1⟩

/-- One element of such a row: its cells. -/
theorem Cells.elem {α : Type} {f : α → List Value} {size : Nat} {B : Nat} {w : World} {a : Option Addr} {os : List α} (h : Cells B w a (os.flatMap f)) (hf : ∀ o ∈ os, (f o).length = size) (hs : 0 < size) {k : Nat} {o : α} (hk : os[k]? = some o) :
    ∃ b off, a = some ⟨b, off, none⟩ ∧ b < B ∧ ∀ j v, (f o)[j]? = some v → w.cell? ⟨b, off + (k * size + j), none⟩ = some v := by
  have key : ∀ (os : List α) (k : Nat), (∀ o ∈ os, (f o).length = size) → os[k]? = some o → ∀ j v, (f o)[j]? = some v → (os.flatMap f)[k * size + j]? = some v := by
    intro os
    induction os with
    | nil => intro k _ h; simp at h
    | cons u os ih =>
      intro k hf hk j v hj
      have h0 := hf u (by simp)
      rw [List.flatMap_cons]
      cases k with
      | zero =>
        simp at hk; subst hk
        have := (List.getElem?_eq_some_iff.1 hj).1
        rw [Nat.zero_mul, Nat.zero_add, List.getElem?_append_left this]; exact hj
      | succ k =>
        rw [List.getElem?_append_right (by rw [Nat.succ_mul]; omega), h0, show (k + 1) * size + j - size = k * size + j from by rw [Nat.succ_mul]; omega]
        exact ih k (fun o ho => hf o (by simp [ho])) (by simpa using hk) j v hj
  rcases h with h | ⟨b, off, h1, h2, h3⟩
  · exfalso
    have hm := List.mem_of_getElem? hk
    have hl := hf o hm
    cases hq : f o with
    | nil => rw [hq] at hl; simp at hl; omega
    | cons v t =>
      have := key os k hf hk 0 v (by rw [hq]; rfl)
      rw [h] at this; simp at this
  · exact ⟨b, off, h1, h2, fun j v hj => h3 _ _ (key os k hf hk j v hj)⟩
end Go.Proofs.Ytjoopjmcnkiieaa

/- The law's step: an act on both; the acts that came in; order. Conditions: both are there. -/
namespace Go.Proofs.Ytjoopjmcnkiieaa
open Go.RowKit Go.Lib Go.Maps
set_option linter.unusedSimpArgs false
set_option linter.unusedVariables false

/-- An act. -/
structure Act25 where
  kind : Int
  key : ByteArray
  v : Int
  hk : key.size ≤ maxLen
def Act25.cells (o : Act25) : List Value := [.int .i64 o.kind, .string o.key, .int .i64 o.v]
theorem str_field {H : Type} {enc : TypeId × Value → H} {P : Program} {w : World} {base : Nat} {spare : Nat → Bool} {held : Bool} {fs : Array Field} {m : Nat} {cs : List Value} {xs : List (DataW H × List MemPlace)}
    (hl : xs.length = fs.size) (hf : ∀ (i : Nat) (f : Field), fs[i]? = some f → DataW.trod enc P w base spare held m f.type ((cs.drop f.offset).take (P.cellsOf f.type)) = xs[i]?)
    (i : Nat) (f : Field) (hi : fs[i]? = some f) (hc : P.cellsOf f.type = 1) (c : Value) (hcs : cs[f.offset]? = some c) (hu : P.underlying f.type = some .string) : ∃ s : ByteArray, c = .string s ∧ s.size ≤ maxLen := by
  have h1 := hf i f hi
  have h2 := (Array.getElem?_eq_some_iff.1 hi).1
  obtain ⟨h3, h4⟩ := List.getElem?_eq_some_iff.1 hcs
  rw [hc, List.drop_eq_getElem_cons h3, h4] at h1
  obtain ⟨s, h5, _, h6⟩ := DataW.trod_string hu (h1.trans (List.getElem?_eq_getElem (by omega)))
  injection h5 with h5
  exact ⟨s, h5, h6⟩
theorem three_of {α : Type} {l : List α} (h : l.length = 3) : ∃ a b c, l = [a, b, c] := by
  match l, h with
  | [a, b, c], _ => exact ⟨a, b, c, rfl⟩
theorem act_of_trod {H : Type} {enc : TypeId × Value → H} {w : World} {base : Nat} {spare : Nat → Bool} {held : Bool} (n : Nat) (cs : List Value) (y : DataW H × List MemPlace) (hl : cs.length = 3)
    (h : DataW.trod enc Try.prog w base spare held n 49 cs = some y) : ∃ o : Act25, cs = o.cells := by
  obtain ⟨xs, m, _, _, _, hxl, hf⟩ := DataW.trod_struct Try.underlying49 h
  obtain ⟨c0, c1, c2, rfl⟩ := three_of hl
  obtain ⟨n0, rfl⟩ := int_field hxl hf 0 _ rfl (by kernel_rfl) c0 rfl Try.underlying3
  obtain ⟨s, rfl, hs⟩ := str_field hxl hf 1 _ rfl (by kernel_rfl) c1 rfl Try.underlying9
  obtain ⟨n2, rfl⟩ := int_field hxl hf 2 _ rfl (by kernel_rfl) c2 rfl Try.underlying2
  exact ⟨⟨n0, s, n2, hs⟩, rfl⟩
set_option maxRecDepth 100000 in
theorem actsOpen {H : Type} {enc : TypeId × Value → H} {w : World} {base : Nat} {spare : Nat → Bool} {held : Bool} {fuel : Nat} {a : Option Addr} {len cap : Nat} {x : DataW H × List MemPlace}
    (h : DataW.trod enc Try.prog w base spare held fuel 22 [.slice a len cap] = some x) : ∃ os : List Act25, os.length = len ∧ len ≤ cap ∧ cap ≤ maxLen ∧ (a = none → cap = 0) ∧ (∀ o ∈ os, (Act25.cells o).length = 3) ∧ Cells w.heap.size w a (os.flatMap Act25.cells) :=
  by
  have h1 := Try.underlying22
  have h2 : Try.prog.cellsOf 49 = 3 := by kernel_rfl
  exact open_rows Act25.cells 3 h1 h2 (fun n cs y hl hy => act_of_trod n cs y hl hy) h
def stepL (o : Act25) (l : List (ByteArray × Int)) : List (ByteArray × Int) := if o.kind = 0 then insF o.key o.v l else if o.kind = 1 then delF o.key l else l
/-- The changes' keys, the eldest ahead. -/
def stepH (o : Act25) (l : List (ByteArray × Int)) (H : List ByteArray) : List ByteArray := if o.kind = 0 then H ++ [o.key] else if o.kind = 1 then (if hasF o.key l then H ++ [o.key] else H) else H
/-- Both hold the same. -/
def TL (w : World) (B : List KB) (o tb xb : Nat) (l : List (ByteArray × Int)) (H : List ByteArray) (u : World) : Prop := LS w B o tb xb l H.reverse l H u
theorem insF_len_le (key : ByteArray) (x : Int) (l : List (ByteArray × Int)) (h : l.Pairwise ltP) : (insF key x l).length ≤ l.length + 1 := by rw [insF_length key x h]; split <;> omega
theorem delF_len_le (key : ByteArray) (l : List (ByteArray × Int)) : (delF key l).length ≤ l.length := List.length_filter_le _ _
theorem TL.len {w u : World} {B : List KB} {o tb xb : Nat} {l : List (ByteArray × Int)} {H : List ByteArray} (h : TL w B o tb xb l H u) (a : Act25) : (stepL a l).length ≤ l.length + 1 ∧ (stepH a l H).length ≤ H.length + 1 := by
  have hp := LS.pair h
  constructor
  · unfold stepL
    split
    · exact insF_len_le _ _ _ hp
    · split
      · have := delF_len_le a.key l; omega
      · omega
  · unfold stepH
    split
    · simp
    · split
      · split <;> simp
      · omega
set_option maxRecDepth 100000 in
set_option maxHeartbeats 16000000 in
theorem step_any {w u : World} {B : List KB} {o tb xb : Nat} {l : List (ByteArray × Int)} {H : List ByteArray} (h : TL w B o tb xb l H u) (ho3 : 3 ≤ o) (ho2 : o ≤ 64) (hl : l.length ≤ 1000000) (hH : H.length ≤ 1000000) (a : Act25) :
    Calls Try.prog 18 #[.pointer (some ⟨tb, 0, none⟩), .pointer (some ⟨xb, 0, none⟩), .agg #[.int .i64 a.kind, .string a.key, .int .i64 a.v]] u fun e w' => e = .returned (.bool true) ∧ TL w B o tb xb (stepL a l) (stepH a l H) w' := by
  obtain ⟨kind, key, v, hk⟩ := a
  obtain ⟨Q, hQ⟩ : ∃ Q, (fun (e : Ending) (w' : World) => e = .returned (.bool true) ∧ TL w B o tb xb (stepL ⟨kind, key, v, hk⟩ l) (stepH ⟨kind, key, v, hk⟩ l H) w') = Q := ⟨_, rfl⟩
  have HQ : Hid (∀ w', TL w B o tb xb (stepL ⟨kind, key, v, hk⟩ l) (stepH ⟨kind, key, v, hk⟩ l H) w' → Q (.returned (.bool true)) w') := Lib.hid (by intro w' hb; rw [← hQ]; exact ⟨rfl, hb⟩)
  show Calls _ _ #[_, _, .agg #[.int .i64 kind, .string key, .int .i64 v]] u _
  rw [hQ]
  have HPW := Lib.hid (LS.pair h)
  have hA := LS.alloc h [.int .i64 kind, .string key, .int .i64 v] 49
  have HB1 : Hid (l.length ≤ 1000000 ∧ H.length ≤ 1000000 ∧ H.reverse.length ≤ 1000000) := Lib.hid ⟨hl, hH, by simpa using hH⟩
  have HKEY := Lib.hid hk
  have HL := Lib.hid hA
  obtain ⟨bx, hbx⟩ : ∃ bx, u.heap.size = bx := ⟨_, rfl⟩
  have c0 := (LS.kb hA List.mem_cons_self).cell (i := 0) rfl
  have c1 := (LS.kb hA List.mem_cons_self).cell (i := 1) rfl
  have c2 := (LS.kb hA List.mem_cons_self).cell (i := 2) rfl
  simp only [] at c0 c1 c2
  clear h hQ hA hl hH
  by_cases hk0 : kind = 0
  · subst hk0
    have HEND : Hid (∀ u2, LS w ((u.heap.size, [.int .i64 0, .string key, .int .i64 v], 49) :: B) o tb xb (insF key v l) (key :: H.reverse) (insF key v l) (H ++ [key]) u2 → Q (.returned (.bool true)) u2) := Lib.hid (fun u2 h2 => HQ.out u2 (by
      have h3 := h2.less (B' := B) (fun b hb => List.mem_cons_of_mem _ hb)
      unfold TL stepL stepH
      simpa using h3))
    rw [hbx] at HL c0 c1 c2 HEND
    go_enter Try.func18, Try.ntmps18
    go_wp2_with fail
    have HST := HL.out.drew
    clear HL
    refine wp_region_noPanic ?_
    refine wp_region_J (S := fun u : World => u.cell? ⟨bx, 1, none⟩ = some (.string key) ∧ u.cell? ⟨bx, 2, none⟩ = some (.int .i64 v)) (fun _ => false) (by kernel_rfl) ?_
    generalize (u.alloc (.cells #[.int .i64 0, .string key, .int .i64 v] 49)).drew = u0 at *
    have hHeld : (fun u : World => u.cell? ⟨bx, 1, none⟩ = some (.string key) ∧ u.cell? ⟨bx, 2, none⟩ = some (.int .i64 v)) u0 := ⟨(LS.kb HST List.mem_cons_self).cell (i := 1) rfl, (LS.kb HST List.mem_cons_self).cell (i := 2) rfl⟩
    refine wpAnyJ_take0 (i := 0) (v := ?_) rfl (by kernel_rfl) (by kernel_rfl) (by kernel_rfl) (fun _ _ _ h => h) (Or.inl ⟨by rfl, ?_⟩) ?_
    rotate_left
    focus ((intro w hSw; clear hSw; go_simp); try with_reducible rfl)
    (try simp only [Act.put, List.getElem_toArray, List.getElem_cons_zero, List.getElem_cons_succ, List.setIfInBounds_toArray, List.set_cons_zero, List.set_cons_succ])
    refine wpAnyJ_take0 (i := 1) (v := ?_) rfl (by kernel_rfl) (by kernel_rfl) (by kernel_rfl) (fun _ _ _ h => h) (Or.inl ⟨by rfl, ?_⟩) ?_
    rotate_left
    focus ((intro w hSw; clear hSw; go_simp); try with_reducible rfl)
    (try simp only [Act.put, List.getElem_toArray, List.getElem_cons_zero, List.getElem_cons_succ, List.setIfInBounds_toArray, List.set_cons_zero, List.set_cons_succ])
    refine wpAnyJ_take (i := 2) (v := ?_) rfl (by kernel_rfl) (by kernel_rfl) (by kernel_rfl) (by kernel_rfl) (fun _ _ _ h => h) (Or.inl ⟨by rfl, ?_⟩) (by assumption) ?_
    rotate_left
    focus ((intro w hSw; (try dsimp only at hSw); go_simp); try with_reducible rfl)
    (try simp only [Act.put, List.getElem_toArray, List.getElem_cons_zero, List.getElem_cons_succ, List.setIfInBounds_toArray, List.set_cons_zero, List.set_cons_succ])
    refine wpAnyJ_take0 (i := 3) (v := ?_) rfl (by kernel_rfl) (by kernel_rfl) (by kernel_rfl) (fun _ _ _ h => h) (Or.inl ⟨by rfl, ?_⟩) ?_
    rotate_left
    focus ((intro w hSw; clear hSw; go_simp); try with_reducible rfl)
    (try simp only [Act.put, List.getElem_toArray, List.getElem_cons_zero, List.getElem_cons_succ, List.setIfInBounds_toArray, List.set_cons_zero, List.set_cons_succ])
    refine wpAnyJ_take (i := 4) (v := ?_) rfl (by kernel_rfl) (by kernel_rfl) (by kernel_rfl) (by kernel_rfl) (fun _ _ _ h => h) (Or.inl ⟨by rfl, ?_⟩) (by assumption) ?_
    rotate_left
    focus ((intro w hSw; (try dsimp only at hSw); go_simp); try with_reducible rfl)
    (try simp only [Act.put, List.getElem_toArray, List.getElem_cons_zero, List.getElem_cons_succ, List.setIfInBounds_toArray, List.set_cons_zero, List.set_cons_succ])
    refine wpAnyJ_take0 (i := 6) (v := ?_) rfl (by kernel_rfl) (by kernel_rfl) (by kernel_rfl) (fun _ _ _ h => h) (Or.inl ⟨by rfl, ?_⟩) ?_
    rotate_left
    focus ((intro w hSw; clear hSw; go_simp); try with_reducible rfl)
    (try simp only [Act.put, List.getElem_toArray, List.getElem_cons_zero, List.getElem_cons_succ, List.setIfInBounds_toArray, List.set_cons_zero, List.set_cons_succ])
    refine wpAnyJ_take0 (i := 7) (v := ?_) rfl (by kernel_rfl) (by kernel_rfl) (by kernel_rfl) (fun _ _ _ h => h) (Or.inl ⟨by rfl, ?_⟩) ?_
    rotate_left
    focus ((intro w hSw; clear hSw; go_simp); try with_reducible rfl)
    (try simp only [Act.put, List.getElem_toArray, List.getElem_cons_zero, List.getElem_cons_succ, List.setIfInBounds_toArray, List.set_cons_zero, List.set_cons_succ])
    refine wpAnyJ_take (i := 8) (v := ?_) rfl (by kernel_rfl) (by kernel_rfl) (by kernel_rfl) (by kernel_rfl) (fun _ _ _ h => h) (Or.inl ⟨by rfl, ?_⟩) (by assumption) ?_
    rotate_left
    focus ((intro w hSw; (try dsimp only at hSw); go_simp); try with_reducible rfl)
    (try simp only [Act.put, List.getElem_toArray, List.getElem_cons_zero, List.getElem_cons_succ, List.setIfInBounds_toArray, List.set_cons_zero, List.set_cons_succ])
    refine wpAnyJ_take0 (i := 9) (v := ?_) rfl (by kernel_rfl) (by kernel_rfl) (by kernel_rfl) (fun _ _ _ h => h) (Or.inl ⟨by rfl, ?_⟩) ?_
    rotate_left
    focus ((intro w hSw; clear hSw; go_simp); try with_reducible rfl)
    (try simp only [Act.put, List.getElem_toArray, List.getElem_cons_zero, List.getElem_cons_succ, List.setIfInBounds_toArray, List.set_cons_zero, List.set_cons_succ])
    refine wpAnyJ_take (i := 10) (v := ?_) rfl (by kernel_rfl) (by kernel_rfl) (by kernel_rfl) (by kernel_rfl) (fun _ _ _ h => h) (Or.inl ⟨by rfl, ?_⟩) (by assumption) ?_
    rotate_left
    focus ((intro w hSw; (try dsimp only at hSw); go_simp); try with_reducible rfl)
    (try simp only [Act.put, List.getElem_toArray, List.getElem_cons_zero, List.getElem_cons_succ, List.setIfInBounds_toArray, List.set_cons_zero, List.set_cons_succ])
    refine wpAnyJ_ready (rs := [5]) (by kernel_rfl) (by simp) ?_
    refine AllReadyJ.cons rfl (fun KK hKK => ?_) AllReadyJ.nil
    go_simp
    go_at_call 15
    refine (LS.tput HST ho3 ho2 HB1.out.1 HB1.out.2.2 HKEY.out).mono ?_
    rintro e u1 ⟨rfl, HST2⟩
    clear HST
    have HST := HST2
    clear HST2
    have hH2 : (fun u : World => u.cell? ⟨bx, 1, none⟩ = some (.string key) ∧ u.cell? ⟨bx, 2, none⟩ = some (.int .i64 v)) u1 := ⟨(LS.kb HST List.mem_cons_self).cell (i := 1) rfl, (LS.kb HST List.mem_cons_self).cell (i := 2) rfl⟩
    refine hKK.out _ _ (fun _ _ => hH2) ?_
    clear hKK KK
    clear hHeld
    have hHeld := hH2
    clear hH2 u0
    revert u1
    intro u0 HST hHeld
    (try simp only [Act.put, List.getElem_toArray, List.getElem_cons_zero, List.getElem_cons_succ, List.setIfInBounds_toArray, List.set_cons_zero, List.set_cons_succ])
    refine wpAnyJ_ready (rs := [11]) (by kernel_rfl) (by simp) ?_
    refine AllReadyJ.cons rfl (fun KK hKK => ?_) AllReadyJ.nil
    go_simp
    go_at_call 33
    refine (LS.rput HST HPW.out HB1.out.1 HB1.out.2.1).mono ?_
    rintro e u1 ⟨rfl, HST2⟩
    clear HST
    have HST := HST2
    clear HST2
    have hH2 : (fun u : World => u.cell? ⟨bx, 1, none⟩ = some (.string key) ∧ u.cell? ⟨bx, 2, none⟩ = some (.int .i64 v)) u1 := ⟨(LS.kb HST List.mem_cons_self).cell (i := 1) rfl, (LS.kb HST List.mem_cons_self).cell (i := 2) rfl⟩
    refine hKK.out _ _ (fun _ _ => hH2) ?_
    clear hKK KK
    clear hHeld
    have hHeld := hH2
    clear hH2 u0
    revert u1
    intro u0 HST hHeld
    (try simp only [Act.put, List.getElem_toArray, List.getElem_cons_zero, List.getElem_cons_succ, List.setIfInBounds_toArray, List.set_cons_zero, List.set_cons_succ])
    refine wpAnyJ_take0 (i := 12) (v := ?_) rfl (by kernel_rfl) (by kernel_rfl) (by kernel_rfl) (fun _ _ _ h => h) (Or.inl ⟨by rfl, ?_⟩) ?_
    rotate_left
    focus ((intro w hSw; clear hSw; go_simp); try with_reducible rfl)
    (try simp only [Act.put, List.getElem_toArray, List.getElem_cons_zero, List.getElem_cons_succ, List.setIfInBounds_toArray, List.set_cons_zero, List.set_cons_succ])
    refine wpAnyJ_take0 (i := 13) (v := ?_) rfl (by kernel_rfl) (by kernel_rfl) (by kernel_rfl) (fun _ _ _ h => h) (Or.inl ⟨by rfl, ?_⟩) ?_
    rotate_left
    focus ((intro w hSw; clear hSw; go_simp); try with_reducible rfl)
    (try simp only [Act.put, List.getElem_toArray, List.getElem_cons_zero, List.getElem_cons_succ, List.setIfInBounds_toArray, List.set_cons_zero, List.set_cons_succ])
    refine wpAnyJ_done (by kernel_rfl) ?_ _
    refine NoPanic.normal ?_
    go_wp2_with fail
    exact HEND.out _ HST
  · have hk0' : (kind == 0) = false := by simpa using hk0
    by_cases hk1 : kind = 1
    · subst hk1
      obtain ⟨was, hwas⟩ : ∃ was, hasF key l = was := ⟨_, rfl⟩
      have HW := Lib.hid hwas
      have HEND : Hid (∀ u2, LS w ((u.heap.size, [.int .i64 1, .string key, .int .i64 v], 49) :: B) o tb xb (delF key l) (if was then key :: H.reverse else H.reverse) (delF key l) (if was then H ++ [key] else H) u2 → Q (.returned (.bool true)) u2) := Lib.hid (fun u2 h2 => HQ.out u2 (by
        have h3 := h2.less (B' := B) (fun b hb => List.mem_cons_of_mem _ hb)
        unfold TL stepL stepH
        simp only [hwas]
        cases was <;> simpa using h3))
      rw [hbx] at HL c0 c1 c2 HEND
      clear hwas
      go_enter Try.func18, Try.ntmps18
      go_wp2_with fail
      have HST := HL.out.drew
      clear HL
      refine wp_region_noPanic ?_
      refine wp_region_J (S := fun u : World => u.cell? ⟨bx, 1, none⟩ = some (.string key) ∧ u.cell? ⟨bx, 2, none⟩ = some (.int .i64 v)) (fun _ => false) (by kernel_rfl) ?_
      generalize (u.alloc (.cells #[.int .i64 1, .string key, .int .i64 v] 49)).drew = u0 at *
      have hHeld : (fun u : World => u.cell? ⟨bx, 1, none⟩ = some (.string key) ∧ u.cell? ⟨bx, 2, none⟩ = some (.int .i64 v)) u0 := ⟨(LS.kb HST List.mem_cons_self).cell (i := 1) rfl, (LS.kb HST List.mem_cons_self).cell (i := 2) rfl⟩
      refine wpAnyJ_take0 (i := 0) (v := ?_) rfl (by kernel_rfl) (by kernel_rfl) (by kernel_rfl) (fun _ _ _ h => h) (Or.inl ⟨by rfl, ?_⟩) ?_
      rotate_left
      focus ((intro w hSw; clear hSw; go_simp); try with_reducible rfl)
      (try simp only [Act.put, List.getElem_toArray, List.getElem_cons_zero, List.getElem_cons_succ, List.setIfInBounds_toArray, List.set_cons_zero, List.set_cons_succ])
      refine wpAnyJ_take0 (i := 1) (v := ?_) rfl (by kernel_rfl) (by kernel_rfl) (by kernel_rfl) (fun _ _ _ h => h) (Or.inl ⟨by rfl, ?_⟩) ?_
      rotate_left
      focus ((intro w hSw; clear hSw; go_simp); try with_reducible rfl)
      (try simp only [Act.put, List.getElem_toArray, List.getElem_cons_zero, List.getElem_cons_succ, List.setIfInBounds_toArray, List.set_cons_zero, List.set_cons_succ])
      refine wpAnyJ_take (i := 2) (v := ?_) rfl (by kernel_rfl) (by kernel_rfl) (by kernel_rfl) (by kernel_rfl) (fun _ _ _ h => h) (Or.inl ⟨by rfl, ?_⟩) (by assumption) ?_
      rotate_left
      focus ((intro w hSw; (try dsimp only at hSw); go_simp); try with_reducible rfl)
      (try simp only [Act.put, List.getElem_toArray, List.getElem_cons_zero, List.getElem_cons_succ, List.setIfInBounds_toArray, List.set_cons_zero, List.set_cons_succ])
      refine wpAnyJ_take0 (i := 4) (v := ?_) rfl (by kernel_rfl) (by kernel_rfl) (by kernel_rfl) (fun _ _ _ h => h) (Or.inl ⟨by rfl, ?_⟩) ?_
      rotate_left
      focus ((intro w hSw; clear hSw; go_simp); try with_reducible rfl)
      (try simp only [Act.put, List.getElem_toArray, List.getElem_cons_zero, List.getElem_cons_succ, List.setIfInBounds_toArray, List.set_cons_zero, List.set_cons_succ])
      refine wpAnyJ_take0 (i := 5) (v := ?_) rfl (by kernel_rfl) (by kernel_rfl) (by kernel_rfl) (fun _ _ _ h => h) (Or.inl ⟨by rfl, ?_⟩) ?_
      rotate_left
      focus ((intro w hSw; clear hSw; go_simp); try with_reducible rfl)
      (try simp only [Act.put, List.getElem_toArray, List.getElem_cons_zero, List.getElem_cons_succ, List.setIfInBounds_toArray, List.set_cons_zero, List.set_cons_succ])
      refine wpAnyJ_take (i := 6) (v := ?_) rfl (by kernel_rfl) (by kernel_rfl) (by kernel_rfl) (by kernel_rfl) (fun _ _ _ h => h) (Or.inl ⟨by rfl, ?_⟩) (by assumption) ?_
      rotate_left
      focus ((intro w hSw; (try dsimp only at hSw); go_simp); try with_reducible rfl)
      (try simp only [Act.put, List.getElem_toArray, List.getElem_cons_zero, List.getElem_cons_succ, List.setIfInBounds_toArray, List.set_cons_zero, List.set_cons_succ])
      refine wpAnyJ_ready (rs := [3]) (by kernel_rfl) (by simp) ?_
      refine AllReadyJ.cons rfl (fun KK hKK => ?_) AllReadyJ.nil
      go_simp
      go_at_call 26
      refine (LS.tdel HST ho3 ho2 HB1.out.1 HB1.out.2.2 HKEY.out).mono ?_
      rintro e u1 ⟨rfl, HST2⟩
      rw [HW.out] at HST2
      rw [HW.out]
      clear HST
      have HST := HST2
      clear HST2
      have hH2 : (fun u : World => u.cell? ⟨bx, 1, none⟩ = some (.string key) ∧ u.cell? ⟨bx, 2, none⟩ = some (.int .i64 v)) u1 := ⟨(LS.kb HST List.mem_cons_self).cell (i := 1) rfl, (LS.kb HST List.mem_cons_self).cell (i := 2) rfl⟩
      refine hKK.out _ _ (fun _ _ => hH2) ?_
      clear hKK KK
      clear hHeld
      have hHeld := hH2
      clear hH2 u0
      revert u1
      intro u0 HST hHeld
      (try simp only [Act.put, List.getElem_toArray, List.getElem_cons_zero, List.getElem_cons_succ, List.setIfInBounds_toArray, List.set_cons_zero, List.set_cons_succ])
      refine wpAnyJ_ready (rs := [7]) (by kernel_rfl) (by simp) ?_
      refine AllReadyJ.cons rfl (fun KK hKK => ?_) AllReadyJ.nil
      go_simp
      go_at_call 34
      refine (LS.rdel HST HPW.out HB1.out.1 HB1.out.2.1).mono ?_
      rintro e u1 ⟨rfl, HST2⟩
      rw [HW.out] at HST2
      rw [HW.out]
      clear HST
      have HST := HST2
      clear HST2
      have hH2 : (fun u : World => u.cell? ⟨bx, 1, none⟩ = some (.string key) ∧ u.cell? ⟨bx, 2, none⟩ = some (.int .i64 v)) u1 := ⟨(LS.kb HST List.mem_cons_self).cell (i := 1) rfl, (LS.kb HST List.mem_cons_self).cell (i := 2) rfl⟩
      refine hKK.out _ _ (fun _ _ => hH2) ?_
      clear hKK KK
      clear hHeld
      have hHeld := hH2
      clear hH2 u0
      revert u1
      intro u0 HST hHeld
      (try simp only [Act.put, List.getElem_toArray, List.getElem_cons_zero, List.getElem_cons_succ, List.setIfInBounds_toArray, List.set_cons_zero, List.set_cons_succ])
      refine wpAnyJ_take0 (i := 8) (v := ?_) rfl (by kernel_rfl) (by kernel_rfl) (by kernel_rfl) (fun _ _ _ h => h) (Or.inl ⟨by rfl, ?_⟩) ?_
      rotate_left
      focus ((intro w hSw; clear hSw; go_simp); try with_reducible rfl)
      (try simp only [Act.put, List.getElem_toArray, List.getElem_cons_zero, List.getElem_cons_succ, List.setIfInBounds_toArray, List.set_cons_zero, List.set_cons_succ])
      refine wpAnyJ_take0 (i := 9) (v := ?_) rfl (by kernel_rfl) (by kernel_rfl) (by kernel_rfl) (fun _ _ _ h => h) (Or.inl ⟨by rfl, ?_⟩) ?_
      rotate_left
      focus ((intro w hSw; clear hSw; go_simp); try with_reducible rfl)
      (try simp only [Act.put, List.getElem_toArray, List.getElem_cons_zero, List.getElem_cons_succ, List.setIfInBounds_toArray, List.set_cons_zero, List.set_cons_succ])
      refine wpAnyJ_done (by kernel_rfl) ?_ _
      refine NoPanic.normal ?_
      go_wp2_with fail
      exact HEND.out _ HST
    · have hk1' : (kind == 1) = false := by simpa using hk1
      have HEND : Hid (∀ u2, LS w ((u.heap.size, [.int .i64 kind, .string key, .int .i64 v], 49) :: B) o tb xb l H.reverse l H u2 → Q (.returned (.bool true)) u2) := Lib.hid (fun u2 h2 => HQ.out u2 (by
        have h3 := h2.less (B' := B) (fun b hb => List.mem_cons_of_mem _ hb)
        unfold TL stepL stepH
        rw [if_neg hk0, if_neg hk1, if_neg hk0, if_neg hk1]
        exact h3))
      obtain ⟨gv, hgv⟩ : ∃ gv, (getF key l).getD 0 = gv := ⟨_, rfl⟩
      obtain ⟨gb, hgb⟩ : ∃ gb, (getF key l).isSome = gb := ⟨_, rfl⟩
      have HGET : Hid (∀ u2, LS w ((bx, [.int .i64 kind, .string key, .int .i64 v], 49) :: B) o tb xb l H.reverse l H u2 → Calls Try.prog 25 #[.pointer (some ⟨tb, 0, none⟩), .string key] u2 fun e w' => e = .returned (.tuple #[.int .i64 gv, .bool gb]) ∧ LS w ((bx, [.int .i64 kind, .string key, .int .i64 v], 49) :: B) o tb xb l H.reverse l H w') := Lib.hid (fun u2 h2 => by have := LS.tget (key := key) h2 ho2; rw [hgv, hgb] at this; exact this)
      have HRGET : Hid (∀ u2, LS w ((bx, [.int .i64 kind, .string key, .int .i64 v], 49) :: B) o tb xb l H.reverse l H u2 → Calls Try.prog 35 #[.pointer (some ⟨xb, 0, none⟩), .string key] u2 fun e w' => e = .returned (.tuple #[.int .i64 gv, .bool gb]) ∧ u2 = w') := Lib.hid (fun u2 h2 => by have := LS.rget (key := key) h2 HB1.out.1; rw [hgv, hgb] at this; exact this)
      rw [hbx] at HL c0 c1 c2 HEND
      clear hgv hgb hk0 hk1
      have hB := Lib.hid hbx
      clear hbx
      go_enter Try.func18, Try.ntmps18
      obtain rfl := hB.out
      clear hB
      go_wp2_with (first
        | (go_at_call 25; refine (HGET.out _ HL.out).mono ?_; rintro e w2 ⟨rfl, h2⟩; have HL2 := Lib.hid h2; have d1 := (LS.kb h2 List.mem_cons_self).cell (i := 1) rfl; simp only [] at d1; clear h2 HGET c0 c1 c2)
        | (go_at_call 35; refine (HRGET.out _ HL2.out).mono ?_; rintro e w3 ⟨rfl, rfl⟩; clear HRGET))
      all_goals exact HEND.out _ HL2.out
theorem wrap_nat (n : Int) : ∃ q : Nat, IntKind.u64.wrap n = (q : Int) := by
  have h : 0 ≤ IntKind.u64.wrap n := by
    simp only [IntKind.wrap, IntKind.signed, IntKind.bits]
    exact Int.emod_nonneg _ (by decide)
  exact ⟨(IntKind.u64.wrap n).toNat, by omega⟩
/-- Which order the law takes. -/
def ordN (n : Int) : Nat := 3 + (IntKind.u64.wrap n).toNat % 62
theorem ordN_ok (n : Int) : 3 ≤ ordN n ∧ ordN n ≤ 64 := by unfold ordN; omega
theorem order_any (n : Int) (w : World) : Calls Try.prog 14 #[.int .i64 n] w fun e w' => e = .returned (.int .i64 (ordN n)) ∧ w = w' := by
  obtain ⟨q, hq⟩ := wrap_nat n
  have ho : (ordN n : Int) = 3 + ((q % 62 : Nat) : Int) := by unfold ordN; rw [hq]; simp
  rw [ho]
  have hr : q % 62 < 62 := Nat.mod_lt _ (by decide)
  have h1 : (q : Int).tmod 62 = ((q % 62 : Nat) : Int) := by rw [Int.tmod_eq_emod_of_nonneg (by omega)]; omega
  generalize q % 62 = r at *
  have h2 : IntKind.u64.wrap (r : Int) = r := by simp only [IntKind.wrap, IntKind.signed, IntKind.bits]; exact Int.emod_eq_of_lt (by omega) (by omega)
  have h3 : IntKind.i64.wrap (r : Int) = r := IntWalk.i64_in _ (by omega)
  have h4 : IntKind.i64.wrap (3 + (r : Int)) = 3 + r := IntWalk.i64_in _ (by omega)
  clear ho
  go_enter Try.func14, Try.ntmps14
  go_wp2_with fail
  go_ret
  exact ⟨rfl, rfl⟩
end Go.Proofs.Ytjoopjmcnkiieaa

/- What is held may be strengthened on the way. Conditions: none. -/
namespace Go.Proofs.Ytjoopjmcnkiieaa
section
variable {P : Program} {ops : Array Oper} {Q : Exit → Act → World → Prop} {md : Region.Mode} {S : World → Prop} {tl : Nat → Bool}
theorem wpAnyJ_more {S' : World → Prop} (h : ∀ w, S' w → S w) (ht : ∀ i, tl i = false) :
    ∀ (fuel : Nat) (listed : Array Bool) (a : Act) (w : World), S' w → wpAnyJ P md ops Q S' tl fuel listed a w → wpAnyJ P md ops Q S tl fuel listed a w
  | 0, _, _, _, _, hh => hh
  | fuel + 1, _, _, _, hw, hh => ⟨hh.1, fun i hi => wpOp_mono (fun a' w' h' => ⟨fun _ _ => h _ (h'.1 (ht i) hw), wpAnyJ_more h ht fuel _ a' w' (h'.1 (ht i) hw) h'.2⟩) (hh.2 i hi)⟩
end
end Go.Proofs.Ytjoopjmcnkiieaa

/- grown, and the laws IndexDoes, IndexStamps. Conditions: the acts can be read. -/
namespace Go.Proofs.Ytjoopjmcnkiieaa
open Go.RowKit Go.Lib Go.Maps
set_option linter.unusedSimpArgs false
set_option linter.unusedVariables false

def runS (os : List Act25) : List (ByteArray × Int) × List ByteArray := os.foldl (fun s o => (stepL o s.1, stepH o s.1 s.2)) ([], [])
theorem runS_succ {os : List Act25} {j : Nat} {o : Act25} (h : os[j]? = some o) : runS (os.take (j + 1)) = (stepL o (runS (os.take j)).1, stepH o (runS (os.take j)).1 (runS (os.take j)).2) := by
  unfold runS
  rw [take_succ_some h, List.foldl_append]
  rfl
/-- After so many acts. -/
structure Grown (W : World) (o tb xb : Nat) (os : List Act25) (j : Nat) (u : World) : Prop where
  tl : TL W [] o tb xb (runS (os.take j)).1 (runS (os.take j)).2 u
  l1 : (runS (os.take j)).1.length ≤ j
  l2 : (runS (os.take j)).2.length ≤ j
theorem Grown.next {W u u' : World} {o tb xb j : Nat} {os : List Act25} {a : Act25} (h : Grown W o tb xb os j u) (ha : os[j]? = some a) (ht : TL W [] o tb xb (stepL a (runS (os.take j)).1) (stepH a (runS (os.take j)).1 (runS (os.take j)).2) u') : Grown W o tb xb os (j + 1) u' := by
  have hl := h.tl.len a
  have h1 := h.l1
  have h2 := h.l2
  refine ⟨by rw [runS_succ ha]; exact ht, ?_, ?_⟩
  · rw [runS_succ ha]; simp only []; omega
  · rw [runS_succ ha]; simp only []; omega
theorem Grown.step {W u : World} {o tb xb j : Nat} {os : List Act25} {a : Act25} (ho3 : 3 ≤ o) (ho2 : o ≤ 64) (hj : j ≤ 1000) (h : Grown W o tb xb os j u) (ha : os[j]? = some a) :
    Calls Try.prog 18 #[.pointer (some ⟨tb, 0, none⟩), .pointer (some ⟨xb, 0, none⟩), .agg #[.int .i64 a.kind, .string a.key, .int .i64 a.v]] u fun e w' => e = .returned (.bool true) ∧ Grown W o tb xb os (j + 1) w' := by
  have h1 := h.l1
  have h2 := h.l2
  refine (step_any h.tl ho3 ho2 (by omega) (by omega) a).mono ?_
  rintro e w' ⟨rfl, ht⟩
  exact ⟨rfl, h.next ha ht⟩
theorem grown_start {w u : World} {o tb : Nat} {F : Nat → Nat} {os : List Act25} (h : IsTree u o tb F [] []) (hb : Below w.heap.size w u) (hlow : ∀ k, k < w.heap.size → F k = 0) :
    Grown w o tb u.heap.size os 0 (u.alloc (.cells #[.slice none 0 0, .slice none 0 0, .slice none 0 0] 46)) := by
  refine ⟨?_, Nat.le_refl _, Nat.le_refl _⟩
  rw [List.take_zero]
  exact ls_start h hb hlow
def GrownP (n : Int) (os : List Act25) (W : World) (e : Ending) (w' : World) : Prop :=
  ∃ tb xb, e = .returned (.tuple #[.pointer (some ⟨tb, 0, none⟩), .pointer (some ⟨xb, 0, none⟩), .bool true]) ∧ Grown W (ordN n) tb xb os (min os.length 500) w'
/-- Elements of the acts' slice, behind whatever new memory. -/
theorem act_cells {W : World} {a0 : Option Addr} {os : List Act25} (hrow : Cells W.heap.size W a0 (os.flatMap Act25.cells)) {j : Nat} {o : Act25} (ho : os[j]? = some o) :
    ∃ b off, a0 = some ⟨b, off, none⟩ ∧ ∀ u, Below W.heap.size W u → u.cell? ⟨b, off + j * 3, none⟩ = some (.int .i64 o.kind) ∧ u.cell? ⟨b, off + j * 3 + 1, none⟩ = some (.string o.key) ∧ u.cell? ⟨b, off + j * 3 + 2, none⟩ = some (.int .i64 o.v) := by
  obtain ⟨b, off, rfl, hb, hc⟩ := Cells.elem (size := 3) hrow (fun _ _ => rfl) (by omega) ho
  refine ⟨b, off, rfl, fun u hu => ⟨?_, ?_, ?_⟩⟩
  · rw [hu.cell hb, show off + j * 3 = off + (j * 3 + 0) from by omega]; exact hc 0 _ rfl
  · rw [hu.cell hb, show off + j * 3 + 1 = off + (j * 3 + 1) from by omega]; exact hc 1 _ rfl
  · rw [hu.cell hb, show off + j * 3 + 2 = off + (j * 3 + 2) from by omega]; exact hc 2 _ rfl
set_option maxRecDepth 100000 in
set_option maxHeartbeats 16000000 in
theorem grown_any (n : Int) (a0 : Option Addr) (cap0 : Nat) (os : List Act25) (W : World) (hrow : Cells W.heap.size W a0 (os.flatMap Act25.cells)) :
    Calls Try.prog 9 #[.int .i64 n, .slice a0 os.length cap0] W (GrownP n os W) := by
  obtain ⟨Q, hQ⟩ : ∃ Q, GrownP n os W = Q := ⟨_, rfl⟩
  have HQ := Lib.hid hQ
  rw [hQ]
  have HROW := Lib.hid hrow
  have HO := Lib.hid (order_any n W)
  obtain ⟨ho3, ho2⟩ := ordN_ok n
  have HG : Hid (∀ tb xb u, Grown W (ordN n) tb xb os (min os.length 500) u → Q (.returned (.tuple #[.pointer (some ⟨tb, 0, none⟩), .pointer (some ⟨xb, 0, none⟩), .bool true])) u) := Lib.hid (fun tb xb u h => by rw [← HQ.out]; exact ⟨tb, xb, rfl, h⟩)
  generalize ordN n = o at *
  have HN := Lib.hid (new_any ho3 ho2 W)
  obtain ⟨ln, hln⟩ : ∃ ln, os.length = ln := ⟨_, rfl⟩
  rw [hln] at HG ⊢
  have HLN := Lib.hid hln
  clear hQ hrow hln
  go_enter Try.func9, Try.ntmps9
  go_wp2_with (first
    | (go_at_call 14; refine HO.out.mono ?_; clear HO; rintro e w1 ⟨rfl, rfl⟩)
    | (go_at_call 13; refine HN.out.mono ?_; clear HN; rintro e w1 ⟨tb, F, rfl, ht, hb, hlow⟩; have HG0 := Lib.hid (grown_start (os := os) ht hb hlow); clear ht hb hlow))
  obtain ⟨xb, hxb⟩ : ∃ xb, w1.heap.size = xb := ⟨_, rfl⟩
  rw [hxb] at HG0 ⊢
  generalize w1.alloc (.cells #[.slice none 0 0, .slice none 0 0, .slice none 0 0] 46) = w2 at *
  clear hxb
  go_loopw [10] (fun iv wr => ∃ j : Nat, iv = .int .i64 j ∧ j ≤ ln ∧ j ≤ 500 ∧ Hid (Grown W o tb xb os j wr)) (fun iv _ => ln - (intOf iv).toNat)
  case atStart => exact ⟨0, rfl, by omega, by omega, HG0⟩
  case round =>
    clear HG0
    obtain ⟨j, rfl, hj, hj5, HT⟩ := hrel
    have hj0 : (0 : Int) ≤ j := by omega
    by_cases hlt : j < ln
    · have hlt' : (j : Int) < ln := by omega
      by_cases hl5 : j < 500
      · have hl5' : (j : Int) < 500 := by omega
        obtain ⟨a, ha⟩ : ∃ a, os[j]? = some a := get_some (by have := HLN.out; omega)
        obtain ⟨b, off, rfl, hc⟩ := act_cells HROW.out ha
        obtain ⟨c0, c1, c2⟩ := hc wr HT.out.tl.bel
        have HSTEP := Lib.hid (Grown.step ho3 ho2 (by omega) HT.out ha)
        have hj1 : IntKind.i64.wrap ((j : Int) + 1) = (j : Int) + 1 := IntWalk.i64_in _ (by omega)
        clear ha hc
        go_wp2_with (go_at_call 18; refine HSTEP.out.mono ?_; clear HSTEP; rintro e w3 ⟨rfl, h3⟩; have HT3 := Lib.hid h3; clear h3)
        go_roundw
        case rel => exact ⟨j + 1, by go_num, by omega, by omega, HT3⟩
        case measure => simp [intOf]; omega
      · have hl5' : ¬ (j : Int) < 500 := by omega
        have HE := Lib.hid (HG.out tb xb wr (by rw [show min ln 500 = j from by omega]; exact HT.out))
        go_wp2_with fail
        go_ret3
        exact HE.out
    · have hlt' : ¬ (j : Int) < ln := by omega
      have HE := Lib.hid (HG.out tb xb wr (by rw [show min ln 500 = j from by omega]; exact HT.out))
      go_wp2_with fail
      go_ret3
      exact HE.out
set_option maxRecDepth 100000 in
set_option maxHeartbeats 16000000 in
theorem does_any (most : Int) (a0 : Option Addr) (cap0 : Nat) (os : List Act25) (W : World) (hrow : Cells W.heap.size W a0 (os.flatMap Act25.cells)) :
    Calls Try.prog 5 #[.int .i64 most, .slice a0 os.length cap0] W fun e w' => e = .returned (.bool true) ∧ Below W.heap.size W w' := by
  obtain ⟨Q, hQ⟩ : ∃ Q, (fun (e : Ending) (w' : World) => e = .returned (.bool true) ∧ Below W.heap.size W w') = Q := ⟨_, rfl⟩
  have HQ : Hid (∀ u, Below W.heap.size W u → Q (.returned (.bool true)) u) := Lib.hid (fun u hb => by rw [← hQ]; exact ⟨rfl, hb⟩)
  rw [hQ]
  have HROW := Lib.hid hrow
  obtain ⟨ln, hln⟩ : ∃ ln, os.length = ln := ⟨_, rfl⟩
  rw [hln]
  have HLN := Lib.hid hln
  have HW := Lib.hid works_any
  clear hQ hrow hln
  have HWE : Hid (∀ u, Below W.heap.size W u → Calls Try.prog 12 #[] u fun e w' => e = .returned (.bool true) ∧ Below W.heap.size W w') := Lib.hid (fun u hb => (HW.out u).mono (by rintro e w' ⟨rfl, h2⟩; exact ⟨rfl, hb.trans (h2.mono hb.size)⟩))
  clear HW
  by_cases hm : 3 ≤ most ∧ most ≤ 64
  · obtain ⟨hm3, hm2⟩ := hm
    obtain ⟨o, rfl⟩ : ∃ o : Nat, most = o := ⟨most.toNat, by omega⟩
    have ho3 : 3 ≤ o := by omega
    have ho2 : o ≤ 64 := by omega
    have HN := Lib.hid (new_any ho3 ho2 W)
    go_enter Try.func5, Try.ntmps5
    go_wp2_with (go_at_call 13; refine HN.out.mono ?_; clear HN; rintro e w1 ⟨tb, F, rfl, ht, hb, hlow⟩; have HG0 := Lib.hid (grown_start (os := os) ht hb hlow); clear ht hb hlow)
    obtain ⟨xb, hxb⟩ : ∃ xb, w1.heap.size = xb := ⟨_, rfl⟩
    rw [hxb] at HG0 ⊢
    generalize w1.alloc (.cells #[.slice none 0 0, .slice none 0 0, .slice none 0 0] 46) = w2 at *
    clear hxb
    go_loopw [8] (fun iv wr => ∃ j : Nat, iv = .int .i64 j ∧ j ≤ ln ∧ j ≤ 500 ∧ Hid (Grown W o tb xb os j wr)) (fun iv _ => ln - (intOf iv).toNat)
    case atStart => exact ⟨0, rfl, by omega, by omega, HG0⟩
    case round =>
      clear HG0
      obtain ⟨j, rfl, hj, hj5, HT⟩ := hrel
      have hj0 : (0 : Int) ≤ j := by omega
      have HEND : Hid (Calls Try.prog 12 #[] wr fun e w' => e = .returned (.bool true) ∧ Below W.heap.size W w') := Lib.hid (HWE.out wr HT.out.tl.bel)
      by_cases hlt : j < ln
      · have hlt' : (j : Int) < ln := by omega
        by_cases hl5 : j < 500
        · have hl5' : (j : Int) < 500 := by omega
          obtain ⟨a, ha⟩ : ∃ a, os[j]? = some a := get_some (by have := HLN.out; omega)
          obtain ⟨b, off, rfl, hc⟩ := act_cells HROW.out ha
          have HC := Lib.hid hc
          have HSTEP := Lib.hid (fun u (h : Grown W o tb xb os j u) => Grown.step ho3 ho2 (by omega) h ha)
          have hj1 : IntKind.i64.wrap ((j : Int) + 1) = (j : Int) + 1 := IntWalk.i64_in _ (by omega)
          clear ha hc HEND
          go_wp2_with fail
          refine wp_region_noPanic ?_
          refine wp_region_J (S := fun u : World => u.cell? ⟨b, off + j * 3, none⟩ = some (.int .i64 a.kind) ∧ u.cell? ⟨b, off + j * 3 + 1, none⟩ = some (.string a.key) ∧ u.cell? ⟨b, off + j * 3 + 2, none⟩ = some (.int .i64 a.v)) (fun _ => false) (by kernel_rfl) ?_
          have HT1 : Hid (Grown W o tb xb os j wr.drew) := Lib.hid ⟨LS.drew HT.out.tl, HT.out.l1, HT.out.l2⟩
          clear HT
          generalize wr.drew = u0 at *
          have hHeld : (fun u : World => u.cell? ⟨b, off + j * 3, none⟩ = some (.int .i64 a.kind) ∧ u.cell? ⟨b, off + j * 3 + 1, none⟩ = some (.string a.key) ∧ u.cell? ⟨b, off + j * 3 + 2, none⟩ = some (.int .i64 a.v)) u0 := HC.out u0 HT1.out.tl.bel
          refine wpAnyJ_take0 (i := 0) (v := ?_) rfl (by kernel_rfl) (by kernel_rfl) (by kernel_rfl) (fun _ _ _ h => h) (Or.inl ⟨by rfl, ?_⟩) ?_
          rotate_left
          focus ((intro w hSw; clear hSw; go_simp); try with_reducible rfl)
          (try simp only [Act.put, List.getElem_toArray, List.getElem_cons_zero, List.getElem_cons_succ, List.setIfInBounds_toArray, List.set_cons_zero, List.set_cons_succ])
          refine wpAnyJ_take0 (i := 1) (v := ?_) rfl (by kernel_rfl) (by kernel_rfl) (by kernel_rfl) (fun _ _ _ h => h) (Or.inl ⟨by rfl, ?_⟩) ?_
          rotate_left
          focus ((intro w hSw; clear hSw; go_simp); try with_reducible rfl)
          (try simp only [Act.put, List.getElem_toArray, List.getElem_cons_zero, List.getElem_cons_succ, List.setIfInBounds_toArray, List.set_cons_zero, List.set_cons_succ])
          refine wpAnyJ_take0 (i := 2) (v := ?_) rfl (by kernel_rfl) (by kernel_rfl) (by kernel_rfl) (fun _ _ _ h => h) (Or.inl ⟨by rfl, ?_⟩) ?_
          rotate_left
          focus ((intro w hSw; clear hSw; go_simp); try with_reducible rfl)
          (try simp only [Act.put, List.getElem_toArray, List.getElem_cons_zero, List.getElem_cons_succ, List.setIfInBounds_toArray, List.set_cons_zero, List.set_cons_succ])
          refine wpAnyJ_take0 (i := 3) (v := ?_) rfl (by kernel_rfl) (by kernel_rfl) (by kernel_rfl) (fun _ _ _ h => h) (Or.inl ⟨by rfl, ?_⟩) ?_
          rotate_left
          focus ((intro w hSw; clear hSw; go_simp); try with_reducible rfl)
          (try simp only [Act.put, List.getElem_toArray, List.getElem_cons_zero, List.getElem_cons_succ, List.setIfInBounds_toArray, List.set_cons_zero, List.set_cons_succ])
          refine wpAnyJ_take0 (i := 4) (v := ?_) rfl (by kernel_rfl) (by kernel_rfl) (by kernel_rfl) (fun _ _ _ h => h) (Or.inl ⟨by rfl, ?_⟩) ?_
          rotate_left
          focus ((intro w hSw; clear hSw; go_simp); try with_reducible rfl)
          (try simp only [Act.put, List.getElem_toArray, List.getElem_cons_zero, List.getElem_cons_succ, List.setIfInBounds_toArray, List.set_cons_zero, List.set_cons_succ])
          refine wpAnyJ_take (i := 5) (v := ?_) rfl (by kernel_rfl) (by kernel_rfl) (by kernel_rfl) (by kernel_rfl) (fun _ _ _ h => h) (Or.inl ⟨by rfl, ?_⟩) (by assumption) ?_
          rotate_left
          focus ((intro w hSw; (try dsimp only at hSw); go_simp); try with_reducible rfl)
          (try simp only [Act.put, List.getElem_toArray, List.getElem_cons_zero, List.getElem_cons_succ, List.setIfInBounds_toArray, List.set_cons_zero, List.set_cons_succ])
          refine wpAnyJ_ready (rs := [6]) (by kernel_rfl) (by simp) ?_
          refine AllReadyJ.cons rfl (fun KK hKK => ?_) AllReadyJ.nil
          go_simp
          go_at_call 18
          refine (HSTEP.out _ HT1.out).mono ?_
          clear HSTEP
          rintro e u1 ⟨rfl, h3⟩
          have HT3 := Lib.hid h3
          clear h3
          have hH2 : (fun u : World => u.cell? ⟨b, off + j * 3, none⟩ = some (.int .i64 a.kind) ∧ u.cell? ⟨b, off + j * 3 + 1, none⟩ = some (.string a.key) ∧ u.cell? ⟨b, off + j * 3 + 2, none⟩ = some (.int .i64 a.v)) u1 := HC.out u1 HT3.out.tl.bel
          refine hKK.out _ _ (fun _ _ => hH2) ?_
          clear hKK KK hHeld
          obtain ⟨a1, k1, a2, k2, a3, k3, q1, q2, q3⟩ := LS.refCells HT3.out.tl
          obtain ⟨l1, hl1⟩ : ∃ l1, (runS (os.take (j + 1))).1.length = l1 := ⟨_, rfl⟩
          obtain ⟨l3, hl3⟩ : ∃ l3, (runS (os.take (j + 1))).2.length = l3 := ⟨_, rfl⟩
          have HLEN := LS.tlen HT3.out.tl
          have HCHG := LS.tchanges HT3.out.tl
          rw [List.length_reverse] at HCHG
          rw [hl1] at q1 HLEN
          rw [hl3] at q3 HCHG
          have HLEN := Lib.hid HLEN
          have HCHG := Lib.hid HCHG
          have hHeld : (fun u : World => (u.cell? ⟨b, off + j * 3, none⟩ = some (.int .i64 a.kind) ∧ u.cell? ⟨b, off + j * 3 + 1, none⟩ = some (.string a.key) ∧ u.cell? ⟨b, off + j * 3 + 2, none⟩ = some (.int .i64 a.v)) ∧ u.cell? ⟨xb, 0, none⟩ = some (.slice a1 l1 k1) ∧ u.cell? ⟨xb, 2, none⟩ = some (.slice a3 l3 k3)) u1 := ⟨hH2, q1, q3⟩
          refine wpAnyJ_more (S' := fun u : World => (u.cell? ⟨b, off + j * 3, none⟩ = some (.int .i64 a.kind) ∧ u.cell? ⟨b, off + j * 3 + 1, none⟩ = some (.string a.key) ∧ u.cell? ⟨b, off + j * 3 + 2, none⟩ = some (.int .i64 a.v)) ∧ u.cell? ⟨xb, 0, none⟩ = some (.slice a1 l1 k1) ∧ u.cell? ⟨xb, 2, none⟩ = some (.slice a3 l3 k3)) (fun _ h => h.1) (fun _ => rfl) _ _ _ _ hHeld ?_
          clear hH2 q1 q2 q3 hl1 hl3
          (try simp only [Act.put, List.getElem_toArray, List.getElem_cons_zero, List.getElem_cons_succ, List.setIfInBounds_toArray, List.set_cons_zero, List.set_cons_succ])
          refine wpAnyJ_take0 (i := 7) (v := ?_) rfl (by kernel_rfl) (by kernel_rfl) (by kernel_rfl) (fun _ _ _ h => h) (Or.inl ⟨by rfl, ?_⟩) ?_
          rotate_left
          focus ((intro w hSw; clear hSw; go_simp); try with_reducible rfl)
          (try simp only [Act.put, List.getElem_toArray, List.getElem_cons_zero, List.getElem_cons_succ, List.setIfInBounds_toArray, List.set_cons_zero, List.set_cons_succ])
          refine wpAnyJ_take0 (i := 8) (v := ?_) rfl (by kernel_rfl) (by kernel_rfl) (by kernel_rfl) (fun _ _ _ h => h) (Or.inl ⟨by rfl, ?_⟩) ?_
          rotate_left
          focus ((intro w hSw; clear hSw; go_simp); try with_reducible rfl)
          (try simp only [Act.put, List.getElem_toArray, List.getElem_cons_zero, List.getElem_cons_succ, List.setIfInBounds_toArray, List.set_cons_zero, List.set_cons_succ])
          refine wpAnyJ_take0 (i := 9) (v := ?_) rfl (by kernel_rfl) (by kernel_rfl) (by kernel_rfl) (fun _ _ _ h => h) (Or.inl ⟨by rfl, ?_⟩) ?_
          rotate_left
          focus ((intro w hSw; clear hSw; go_simp); try with_reducible rfl)
          (try simp only [Act.put, List.getElem_toArray, List.getElem_cons_zero, List.getElem_cons_succ, List.setIfInBounds_toArray, List.set_cons_zero, List.set_cons_succ])
          refine wpAnyJ_take0 (i := 11) (v := ?_) rfl (by kernel_rfl) (by kernel_rfl) (by kernel_rfl) (fun _ _ _ h => h) (Or.inl ⟨by rfl, ?_⟩) ?_
          rotate_left
          focus ((intro w hSw; clear hSw; go_simp); try with_reducible rfl)
          (try simp only [Act.put, List.getElem_toArray, List.getElem_cons_zero, List.getElem_cons_succ, List.setIfInBounds_toArray, List.set_cons_zero, List.set_cons_succ])
          refine wpAnyJ_take0 (i := 12) (v := ?_) rfl (by kernel_rfl) (by kernel_rfl) (by kernel_rfl) (fun _ _ _ h => h) (Or.inl ⟨by rfl, ?_⟩) ?_
          rotate_left
          focus ((intro w hSw; clear hSw; go_simp); try with_reducible rfl)
          (try simp only [Act.put, List.getElem_toArray, List.getElem_cons_zero, List.getElem_cons_succ, List.setIfInBounds_toArray, List.set_cons_zero, List.set_cons_succ])
          refine wpAnyJ_take0 (i := 13) (v := ?_) rfl (by kernel_rfl) (by kernel_rfl) (by kernel_rfl) (fun _ _ _ h => h) (Or.inl ⟨by rfl, ?_⟩) ?_
          rotate_left
          focus ((intro w hSw; clear hSw; go_simp); try with_reducible rfl)
          (try simp only [Act.put, List.getElem_toArray, List.getElem_cons_zero, List.getElem_cons_succ, List.setIfInBounds_toArray, List.set_cons_zero, List.set_cons_succ])
          refine wpAnyJ_take (i := 14) (v := ?_) rfl (by kernel_rfl) (by kernel_rfl) (by kernel_rfl) (by kernel_rfl) (fun _ _ _ h => h) (Or.inl ⟨by rfl, ?_⟩) (by assumption) ?_
          rotate_left
          focus ((intro w hSw; (try dsimp only at hSw); go_simp); try with_reducible rfl)
          (try simp only [Act.put, List.getElem_toArray, List.getElem_cons_zero, List.getElem_cons_succ, List.setIfInBounds_toArray, List.set_cons_zero, List.set_cons_succ])
          refine wpAnyJ_take0 (i := 15) (v := ?_) rfl (by kernel_rfl) (by kernel_rfl) (by kernel_rfl) (fun _ _ _ h => h) (Or.inl ⟨by rfl, ?_⟩) ?_
          rotate_left
          focus ((intro w hSw; clear hSw; go_simp); try with_reducible rfl)
          (try simp only [Act.put, List.getElem_toArray, List.getElem_cons_zero, List.getElem_cons_succ, List.setIfInBounds_toArray, List.set_cons_zero, List.set_cons_succ])
          refine wpAnyJ_ready (rs := [10]) (by kernel_rfl) (by simp) ?_
          refine AllReadyJ.cons rfl (fun KK hKK => ?_) AllReadyJ.nil
          go_simp
          go_at_call 17
          refine (HLEN.out).mono ?_
          rintro e u2 ⟨rfl, rfl⟩
          refine hKK.out _ _ (fun _ h => h) ?_
          clear hKK KK
          (try simp only [Act.put, List.getElem_toArray, List.getElem_cons_zero, List.getElem_cons_succ, List.setIfInBounds_toArray, List.set_cons_zero, List.set_cons_succ])
          refine wpAnyJ_take0 (i := 16) (v := ?_) rfl (by kernel_rfl) (by kernel_rfl) (by kernel_rfl) (fun _ _ _ h => h) (Or.inl ⟨by rfl, ?_⟩) ?_
          rotate_left
          focus ((intro w hSw; clear hSw; go_simp); try with_reducible rfl)
          (try simp only [Act.put, List.getElem_toArray, List.getElem_cons_zero, List.getElem_cons_succ, List.setIfInBounds_toArray, List.set_cons_zero, List.set_cons_succ])
          refine wpAnyJ_take0 (i := 17) (v := ?_) rfl (by kernel_rfl) (by kernel_rfl) (by kernel_rfl) (fun _ _ _ h => h) (Or.inl ⟨by rfl, ?_⟩) ?_
          rotate_left
          focus ((intro w hSw; clear hSw; go_simp); try with_reducible rfl)
          (try simp only [Act.put, List.getElem_toArray, List.getElem_cons_zero, List.getElem_cons_succ, List.setIfInBounds_toArray, List.set_cons_zero, List.set_cons_succ])
          refine wpAnyJ_take0 (i := 18) (v := ?_) rfl (by kernel_rfl) (by kernel_rfl) (by kernel_rfl) (fun _ _ _ h => h) (Or.inl ⟨by rfl, ?_⟩) ?_
          rotate_left
          focus ((intro w hSw; clear hSw; go_simp); try with_reducible rfl)
          (try simp only [Act.put, List.getElem_toArray, List.getElem_cons_zero, List.getElem_cons_succ, List.setIfInBounds_toArray, List.set_cons_zero, List.set_cons_succ])
          refine wpAnyJ_take0 (i := 19) (v := ?_) rfl (by kernel_rfl) (by kernel_rfl) (by kernel_rfl) (fun _ _ _ h => h) (Or.inl ⟨by rfl, ?_⟩) ?_
          rotate_left
          focus ((intro w hSw; clear hSw; go_simp); try with_reducible rfl)
          (try simp only [Act.put, List.getElem_toArray, List.getElem_cons_zero, List.getElem_cons_succ, List.setIfInBounds_toArray, List.set_cons_zero, List.set_cons_succ])
          refine wpAnyJ_take0 (i := 21) (v := ?_) rfl (by kernel_rfl) (by kernel_rfl) (by kernel_rfl) (fun _ _ _ h => h) (Or.inl ⟨by rfl, ?_⟩) ?_
          rotate_left
          focus ((intro w hSw; clear hSw; go_simp); try with_reducible rfl)
          (try simp only [Act.put, List.getElem_toArray, List.getElem_cons_zero, List.getElem_cons_succ, List.setIfInBounds_toArray, List.set_cons_zero, List.set_cons_succ])
          refine wpAnyJ_take0 (i := 22) (v := ?_) rfl (by kernel_rfl) (by kernel_rfl) (by kernel_rfl) (fun _ _ _ h => h) (Or.inl ⟨by rfl, ?_⟩) ?_
          rotate_left
          focus ((intro w hSw; clear hSw; go_simp); try with_reducible rfl)
          (try simp only [Act.put, List.getElem_toArray, List.getElem_cons_zero, List.getElem_cons_succ, List.setIfInBounds_toArray, List.set_cons_zero, List.set_cons_succ])
          refine wpAnyJ_take0 (i := 23) (v := ?_) rfl (by kernel_rfl) (by kernel_rfl) (by kernel_rfl) (fun _ _ _ h => h) (Or.inl ⟨by rfl, ?_⟩) ?_
          rotate_left
          focus ((intro w hSw; clear hSw; go_simp); try with_reducible rfl)
          (try simp only [Act.put, List.getElem_toArray, List.getElem_cons_zero, List.getElem_cons_succ, List.setIfInBounds_toArray, List.set_cons_zero, List.set_cons_succ])
          refine wpAnyJ_take (i := 24) (v := ?_) rfl (by kernel_rfl) (by kernel_rfl) (by kernel_rfl) (by kernel_rfl) (fun _ _ _ h => h) (Or.inl ⟨by rfl, ?_⟩) (by assumption) ?_
          rotate_left
          focus ((intro w hSw; (try dsimp only at hSw); go_simp); try with_reducible rfl)
          (try simp only [Act.put, List.getElem_toArray, List.getElem_cons_zero, List.getElem_cons_succ, List.setIfInBounds_toArray, List.set_cons_zero, List.set_cons_succ])
          refine wpAnyJ_take0 (i := 25) (v := ?_) rfl (by kernel_rfl) (by kernel_rfl) (by kernel_rfl) (fun _ _ _ h => h) (Or.inl ⟨by rfl, ?_⟩) ?_
          rotate_left
          focus ((intro w hSw; clear hSw; go_simp); try with_reducible rfl)
          (try simp only [Act.put, List.getElem_toArray, List.getElem_cons_zero, List.getElem_cons_succ, List.setIfInBounds_toArray, List.set_cons_zero, List.set_cons_succ])
          refine wpAnyJ_ready (rs := [20]) (by kernel_rfl) (by simp) ?_
          refine AllReadyJ.cons rfl (fun KK hKK => ?_) AllReadyJ.nil
          go_simp
          go_at_call 19
          refine (HCHG.out).mono ?_
          rintro e u2 ⟨rfl, rfl⟩
          refine hKK.out _ _ (fun _ h => h) ?_
          clear hKK KK
          (try simp only [Act.put, List.getElem_toArray, List.getElem_cons_zero, List.getElem_cons_succ, List.setIfInBounds_toArray, List.set_cons_zero, List.set_cons_succ])
          refine wpAnyJ_take0 (i := 26) (v := ?_) rfl (by kernel_rfl) (by kernel_rfl) (by kernel_rfl) (fun _ _ _ h => h) (Or.inl ⟨by rfl, ?_⟩) ?_
          rotate_left
          focus ((intro w hSw; clear hSw; go_simp); try with_reducible rfl)
          (try simp only [Act.put, List.getElem_toArray, List.getElem_cons_zero, List.getElem_cons_succ, List.setIfInBounds_toArray, List.set_cons_zero, List.set_cons_succ])
          refine wpAnyJ_take0 (i := 27) (v := ?_) rfl (by kernel_rfl) (by kernel_rfl) (by kernel_rfl) (fun _ _ _ h => h) (Or.inl ⟨by rfl, ?_⟩) ?_
          rotate_left
          focus ((intro w hSw; clear hSw; go_simp); try with_reducible rfl)
          (try simp only [Act.put, List.getElem_toArray, List.getElem_cons_zero, List.getElem_cons_succ, List.setIfInBounds_toArray, List.set_cons_zero, List.set_cons_succ])
          refine wpAnyJ_done (by kernel_rfl) ?_ _
          refine NoPanic.normal ?_
          go_wp2_with fail
          go_roundw
          case rel => exact ⟨j + 1, by go_num, by omega, by omega, HT3⟩
          case measure => simp [intOf]; omega
        · have hl5' : ¬ (j : Int) < 500 := by omega
          go_wp2_with (go_at_call 12; refine HEND.out.mono ?_; clear HEND; rintro e w3 ⟨rfl, h3⟩; have HB := Lib.hid h3; clear h3)
          exact HQ.out _ HB.out
      · have hlt' : ¬ (j : Int) < ln := by omega
        go_wp2_with (go_at_call 12; refine HEND.out.mono ?_; clear HEND; rintro e w3 ⟨rfl, h3⟩; have HB := Lib.hid h3; clear h3)
        exact HQ.out _ HB.out
  · have HN := Lib.hid (new_no hm W)
    by_cases h3 : most < 3
    · have h4 : ¬ 3 ≤ most := by omega
      have h5 : most ≤ 64 := by omega
      clear hm
      go_enter Try.func5, Try.ntmps5
      go_wp2_with (go_at_call 13; refine HN.out.mono ?_; clear HN; rintro e w1 ⟨rfl, rfl⟩)
      have hB0 : Hid (Below W.heap.size W (W.alloc (.cells #[.slice none 0 0, .slice none 0 0, .slice none 0 0] 46))) := Lib.hid ((Below.refl _ _).alloc (Nat.le_refl _) _)
      generalize W.alloc (.cells #[.slice none 0 0, .slice none 0 0, .slice none 0 0] 46) = w2 at *
      go_loopw [8] (fun iv wr => iv = .int .i64 0 ∧ Hid (Below W.heap.size W wr)) (fun _ _ => 0)
      case atStart => exact ⟨rfl, hB0⟩
      case round =>
        clear hB0
        obtain ⟨rfl, HB⟩ := hrel
        have HEND : Hid (Calls Try.prog 12 #[] wr fun e w' => e = .returned (.bool true) ∧ Below W.heap.size W w') := Lib.hid (HWE.out wr HB.out)
        rcases Nat.eq_zero_or_pos ln with hl0 | hl0
        · subst hl0
          go_wp2_with (go_at_call 12; refine HEND.out.mono ?_; clear HEND; rintro e w3 ⟨rfl, h3⟩; have HB2 := Lib.hid h3; clear h3)
          exact HQ.out _ HB2.out
        · have hl0' : (0 : Int) < ln := by omega
          go_wp2_with (go_at_call 12; refine HEND.out.mono ?_; clear HEND; rintro e w3 ⟨rfl, h3⟩; have HB2 := Lib.hid h3; clear h3)
          exact HQ.out _ HB2.out
    · have h4 : 3 ≤ most := by omega
      have h5 : ¬ most ≤ 64 := by omega
      clear hm
      go_enter Try.func5, Try.ntmps5
      go_wp2_with (go_at_call 13; refine HN.out.mono ?_; clear HN; rintro e w1 ⟨rfl, rfl⟩)
      have hB0 : Hid (Below W.heap.size W (W.alloc (.cells #[.slice none 0 0, .slice none 0 0, .slice none 0 0] 46))) := Lib.hid ((Below.refl _ _).alloc (Nat.le_refl _) _)
      generalize W.alloc (.cells #[.slice none 0 0, .slice none 0 0, .slice none 0 0] 46) = w2 at *
      go_loopw [8] (fun iv wr => iv = .int .i64 0 ∧ Hid (Below W.heap.size W wr)) (fun _ _ => 0)
      case atStart => exact ⟨rfl, hB0⟩
      case round =>
        clear hB0
        obtain ⟨rfl, HB⟩ := hrel
        have HEND : Hid (Calls Try.prog 12 #[] wr fun e w' => e = .returned (.bool true) ∧ Below W.heap.size W w') := Lib.hid (HWE.out wr HB.out)
        rcases Nat.eq_zero_or_pos ln with hl0 | hl0
        · subst hl0
          go_wp2_with (go_at_call 12; refine HEND.out.mono ?_; clear HEND; rintro e w3 ⟨rfl, h3⟩; have HB2 := Lib.hid h3; clear h3)
          exact HQ.out _ HB2.out
        · have hl0' : (0 : Int) < ln := by omega
          go_wp2_with (go_at_call 12; refine HEND.out.mono ?_; clear HEND; rintro e w3 ⟨rfl, h3⟩; have HB2 := Lib.hid h3; clear h3)
          exact HQ.out _ HB2.out
end Go.Proofs.Ytjoopjmcnkiieaa
