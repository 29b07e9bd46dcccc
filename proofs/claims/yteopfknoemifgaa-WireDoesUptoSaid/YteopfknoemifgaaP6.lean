/- Layer 9: the contracts of open and Open. Conditions: the network is there. -/
import Derived.Test.YteopfknoemifgaaP5
import Derived.Deep.RegionHeld3
namespace Go.Proofs.Yteopfknoemifgaa
open Go.RowKit
set_option linter.unusedSimpArgs false
set_option linter.unusedVariables false

def Line.isOpen (x : Line) : Bool := !x.cut || !x.way.isEmpty
def isOpenAt (N : List (Option Line)) (i : Nat) : Bool := match N[i]? with
  | some (some x) => x.isOpen
  | _ => false
/-- How many lines are not over. -/
def openN (N : List (Option Line)) : Nat := (List.range N.length).countP (isOpenAt N)
def openLeft (N : List (Option Line)) (left : Int → Bool) : Nat := (List.range N.length).countP fun (i : Nat) => left ((i : Int) + 1) && isOpenAt N i

theorem countP_strike {l : List Nat} (hn : l.Nodup) {i : Nat} (hi : i ∈ l) (p : Nat → Bool) : l.countP (fun j => p j && !decide (j = i)) + (if p i then 1 else 0) = l.countP p := by
  induction l with
  | nil => cases hi
  | cons a l ih =>
    rw [List.nodup_cons] at hn
    by_cases e : a = i
    · subst e
      have : l.countP (fun j => p j && !decide (j = a)) = l.countP p := List.countP_congr fun j hj => by
        have : j ≠ a := fun h => hn.1 (h ▸ hj)
        simp [this]
      rw [List.countP_cons, List.countP_cons, this]; simp
    · have := ih hn.2 (by rcases List.mem_cons.1 hi with h | h; exact absurd h.symm e; exact h)
      rw [List.countP_cons, List.countP_cons, ← this]
      simp only [e, decide_false, Bool.not_false, Bool.and_true]
      omega
theorem openLeft_strike {N : List (Option Line)} {left : Int → Bool} {i : Nat} {x : Line} (hi : N[i]? = some (some x)) (hl : left ((i : Int) + 1) = true) :
    openLeft N (fun y => left y && !decide (y = (i : Int) + 1)) + (if x.isOpen then 1 else 0) = openLeft N left := by
  have hlt := (List.getElem?_eq_some_iff.1 hi).1
  have := countP_strike (l := List.range N.length) List.nodup_range (i := i) (by simpa using hlt) (fun j => left ((j : Int) + 1) && isOpenAt N j)
  have h2 : isOpenAt N i = x.isOpen := by unfold isOpenAt; rw [hi]
  simp only [hl, h2, Bool.true_and] at this
  refine Eq.trans ?_ this
  congr 1
  unfold openLeft
  refine List.countP_congr fun j _ => ?_
  have : ((j : Int) + 1 = (i : Int) + 1) ↔ j = i := by omega
  simp only [this]
  cases left ((j : Int) + 1) <;> cases isOpenAt N j <;> simp
theorem openLeft_start (N : List (Option Line)) (ad : Nat → Nat) : openLeft N (fun c => (netMap N ad c).isSome) = openN N := by
  unfold openLeft openN
  refine List.countP_congr fun i _ => ?_
  unfold isOpenAt
  cases h : N[i]? with
  | none => simp
  | some o =>
    cases o with
    | none => simp
    | some x => simp [netMap, lineAt_mk h]
theorem wf_i64 {x : Int} (h1 : -9223372036854775808 ≤ x) (h2 : x ≤ 9223372036854775807) : (Lit.int .i64 x).wf = true := by
  simp [Lit.wf, IntKind.min, IntKind.max, IntKind.bits, IntKind.signed]; omega
theorem i64_of_wf {x : Int} (h : (Lit.int .i64 x).wf = true) : -9223372036854775808 ≤ x ∧ x ≤ 9223372036854775807 := by
  simp [Lit.wf, IntKind.min, IntKind.max, IntKind.bits, IntKind.signed] at h; omega
theorem openLeft_end {N : List (Option Line)} {left : Int → Bool} (hz : N.length ≤ 140737488351232) (h : ∀ c : Int, (Lit.int .i64 c).wf = true → left c = false) : openLeft N left = 0 := by
  unfold openLeft
  rw [List.countP_eq_zero]
  intro i hi
  have hi := List.mem_range.1 hi
  rw [h ((i : Int) + 1) (wf_i64 (by omega) (by omega))]
  simp

theorem open_any {w : World} {B nb : Nat} {S : Nat → Prop} {N : List (Option Line)} (h : NetRep w B nb S N) (hz : N.length ≤ 140737488351232) :
    Calls Try.prog 22 #[.pointer (some ⟨nb, 0, none⟩)] w fun e w' => e = .returned (.int .i64 (openN N)) ∧ Below w.heap.size w w' := by
  obtain ⟨mb, T, ad, h⟩ := h
  have d1 := h.blk.cell (i := 1) rfl
  have HX := Lib.hid h
  have HM := Lib.hid h.map
  have hmlt := (h.bd mb h.smb).2
  have hnn : Hid (openN N ≤ N.length) := Lib.hid (by unfold openN; have := List.countP_le_length (p := isOpenAt N) (l := List.range N.length); simpa using this)
  clear h
  go_enter Try.func22, Try.ntmps22
  go_wp2_with (at_range; refine wpList_range_is _ rfl _ 52 rfl 3 56 KI Try.underlying52 mb N.length (netMap N ad) rfl HM.out ?_; intro w0 cnt hg0 hgr0 hs0)
  go_frame
  have HS0 := Lib.hid hs0
  have HGR0 := Lib.hid hgr0
  clear hs0 hgr0
  go_loopw [3] (fun k wr => ∃ (j cnt : Nat) (left : Int → Bool), k = .int .i64 j ∧ j ≤ 140737488351232 ∧ Hid (j + openLeft N left = openN N) ∧ MapGoes wr KI mb w.heap.size N.length (netMap N ad) left cnt ∧ Below w.heap.size w wr) (fun _ wr => wr.rangeLeft mb w.heap.size)
  case atStart => exact ⟨0, cnt, _, rfl, by omega, Lib.hid (by rw [openLeft_start]; omega), hg0, ⟨HGR0.out.os, HGR0.out.tape, HGR0.out.output, HGR0.out.size, fun k hk => HGR0.out.block k hk (by simp)⟩⟩
  case round =>
    clear hg0
    obtain ⟨j, cnt, left, rfl, hj, hcount, hgo, hbe⟩ := hrel
    go_wp2_with (at_next; refine wpList_next_is _ rfl _ rfl 3 KI mb w.heap.size N.length (netMap N ad) left cnt rfl hgo ?_ ?_)
    · intro hdone
      have HD := Lib.hid hdone
      clear hdone
      have HJ : Hid (j = openN N) := Lib.hid (by have := hcount.out; rw [openLeft_end hz HD.out] at this; omega)
      go_wp2_with fail
      go_ret
      exact ⟨by rw [HJ.out]; rfl, hbe⟩
    · intro c v w1 cnt1 hok hleft hgc hgo1 hlt hg1 hs1 hen
      have hlc : ∃ i x, lineAt N c = some (i, x) ∧ v = .pointer (some ⟨ad i, 0, none⟩) := by
        unfold netMap at hgc
        cases hl : lineAt N c with
        | none => rw [hl] at hgc; cases hgc
        | some p => rw [hl] at hgc; simp at hgc; exact ⟨p.1, p.2, rfl, hgc.symm⟩
      obtain ⟨i, x, hl, rfl⟩ := hlc
      obtain ⟨hi, hci⟩ := lineAt_some hl
      have HST : Hid (openLeft N (fun y => left y && !decide (y = c)) + (if x.isOpen then 1 else 0) = openLeft N left) := Lib.hid (by rw [hci]; exact openLeft_strike hi (by rw [← hci]; exact hleft))
      have hbe1 : Below w.heap.size w w1 := hbe.grown hg1 hbe.size (fun k hk => by injection hk with hk; omega)
      have hr := (HX.out.line i x hi).of_heap (w' := w1) (own' := fun k => S k ∧ T k = i + 2) (fun k hk hlt => hbe1.block k hlt) (fun _ hk => hk)
      obtain ⟨a1, c1, a2, c2, g1, _⟩ := hr
      have e2 := g1.cell (i := 2) rfl
      have e0 := g1.cell (i := 0) rfl
      have HCN := Lib.hid hcount.out
      have HC1 := Lib.hid hgo1
      have HL := Lib.hid (show cnt1 < cnt from hlt)
      have HG := Lib.hid hgo
      have HB1 := Lib.hid hbe1
      have HI : Hid (KI.val c = .int .i64 c) := Lib.hid rfl
      clear hcount hgo1 hgo hl hi hci hleft hgc hok hg1 hs1 hbe1 hlt g1 hbe
      rw [HI.out] at hen ⊢
      by_cases hx : x.isOpen = true
      · have hsel : x.cut = false ∨ (x.cut = true ∧ (0 : Int) < x.way.length) := by
          unfold Line.isOpen at hx
          cases hcut : x.cut with
          | false => exact .inl rfl
          | true => rw [hcut] at hx; simp at hx; exact .inr ⟨rfl, by have := List.length_pos_iff.2 hx; omega⟩
        have HJ : Hid (j + 1 + openLeft N (fun y => left y && !decide (y = c)) = openN N) := Lib.hid (by have h1 := HST.out; rw [if_pos hx] at h1; have h2 := HCN.out; omega)
        have hj1 : j + 1 ≤ 140737488351232 := by have := HJ.out; have := hnn.out; omega
        clear hx
        rcases hsel with hs | ⟨hs, hs2⟩
        all_goals
          rw [hs] at e2
          go_wp2_with fail
          go_roundw
          case rel => exact ⟨j + 1, cnt1, _, by go_num, hj1, HJ, HC1.out, HB1.out⟩
          case measure => rw [HC1.out.left_eq, HG.out.left_eq]; exact HL.out
      · have hsel : x.cut = true ∧ ¬ (0 : Int) < x.way.length := by
          unfold Line.isOpen at hx
          cases hcut : x.cut with
          | false => rw [hcut] at hx; simp at hx
          | true => rw [hcut] at hx; simp at hx; exact ⟨rfl, by rw [hx]; simp⟩
        have HJ : Hid (j + openLeft N (fun y => left y && !decide (y = c)) = openN N) := Lib.hid (by have h1 := HST.out; rw [if_neg hx] at h1; have h2 := HCN.out; omega)
        clear hx
        obtain ⟨hs, hs2⟩ := hsel
        rw [hs] at e2
        go_wp2_with fail
        go_roundw
        case rel => exact ⟨j, cnt1, _, rfl, hj, HJ, HC1.out, HB1.out⟩
        case measure => rw [HC1.out.left_eq, HG.out.left_eq]; exact HL.out
end Go.Proofs.Yteopfknoemifgaa
