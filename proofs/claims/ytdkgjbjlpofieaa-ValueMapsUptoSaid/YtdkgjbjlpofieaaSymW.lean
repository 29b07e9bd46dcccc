/- sort.stable_func at any length: the contracts of swapRange, rotate, symMerge, stable. Conditions: what 'less' and 'swap' do is given (SC). -/
import Derived.Test.YtdkgjbjlpofieaaBase
import Derived.Test.YtdkgjbjlpofieaaSymP
import Derived.Test.YtdkgjbjlpofieaaProg
import Derived.Shelf.GgSortMore.Stable
import Derived.Deep.DeepCutAuto
namespace Go.Proofs.Ytdkgjbjlpofieaa
open Go.RowKit Go.Shelf Go.Lib Go.Sort
set_option linter.unusedSimpArgs false
set_option linter.unusedVariables false
set_option maxRecDepth 100000

section
variable {α : Type} [Inhabited α]
/-- What is asked of a sort's 'less' and 'swap'. -/
structure SC (enc : α → Value) (lt : α → α → Bool) (g : Nat) (lb : Array Value) (sf : Nat) (sb : Array Value) (blk off N : Nat) (w0 : World) : Prop where
  blt : blk < w0.heap.size
  hold : ∃ d0 : Array α, d0.size = N ∧ Holds enc w0 blk off d0
  les : LessReads Try.prog g lb enc lt blk off N w0
  sws : SwapSwaps Try.prog sf sb enc blk off N
  eg : ∀ args w, (callFunc g args).run Try.prog w = .ok (.enter g args) w
  sml : N < 2305843009213693952
  swo : SWO lt
/-- A world of the sort, and nothing else has turned since w. -/
structure SK (enc : α → Value) (w0 : World) (blk off : Nat) (w : World) (d : Array α) (w' : World) : Prop where
  sw : SW enc w0 blk off d w'
  kp : Kept [blk] w w'
variable {enc : α → Value} {lt : α → α → Bool} {g : Nat} {lb : Array Value} {sf : Nat} {sb : Array Value} {blk off N : Nat} {w0 w w1 w2 : World} {d d2 : Array α}
theorem SC.holds (H : SC enc lt g lb sf sb blk off N w0) (hw : SW enc w0 blk off d w) (hs : d.size = N) : Holds enc w blk off d := by
  obtain ⟨d0, h1, h2⟩ := H.hold
  exact hw.holds H.blt h2 (hs.trans h1.symm)
theorem SC.swaps (H : SC enc lt g lb sf sb blk off N w0) (hw : SW enc w0 blk off d w) (hs : d.size = N) (i j : Nat) (hi : i < N) (hj : j < N) :
    (callFunc sf (#[.int .i64 i, .int .i64 j] ++ sb)).run Try.prog w = .ok (.value (.tuple #[])) ((w.setCell ⟨blk, off + i, none⟩ (enc d[j]!)).setCell ⟨blk, off + j, none⟩ (enc d[i]!)) := H.sws w d (H.holds hw hs) hs i j hi hj
theorem SK.swap (h : SK enc w0 blk off w d w1) (H : SC enc lt g lb sf sb blk off N w0) (hs : d.size = N) (i j : Nat) (hi : i < N) (hj : j < N) : SK enc w0 blk off w (swp d i j) ((w1.setCell ⟨blk, off + i, none⟩ (enc d[j]!)).setCell ⟨blk, off + j, none⟩ (enc d[i]!)) :=
  ⟨h.sw.swap H.blt i j (by omega) (by omega), (h.kp.setCell (.inl (by simp)) _).setCell (.inl (by simp)) _⟩
theorem SK.drewN (h : SK enc w0 blk off w d w1) (q : Nat) : SK enc w0 blk off w d (w1.drewN q) := ⟨h.sw.drewN q, h.kp.drewN q⟩
theorem SK.trans (h : SK enc w0 blk off w d w1) (k : SK enc w0 blk off w1 d2 w2) : SK enc w0 blk off w d2 w2 := ⟨k.sw, h.kp.trans k.kp (fun x hx => .inl hx)⟩
theorem SK.alloc (hw : SW enc w0 blk off d w) (o : Obj) : SK enc w0 blk off w d (w.alloc o) := ⟨hw.alloc o, (Kept.refl _ _).alloc o⟩
theorem SK.box {t : TypeId} {c : List Value} {b : Nat} (h : SK enc w0 blk off w d w1) (hb : Block w b c t) (hn : b ≠ blk) : Block w1 b c t := hb.of_heap (h.kp.block b hb.lt (by simp; exact hn))
theorem RotOf.triv {s m e : Nat} (d : Array α) (h : ¬ (s < m ∧ m < e)) (h1 : s ≤ m) (h2 : m ≤ e) : RotOf s m e d d := by
  refine ⟨rfl, fun k a1 a2 => ?_, fun k a1 a2 => ?_, fun _ _ => rfl⟩
  · congr 1; omega
  · congr 1; omega
set_option maxHeartbeats 4000000 in
theorem swapRange_any (H : SC enc lt g lb sf sb blk off N w0) (dk : Array α) (w : World) (hw : SW enc w0 blk off dk w) (hs : dk.size = N) (a b n : Nat) (hab : a + n ≤ b) (hb : b + n ≤ N) :
    Calls Try.prog 75 #[.agg #[.func (.func g) #[] lb, .func (.func sf) #[] sb], .int .i64 a, .int .i64 b, .int .i64 n] w fun e w' => e = .returned (.tuple #[]) ∧ ∃ d', SwR a b n dk d' ∧ PermIn a (b + n) dk d' ∧ SK enc w0 blk off w d' w' := by
  have hN := H.sml
  have eg := H.eg
  obtain ⟨W1, hW1⟩ : ∃ W1, w.alloc (.cells #[.func (.func g) #[] lb, .func (.func sf) #[] sb] 72) = W1 := ⟨_, rfl⟩
  have HB0 : Hid (Block W1 w.heap.size [.func (.func g) #[] lb, .func (.func sf) #[] sb] 72) := Lib.hid (by rw [← hW1]; exact Block.new w _ _)
  have HS0 : Hid (SW enc w0 blk off dk W1 ∧ SK enc w0 blk off w dk W1) := Lib.hid (by rw [← hW1]; exact ⟨hw.alloc _, SK.alloc hw _⟩)
  obtain ⟨bb, hbb⟩ : ∃ b, w.heap.size = b := ⟨_, rfl⟩
  have HBB : Hid (bb ≠ blk) := Lib.hid (by rw [← hbb]; have := hw.le; have := H.blt; omega)
  have HW1 := Lib.hid hW1
  rw [hbb] at HB0
  clear hW1 hw
  go_enter Try.func75, Try.ntmps75
  go_wp2_with fail
  rw [HW1.out]
  clear hbb
  go_loopw [8] (fun iv wr => ∃ (i : Nat) (d' : Array α), iv = .int .i64 i ∧ i ≤ n ∧ Hid (SwR a b i dk d') ∧ Hid (PermIn a (b + n) dk d') ∧ Hid (SK enc w0 blk off W1 d' wr)) (fun iv _ => n - (intOf iv).toNat)
  case atStart => exact ⟨0, dk, rfl, Nat.zero_le _, Lib.hid (SwR.zero a b dk), Lib.hid (permIn_refl _ _ _), Lib.hid ⟨HS0.out.1, Kept.refl _ _⟩⟩
  case round =>
    obtain ⟨i, d', rfl, hi, HR, HP, HS⟩ := hrel
    have hbx := HS.out.box HB0.out HBB.out
    have c0 := hbx.cell (i := 0) rfl
    have c1 := hbx.cell (i := 1) rfl
    clear hbx
    by_cases hlt : i < n
    · skip
      have hlt' : (i : Int) < n := by omega
      have hds : d'.size = N := HR.out.size.trans hs
      have hsw := H.swaps HS.out.sw hds (a + i) (b + i) (by omega) (by omega)
      simp only [Int.natCast_add] at hsw
      have HSW := Lib.hid hsw
      clear hsw
      go_wp2_with fail
      rw [HSW.out, Oper.upon_value]
      go_wp2_with fail
      go_roundw
      case rel => exact ⟨i + 1, swp d' (a + i) (b + i), by go_num, by omega, Lib.hid (HR.out.step hab (by omega) hlt), Lib.hid (SwR.perm_step HP.out (by omega) hab (by omega) (Nat.le_refl _) (by omega) hlt), Lib.hid (HS.out.swap H hds _ _ (by omega) (by omega))⟩
      case measure => simp [intOf] <;> omega
    · skip
      have hlt' : ¬ (i : Int) < n := by omega
      have hin : i = n := by omega
      have HIN := Lib.hid hin
      clear hin
      go_wp2_with fail
      go_end0
      have hin := HIN.out
      subst hin
      exact ⟨rfl, d', HR.out, HP.out, HS0.out.2.trans HS.out⟩
set_option maxHeartbeats 4000000 in
theorem rotate_any (H : SC enc lt g lb sf sb blk off N w0) (dk : Array α) (w : World) (hw : SW enc w0 blk off dk w) (hs : dk.size = N) (a m b : Nat) (ham : a < m) (hmb : m < b) (hb : b ≤ N) :
    Calls Try.prog 74 #[.agg #[.func (.func g) #[] lb, .func (.func sf) #[] sb], .int .i64 a, .int .i64 m, .int .i64 b] w fun e w' => e = .returned (.tuple #[]) ∧ ∃ d', RotOf a m b dk d' ∧ PermIn a b dk d' ∧ SK enc w0 blk off w d' w' := by
  have hN := H.sml
  have eg := H.eg
  obtain ⟨W1, hW1⟩ : ∃ W1, w.alloc (.cells #[.func (.func g) #[] lb, .func (.func sf) #[] sb] 72) = W1 := ⟨_, rfl⟩
  have HB0 : Hid (Block W1 w.heap.size [.func (.func g) #[] lb, .func (.func sf) #[] sb] 72) := Lib.hid (by rw [← hW1]; exact Block.new w _ _)
  have HS0 : Hid (SW enc w0 blk off dk W1 ∧ SK enc w0 blk off w dk W1) := Lib.hid (by rw [← hW1]; exact ⟨hw.alloc _, SK.alloc hw _⟩)
  obtain ⟨bb, hbb⟩ : ∃ b, w.heap.size = b := ⟨_, rfl⟩
  have HBB : Hid (bb ≠ blk) := Lib.hid (by rw [← hbb]; have := hw.le; have := H.blt; omega)
  have HW1 := Lib.hid hW1
  rw [hbb] at HB0
  clear hW1 hw
  go_enter Try.func74, Try.ntmps74
  go_wp2_with fail
  rw [HW1.out]
  clear hbb
  go_loopw [8, 9] (fun iv jv wr => ∃ (i j : Nat) (d' : Array α), iv = .int .i64 i ∧ jv = .int .i64 j ∧ 0 < i ∧ 0 < j ∧ a + i ≤ m ∧ m + j ≤ b ∧ Hid (∀ d2, RotOf (m - i) m (m + j) d' d2 → RotOf a m b dk d2) ∧ Hid (PermIn a b dk d') ∧ Hid (SK enc w0 blk off W1 d' wr)) (fun iv jv _ => (intOf iv).toNat + (intOf jv).toNat)
  case atStart => exact ⟨m - a, b - m, dk, by congr 1; omega, by congr 1; omega, by omega, by omega, by omega, by omega, Lib.hid (fun d2 h => by rwa [show m - (m - a) = a from by omega, show m + (b - m) = b from by omega] at h), Lib.hid (permIn_refl _ _ _), Lib.hid ⟨HS0.out.1, Kept.refl _ _⟩⟩
  case round =>
    obtain ⟨i, j, d', rfl, rfl, hi, hj, hai, hjb, HR, HP, HS⟩ := hrel
    have HDS : Hid (d'.size = N) := Lib.hid (HP.out.1.trans hs)
    have hbx := HS.out.box HB0.out HBB.out
    have c0 := hbx.cell (i := 0) rfl
    have c1 := hbx.cell (i := 1) rfl
    clear hbx
    rcases Nat.lt_trichotomy i j with hij | hij | hij
    · skip
      have hne : ((i : Int) != j) = true := by simp; omega
      have hgt : ¬ (j : Int) < i := by omega
      have hc := swapRange_any H d' wr HS.out.sw HDS.out (m - i) (m + j - i) (i) (by omega) (by omega)
      rw [show ((m - i : Nat) : Int) = (m : Int) - i by omega, show ((m + j - i : Nat) : Int) = (m : Int) + j - i by omega] at hc
      have HC := Lib.hid hc
      clear hc
      go_wp2_with fail
      refine HC.out.mono ?_
      rintro e w2 ⟨rfl, d2, hr2, hp2, hs2⟩
      have HR2 := Lib.hid (show _ ∧ _ ∧ _ from ⟨hr2, hp2, hs2⟩)
      clear hr2 hp2 hs2 c0 c1
      go_wp2_with fail
      go_roundw
      case rel => exact ⟨i, j - i, d2, rfl, by congr 1; omega, hi, by omega, hai, by omega, Lib.hid (fun d3 h3 => HR.out d3 (rot_short (by omega) hij rfl HR2.out.1 (by rwa [show m + j - i = m + (j - i) from by omega]))), Lib.hid (permIn_trans _ _ _ _ _ HP.out (permIn_mono _ _ _ _ _ _ (by omega) (by omega) (by have := HDS.out; omega) HR2.out.2.1)), Lib.hid (HS.out.trans HR2.out.2.2)⟩
      case measure => simp [intOf] <;> omega
    · skip
      subst hij
      have hc := swapRange_any H d' wr HS.out.sw HDS.out (m - i) (m) (i) (by omega) (by omega)
      rw [show ((m - i : Nat) : Int) = (m : Int) - i by omega] at hc
      have HC := Lib.hid hc
      clear hc
      go_wp2_with fail
      refine HC.out.mono ?_
      rintro e w2 ⟨rfl, d2, hr2, hp2, hs2⟩
      have HR2 := Lib.hid (show _ ∧ _ ∧ _ from ⟨hr2, hp2, hs2⟩)
      clear hr2 hp2 hs2 c0 c1
      go_wp2_with fail
      go_end0
      exact ⟨rfl, d2, HR.out d2 (rot_even (by omega) rfl HR2.out.1), permIn_trans _ _ _ _ _ HP.out (permIn_mono _ _ _ _ _ _ (by omega) (by omega) (by have := HDS.out; omega) HR2.out.2.1), HS0.out.2.trans (HS.out.trans HR2.out.2.2)⟩
    · skip
      have hne : ((i : Int) != j) = true := by simp; omega
      have hgt : (j : Int) < i := by omega
      have hc := swapRange_any H d' wr HS.out.sw HDS.out (m - i) (m) (j) (by omega) (by omega)
      rw [show ((m - i : Nat) : Int) = (m : Int) - i by omega] at hc
      have HC := Lib.hid hc
      clear hc
      go_wp2_with fail
      refine HC.out.mono ?_
      rintro e w2 ⟨rfl, d2, hr2, hp2, hs2⟩
      have HR2 := Lib.hid (show _ ∧ _ ∧ _ from ⟨hr2, hp2, hs2⟩)
      clear hr2 hp2 hs2 c0 c1
      go_wp2_with fail
      go_roundw
      case rel => exact ⟨i - j, j, d2, by congr 1; omega, rfl, by omega, hj, by omega, hjb, Lib.hid (fun d3 h3 => HR.out d3 (rot_long (by omega) hij rfl HR2.out.1 (by rwa [show m - i + j = m - (i - j) from by omega]))), Lib.hid (permIn_trans _ _ _ _ _ HP.out (permIn_mono _ _ _ _ _ _ (by omega) (by omega) (by have := HDS.out; omega) HR2.out.2.1)), Lib.hid (HS.out.trans HR2.out.2.2)⟩
      case measure => simp [intOf] <;> omega
/-- What symMerge does to two sorted parts of at most k places. -/
def SymSaid (enc : α → Value) (lt : α → α → Bool) (g : Nat) (lb : Array Value) (sf : Nat) (sb : Array Value) (blk off N : Nat) (w0 : World) (k : Nat) : Prop :=
  ∀ (dk : Array α) (w : World) (a m b : Nat), SW enc w0 blk off dk w → dk.size = N → b - a ≤ k → a < m → m < b → b ≤ N → SortedIn lt a m dk → SortedIn lt m b dk →
    Calls Try.prog 73 #[.agg #[.func (.func g) #[] lb, .func (.func sf) #[] sb], .int .i64 a, .int .i64 m, .int .i64 b] w fun e w' => e = .returned (.tuple #[]) ∧ ∃ d', PermIn a b dk d' ∧ SortedIn lt a b d' ∧ SK enc w0 blk off w d' w'
set_option maxHeartbeats 32000000 in
theorem symMerge_any (H : SC enc lt g lb sf sb blk off N w0) (k : Nat) : SymSaid enc lt g lb sf sb blk off N w0 k := by
  induction k with
  | zero => intro dk w a m b _ _ h1 h2 h3; omega
  | succ k ih =>
    intro dk w a m b hw hs hk ham hmb hb hs1 hs2
    have IH := Lib.hid ih
    have HS1 := Lib.hid hs1
    have HS2 := Lib.hid hs2
    clear ih hs1 hs2
    have hN := H.sml
    have eg := H.eg
    obtain ⟨W1, hW1⟩ : ∃ W1, w.alloc (.cells #[.func (.func g) #[] lb, .func (.func sf) #[] sb] 72) = W1 := ⟨_, rfl⟩
    have HB0 : Hid (Block W1 w.heap.size [.func (.func g) #[] lb, .func (.func sf) #[] sb] 72) := Lib.hid (by rw [← hW1]; exact Block.new w _ _)
    have HS0 : Hid (SW enc w0 blk off dk W1 ∧ SK enc w0 blk off w dk W1) := Lib.hid (by rw [← hW1]; exact ⟨hw.alloc _, SK.alloc hw _⟩)
    obtain ⟨bb, hbb⟩ : ∃ b, w.heap.size = b := ⟨_, rfl⟩
    have HBB : Hid (bb ≠ blk) := Lib.hid (by rw [← hbb]; have := hw.le; have := H.blt; omega)
    have HW1 := Lib.hid hW1
    rw [hbb] at HB0
    clear hW1 hw
    by_cases cA : m = a + 1
    · skip
      have hA : ((m : Int) - a == 1) = true := by simp; omega
      have cA1 : m ≤ a + 1 := by omega
      clear cA
      go_enter Try.func73, Try.ntmps73
      go_wp2_with fail
      rw [HW1.out]
      clear hbb
      go_loopw [8, 9] (fun iv jv wr => ∃ (i j q : Nat), iv = .int .i64 i ∧ jv = .int .i64 j ∧ i ≤ j ∧ m ≤ i ∧ j ≤ b ∧ Hid (i = m ∨ lt dk[i - 1]! dk[a]! = true) ∧ Hid (j = b ∨ lt dk[j]! dk[a]! = false) ∧ Hid (SK enc w0 blk off W1 dk wr)) (fun iv jv _ => (intOf jv).toNat - (intOf iv).toNat)
      case atStart => exact ⟨m, b, 0, rfl, rfl, by omega, Nat.le_refl _, Nat.le_refl _, Lib.hid (.inl rfl), Lib.hid (.inl rfl), Lib.hid ⟨HS0.out.1, Kept.refl _ _⟩⟩
      case round =>
        obtain ⟨i, j, q, rfl, rfl, hij, hli, hjr, HL, HR, HS⟩ := hrel
        have hbx := HS.out.box HB0.out HBB.out
        have c0 := hbx.cell (i := 0) rfl
        have c1 := hbx.cell (i := 1) rfl
        clear hbx
        by_cases hlt : i < j
        · skip
          have hlt' : (i : Int) < j := by omega
          obtain ⟨h, hh⟩ : ∃ h, (i + j) / 2 = h := ⟨_, rfl⟩
          have hhI : ((i : Int) + j) / 2 = h := by omega
          have hh1 : i ≤ h := by omega
          have hh2 : h < j := by omega
          have hl := HS.out.sw.less H.les hs (h) (a) (by omega) (by omega)
          obtain ⟨r, hr⟩ : ∃ r, lt dk[h]! dk[a]! = r := ⟨_, rfl⟩
          rw [hr] at hl
          have HRR := Lib.hid hr
          have HLL := Lib.hid hl
          clear hl hr hh
          cases r with
          | true =>
            go_wp2_with (go_at_fn g; refine HLL.out.mono ?_; rintro e w2 ⟨rfl, q2, rfl⟩)
            go_roundw
            case rel => exact ⟨h + 1, j, q, by go_num, by go_num, by omega, by omega, by omega, Lib.hid (.inr HRR.out), HR, Lib.hid (HS.out.drewN q2)⟩
            case measure => simp [intOf] <;> omega
          | false =>
            go_wp2_with (go_at_fn g; refine HLL.out.mono ?_; rintro e w2 ⟨rfl, q2, rfl⟩)
            go_roundw
            case rel => exact ⟨i, h, q, by go_num, by go_num, by omega, by omega, by omega, HL, Lib.hid (.inr HRR.out), Lib.hid (HS.out.drewN q2)⟩
            case measure => simp [intOf] <;> omega
        · skip
          have hlt' : ¬ (i : Int) < j := by omega
          obtain rfl : i = j := by omega
          have HLR := Lib.hid (show _ ∧ _ from ⟨HL.out, HR.out⟩)
          clear c0 c1
          go_wp2_with fail
          go_loopw [11] (fun kv w3 => ∃ (t : Nat) (d' : Array α), kv = .int .i64 t ∧ a ≤ t ∧ t + 1 ≤ i ∧ Hid (UpTo a t dk d') ∧ Hid (PermIn a b dk d') ∧ Hid (SK enc w0 blk off W1 d' w3)) (fun kv _ => i - (intOf kv).toNat)
          case atStart => exact ⟨a, dk, rfl, Nat.le_refl _, by omega, Lib.hid (UpTo.zero a dk), Lib.hid (permIn_refl _ _ _), HS⟩
          case round =>
            clear HS
            obtain ⟨t, d', rfl, hat, hti, HU, HP, HS⟩ := hrel
            have hbx := HS.out.box HB0.out HBB.out
            have c0 := hbx.cell (i := 0) rfl
            have c1 := hbx.cell (i := 1) rfl
            clear hbx
            by_cases hlt3 : t + 1 < i
            · skip
              have hlt3' : (t : Int) < (i : Int) - 1 := by omega
              have hds : d'.size = N := HU.out.size.trans hs
              have hsw := H.swaps HS.out.sw hds t (t + 1) (by omega) (by omega)
              simp only [Int.natCast_add, Int.cast_ofNat_Int] at hsw
              have HSW := Lib.hid hsw
              clear hsw
              go_wp2_with fail
              rw [HSW.out, Oper.upon_value]
              go_wp2_with fail
              go_roundw
              case rel => exact ⟨t + 1, swp d' t (t + 1), by go_num, by omega, by omega, Lib.hid (HU.out.step hat (by omega)), Lib.hid (permIn_trans _ _ _ _ _ HP.out (swp_permIn d' a b t (t + 1) (by omega) (by omega) (by omega) (by omega) (by omega))), Lib.hid (HS.out.swap H hds _ _ (by omega) (by omega))⟩
              case measure => simp [intOf] <;> omega
            · skip
              have hlt3' : ¬ (t : Int) < (i : Int) - 1 := by omega
              have hti' : t = i - 1 := by omega
              have HTI := Lib.hid hti'
              clear hti'
              go_wp2_with fail
              refine bodyPost_ret (results_none rfl _ _ _) rfl ?_
              have hti' := HTI.out
              subst hti'
              exact ⟨rfl, d', HP.out, up_sorted H.swo (by omega) (by omega) (by omega) HS2.out HLR.out.1 HLR.out.2 HU.out, HS0.out.2.trans HS.out⟩
    · by_cases cB : b = m + 1
      · skip
        have hA : ((m : Int) - a == 1) = false := by simp; omega
        have hB : ((b : Int) - m == 1) = true := by simp; omega
        have cB1 : b ≤ m + 1 := by omega
        clear cB
        go_enter Try.func73, Try.ntmps73
        go_wp2_with fail
        rw [HW1.out]
        clear hbb
        go_loopw [12, 13] (fun iv jv wr => ∃ (i j q : Nat), iv = .int .i64 i ∧ jv = .int .i64 j ∧ i ≤ j ∧ a ≤ i ∧ j ≤ m ∧ Hid (i = a ∨ lt dk[m]! dk[i - 1]! = false) ∧ Hid (j = m ∨ lt dk[m]! dk[j]! = true) ∧ Hid (SK enc w0 blk off W1 dk wr)) (fun iv jv _ => (intOf jv).toNat - (intOf iv).toNat)
        case atStart => exact ⟨a, m, 0, rfl, rfl, by omega, Nat.le_refl _, Nat.le_refl _, Lib.hid (.inl rfl), Lib.hid (.inl rfl), Lib.hid ⟨HS0.out.1, Kept.refl _ _⟩⟩
        case round =>
          obtain ⟨i, j, q, rfl, rfl, hij, hli, hjr, HL, HR, HS⟩ := hrel
          have hbx := HS.out.box HB0.out HBB.out
          have c0 := hbx.cell (i := 0) rfl
          have c1 := hbx.cell (i := 1) rfl
          clear hbx
          by_cases hlt : i < j
          · skip
            have hlt' : (i : Int) < j := by omega
            obtain ⟨h, hh⟩ : ∃ h, (i + j) / 2 = h := ⟨_, rfl⟩
            have hhI : ((i : Int) + j) / 2 = h := by omega
            have hh1 : i ≤ h := by omega
            have hh2 : h < j := by omega
            have hl := HS.out.sw.less H.les hs (m) (h) (by omega) (by omega)
            obtain ⟨r, hr⟩ : ∃ r, lt dk[m]! dk[h]! = r := ⟨_, rfl⟩
            rw [hr] at hl
            have HRR := Lib.hid hr
            have HLL := Lib.hid hl
            clear hl hr hh
            cases r with
            | true =>
              go_wp2_with (go_at_fn g; refine HLL.out.mono ?_; rintro e w2 ⟨rfl, q2, rfl⟩)
              go_roundw
              case rel => exact ⟨i, h, q, by go_num, by go_num, by omega, by omega, by omega, HL, Lib.hid (.inr HRR.out), Lib.hid (HS.out.drewN q2)⟩
              case measure => simp [intOf] <;> omega
            | false =>
              go_wp2_with (go_at_fn g; refine HLL.out.mono ?_; rintro e w2 ⟨rfl, q2, rfl⟩)
              go_roundw
              case rel => exact ⟨h + 1, j, q, by go_num, by go_num, by omega, by omega, by omega, Lib.hid (.inr HRR.out), HR, Lib.hid (HS.out.drewN q2)⟩
              case measure => simp [intOf] <;> omega
          · skip
            have hlt' : ¬ (i : Int) < j := by omega
            obtain rfl : i = j := by omega
            have HLR := Lib.hid (show _ ∧ _ from ⟨HL.out, HR.out⟩)
            clear c0 c1
            go_wp2_with fail
            go_loopw [15] (fun kv w3 => ∃ (t : Nat) (d' : Array α), kv = .int .i64 t ∧ i ≤ t ∧ t ≤ m ∧ Hid (DownTo m t dk d') ∧ Hid (PermIn a b dk d') ∧ Hid (SK enc w0 blk off W1 d' w3)) (fun kv _ => (intOf kv).toNat)
            case atStart => exact ⟨m, dk, rfl, by omega, Nat.le_refl _, Lib.hid (DownTo.zero m dk), Lib.hid (permIn_refl _ _ _), HS⟩
            case round =>
              clear HS
              obtain ⟨t, d', rfl, hit, htm, HU, HP, HS⟩ := hrel
              have hbx := HS.out.box HB0.out HBB.out
              have c0 := hbx.cell (i := 0) rfl
              have c1 := hbx.cell (i := 1) rfl
              clear hbx
              by_cases hlt3 : i < t
              · skip
                have hlt3' : (i : Int) < t := by omega
                obtain ⟨u, rfl⟩ : ∃ u, t = u + 1 := ⟨t - 1, by omega⟩
                have hds : d'.size = N := HU.out.size.trans hs
                have hsw := H.swaps HS.out.sw hds (u + 1) u (by omega) (by omega)
                rw [show (((u + 1 : Nat) : Int)) = (u : Int) + 1 by omega] at hsw
                have hui : (u : Int) + 1 - 1 = u := by omega
                have HSW := Lib.hid hsw
                clear hsw
                go_wp2_with fail
                rw [HSW.out, Oper.upon_value]
                go_wp2_with fail
                go_roundw
                case rel => exact ⟨u, swp d' (u + 1) u, by first | rfl | go_num, by omega, by omega, Lib.hid (HU.out.step htm (by omega)), Lib.hid (permIn_trans _ _ _ _ _ HP.out (swp_permIn d' a b (u + 1) u (by omega) (by omega) (by omega) (by omega) (by omega))), Lib.hid (HS.out.swap H hds _ _ (by omega) (by omega))⟩
                case measure => simp [intOf] <;> omega
              · skip
                have hlt3' : ¬ (i : Int) < t := by omega
                have hti' : t = i := by omega
                have HTI := Lib.hid hti'
                clear hti'
                go_wp2_with fail
                refine bodyPost_ret (results_none rfl _ _ _) rfl ?_
                have hti' := HTI.out
                subst hti'
                exact ⟨rfl, d', HP.out, down_sorted H.swo (by omega) (by omega) (by omega) HS1.out HLR.out.1 HLR.out.2 HU.out, HS0.out.2.trans HS.out⟩
      · skip
        have hA : ((m : Int) - a == 1) = false := by simp; omega
        have hB : ((b : Int) - m == 1) = false := by simp; omega
        obtain ⟨mid, hmid⟩ : ∃ x, (a + b) / 2 = x := ⟨_, rfl⟩
        have hmidI : ((a : Int) + b) / 2 = mid := by omega
        go_enter Try.func73, Try.ntmps73
        go_upto_if 106 with fail
        rw [HW1.out]
        clear hbb
        go_cut [18, 19] (fun sv rv wx => ∃ lo hi : Nat, sv = .int .i64 lo ∧ rv = .int .i64 hi ∧ W1 = wx ∧ a ≤ lo ∧ mid + m ≤ lo + b ∧ lo ≤ hi ∧ hi ≤ m ∧ hi ≤ mid ∧ Hid ((lo = a ∨ mid + m = lo + b) ∧ (hi = mid ∨ hi = m)))
        case first =>
          by_cases cG : mid < m
          · have cG' : (mid : Int) < m := by omega
            go_wp2_with fail
            go_meet
            exact ⟨mid + m - b, mid, by congr 1; omega, rfl, rfl, by omega, by omega, by omega, by omega, by omega, Lib.hid ⟨by omega, by omega⟩⟩
          · have cG' : ¬ (mid : Int) < m := by omega
            go_wp2_with fail
            go_meet
            exact ⟨a, m, rfl, rfl, rfl, by omega, by omega, by omega, by omega, by omega, Lib.hid ⟨by omega, by omega⟩⟩
        case rest =>
          obtain ⟨lo, hi, rfl, rfl, rfl, f1, f2, f3, f4, f5, HLH⟩ := hcut
          go_wp2_with fail
          go_loopw [18, 19] (fun iv jv wr => ∃ (i j q : Nat), iv = .int .i64 i ∧ jv = .int .i64 j ∧ i ≤ j ∧ lo ≤ i ∧ j ≤ hi ∧ Hid (i = lo ∨ lt dk[mid + m - 1 - (i - 1)]! dk[i - 1]! = false) ∧ Hid (j = hi ∨ lt dk[mid + m - 1 - j]! dk[j]! = true) ∧ Hid (SK enc w0 blk off W1 dk wr)) (fun iv jv _ => (intOf jv).toNat - (intOf iv).toNat)
          case atStart => exact ⟨lo, hi, 0, rfl, rfl, by omega, Nat.le_refl _, Nat.le_refl _, Lib.hid (.inl rfl), Lib.hid (.inl rfl), Lib.hid ⟨HS0.out.1, Kept.refl _ _⟩⟩
          case round =>
            obtain ⟨i, j, q, rfl, rfl, hij, hli, hjr, HL, HR, HS⟩ := hrel
            have hbx := HS.out.box HB0.out HBB.out
            have c0 := hbx.cell (i := 0) rfl
            have c1 := hbx.cell (i := 1) rfl
            clear hbx
            by_cases hlt : i < j
            · skip
              have hlt' : (i : Int) < j := by omega
              obtain ⟨h, hh⟩ : ∃ h, (i + j) / 2 = h := ⟨_, rfl⟩
              have hhI : ((i : Int) + j) / 2 = h := by omega
              have hh1 : i ≤ h := by omega
              have hh2 : h < j := by omega
              have hl := HS.out.sw.less H.les hs (mid + m - 1 - h) (h) (by omega) (by omega)
              rw [show ((mid + m - 1 - h : Nat) : Int) = (mid : Int) + m - 1 - h by omega] at hl
              obtain ⟨r, hr⟩ : ∃ r, lt dk[mid + m - 1 - h]! dk[h]! = r := ⟨_, rfl⟩
              rw [hr] at hl
              have HRR := Lib.hid hr
              have HLL := Lib.hid hl
              clear hl hr hh
              cases r with
              | true =>
                go_wp2_with (go_at_fn g; refine HLL.out.mono ?_; rintro e w2 ⟨rfl, q2, rfl⟩)
                go_roundw
                case rel => exact ⟨i, h, q, by go_num, by go_num, by omega, by omega, by omega, HL, Lib.hid (.inr HRR.out), Lib.hid (HS.out.drewN q2)⟩
                case measure => simp [intOf] <;> omega
              | false =>
                go_wp2_with (go_at_fn g; refine HLL.out.mono ?_; rintro e w2 ⟨rfl, q2, rfl⟩)
                go_roundw
                case rel => exact ⟨h + 1, j, q, by go_num, by go_num, by omega, by omega, by omega, Lib.hid (.inr (by rw [show h + 1 - 1 = h from by omega]; exact HRR.out)), HR, Lib.hid (HS.out.drewN q2)⟩
                case measure => simp [intOf] <;> omega
            · skip
              have hlt' : ¬ (i : Int) < j := by omega
              obtain rfl : i = j := by omega
              obtain ⟨en, hen⟩ : ∃ x, mid + m - i = x := ⟨_, rfl⟩
              have henI : (mid : Int) + m - i = en := by omega
              have g1 : m ≤ en := by omega
              have g2 : en ≤ b := by omega
              have g3 : i ≤ m := by omega
              have g4 : i ≤ mid := by omega
              have g5 : mid ≤ en := by omega
              have HCUT : Hid (∀ d', RotOf i m en dk d' → SortedIn lt a i d' ∧ SortedIn lt i mid d' ∧ SortedIn lt mid en d' ∧ SortedIn lt en b d' ∧ Apart lt a mid b d') := Lib.hid (fun d' hrot => cut_apart (n := mid + m) H.swo hmid.symm rfl ham hmb HS1.out HS2.out (by omega) g3 g4 (by omega) hen.symm (by rcases HL.out with h | h; (rcases HLH.out.1 with h2 | h2; exact .inl (by omega); exact .inr (.inl (by omega))); exact .inr (.inr h)) (by rcases HR.out with h | h; (rcases HLH.out.2 with h2 | h2; exact .inl (by omega); exact .inr (.inl (by omega))); exact .inr (.inr h)) hrot)
              clear HL HR HLH
              go_upto_region 40 with fail
              go_cut [145] (fun c wx => c = .bool (decide (i < m ∧ m < en)) ∧ wr = wx)
              case first =>
                by_cases t1 : i < m
                · have t1' : (i : Int) < m := by omega
                  by_cases t2 : m < en
                  · have t2' : (m : Int) < en := by omega
                    go_wp2_with fail
                    go_meet
                    exact ⟨by rw [decide_eq_true ⟨t1, t2⟩], rfl⟩
                  · have t2' : ¬ (m : Int) < en := by omega
                    go_wp2_with fail
                    go_meet
                    exact ⟨by rw [decide_eq_false (fun h => t2 h.2)], rfl⟩
                · have t1' : ¬ (i : Int) < m := by omega
                  go_wp2_with fail
                  go_meet
                  exact ⟨by rw [decide_eq_false (fun h => t1 h.1)], rfl⟩
              case rest =>
                obtain ⟨rfl, rfl⟩ := hcut
                go_upto_if 145 with fail
                go_cut [] (fun wx => ∃ d3 : Array α, Hid (RotOf i m en dk d3) ∧ Hid (PermIn a b dk d3) ∧ Hid (SK enc w0 blk off W1 d3 wx))
                case first =>
                  by_cases hrot : i < m ∧ m < en
                  · have HC0 := Lib.hid (rotate_any H dk wr HS.out.sw hs i m en hrot.1 hrot.2 (by omega))
                    rw [decide_eq_true hrot]
                    go_wp2_with fail
                    refine HC0.out.mono ?_
                    rintro e w3 ⟨rfl, d3, hr3, hp3, hk3⟩
                    go_wp2_with fail
                    go_meet
                    exact ⟨d3, Lib.hid hr3, Lib.hid (permIn_mono _ _ _ _ _ _ (by omega) g2 (by omega) hp3), Lib.hid (HS.out.trans hk3)⟩
                  · rw [decide_eq_false hrot]
                    go_wp2_with fail
                    go_meet
                    exact ⟨dk, Lib.hid (RotOf.triv dk hrot g3 g1), Lib.hid (permIn_refl _ _ _), HS⟩
                case rest =>
                  obtain ⟨d3, HR3, HP3, HS3⟩ := hcut
                  obtain ⟨k1, k2, k3, k4, k5⟩ := HCUT.out d3 HR3.out
                  have HK := Lib.hid (show _ ∧ _ ∧ _ ∧ _ ∧ _ from ⟨k1, k2, k3, k4, k5⟩)
                  clear k1 k2 k3 k4 k5 HS c0 c1 HR3 HCUT
                  have HZ1 : Hid (d3.size = N) := Lib.hid (HP3.out.1.trans hs)
                  obtain ⟨w3, hw3⟩ : ∃ x, wc = x := ⟨_, rfl⟩
                  rw [hw3] at HS3 ⊢
                  clear hw3
                  have hbx := SK.box (HS3.out) HB0.out HBB.out
                  have c0 := hbx.cell (i := 0) rfl
                  have c1 := hbx.cell (i := 1) rfl
                  clear hbx
                  go_upto_region 42 with fail
                  go_cut [158] (fun c wx => c = .bool (decide (a < i ∧ i < mid)) ∧ w3 = wx)
                  case first =>
                    by_cases t1 : a < i
                    · have t1' : (a : Int) < i := by omega
                      by_cases t2 : i < mid
                      · have t2' : (i : Int) < mid := by omega
                        go_wp2_with fail
                        go_meet
                        exact ⟨by rw [decide_eq_true ⟨t1, t2⟩], rfl⟩
                      · have t2' : ¬ (i : Int) < mid := by omega
                        go_wp2_with fail
                        go_meet
                        exact ⟨by rw [decide_eq_false (fun h => t2 h.2)], rfl⟩
                    · have t1' : ¬ (a : Int) < i := by omega
                      go_wp2_with fail
                      go_meet
                      exact ⟨by rw [decide_eq_false (fun h => t1 h.1)], rfl⟩
                  case rest =>
                    obtain ⟨rfl, rfl⟩ := hcut
                    go_upto_if 158 with fail
                    go_cut [] (fun wx => ∃ d4 : Array α, Hid (PermIn a mid d3 d4) ∧ Hid (SortedIn lt a mid d4) ∧ Hid (SK enc w0 blk off W1 d4 wx))
                    case first =>
                      by_cases hL : a < i ∧ i < mid
                      · have HC1 := Lib.hid (IH.out d3 _ a i mid HS3.out.sw HZ1.out (by omega) hL.1 hL.2 (by omega) HK.out.1 HK.out.2.1)
                        rw [decide_eq_true hL]
                        go_wp2_with fail
                        refine HC1.out.mono ?_
                        rintro e w4 ⟨rfl, d4, hp4, hs4, hk4⟩
                        go_wp2_with fail
                        go_meet
                        exact ⟨d4, Lib.hid hp4, Lib.hid hs4, Lib.hid (HS3.out.trans hk4)⟩
                      · rw [decide_eq_false hL]
                        go_wp2_with fail
                        go_meet
                        exact ⟨d3, Lib.hid (permIn_refl _ _ _), Lib.hid (sorted_triv HK.out.1 HK.out.2.1 hL (by omega) g4), HS3⟩
                    case rest =>
                      obtain ⟨d4, HP4, HS4, HK4⟩ := hcut
                      have HZ2 : Hid (d4.size = N) := Lib.hid (HP4.out.1.trans HZ1.out)
                      have HR1 : Hid (SortedIn lt mid en d4 ∧ SortedIn lt en b d4) := Lib.hid ⟨sorted_same HK.out.2.2.1 (fun k h1 h2 => HP4.out.2.1 k (.inr h1)), sorted_same HK.out.2.2.2.1 (fun k h1 h2 => HP4.out.2.1 k (.inr (by omega)))⟩
                      clear HS3 c0 c1
                      have HFIN : Hid (∀ d5 w5, PermIn mid b d4 d5 → SortedIn lt mid b d5 → SK enc w0 blk off W1 d5 w5 → ∃ d', PermIn a b dk d' ∧ SortedIn lt a b d' ∧ SK enc w0 blk off w d' w5) := Lib.hid (fun d5 w5 p5 s5 k5 => ⟨d5, permIn_trans _ _ _ _ _ HP3.out (permIn_trans _ _ _ _ _ (permIn_mono _ _ _ _ _ _ (Nat.le_refl _) (by omega) (by have := HZ1.out; omega) HP4.out) (permIn_mono _ _ _ _ _ _ (by omega) (Nat.le_refl _) (by have := HZ2.out; omega) p5)), sorted_join (sorted_same HS4.out (fun k h1 h2 => p5.2.1 k (.inl h2))) s5 (Apart.perm HK.out.2.2.2.2 (by have := HZ1.out; omega) (by omega) (by omega) HP4.out p5), HS0.out.2.trans k5⟩)
                      obtain ⟨w4, hw4⟩ : ∃ x, wc = x := ⟨_, rfl⟩
                      rw [hw4] at HK4 ⊢
                      clear hw4
                      have hbx := SK.box (HK4.out) HB0.out HBB.out
                      have c0 := hbx.cell (i := 0) rfl
                      have c1 := hbx.cell (i := 1) rfl
                      clear hbx
                      go_upto_region 44 with fail
                      go_cut [171] (fun c wx => c = .bool (decide (mid < en ∧ en < b)) ∧ w4 = wx)
                      case first =>
                        by_cases t1 : mid < en
                        · have t1' : (mid : Int) < en := by omega
                          by_cases t2 : en < b
                          · have t2' : (en : Int) < b := by omega
                            go_wp2_with fail
                            go_meet
                            exact ⟨by rw [decide_eq_true ⟨t1, t2⟩], rfl⟩
                          · have t2' : ¬ (en : Int) < b := by omega
                            go_wp2_with fail
                            go_meet
                            exact ⟨by rw [decide_eq_false (fun h => t2 h.2)], rfl⟩
                        · have t1' : ¬ (mid : Int) < en := by omega
                          go_wp2_with fail
                          go_meet
                          exact ⟨by rw [decide_eq_false (fun h => t1 h.1)], rfl⟩
                      case rest =>
                        obtain ⟨rfl, rfl⟩ := hcut
                        by_cases hRr : mid < en ∧ en < b
                        · have HC2 := Lib.hid (IH.out d4 _ mid en b HK4.out.sw HZ2.out (by omega) hRr.1 hRr.2 hb HR1.out.1 HR1.out.2)
                          rw [decide_eq_true hRr]
                          go_wp2_with fail
                          refine HC2.out.mono ?_
                          rintro e w5 ⟨rfl, d5, hp5, hs5, hk5⟩
                          have HE5 := Lib.hid (show _ ∧ _ ∧ _ from ⟨hp5, hs5, hk5⟩)
                          clear hp5 hs5 hk5 c0 c1
                          go_wp2_with fail
                          go_end0
                          exact ⟨rfl, HFIN.out d5 _ HE5.out.1 HE5.out.2.1 (HK4.out.trans HE5.out.2.2)⟩
                        · rw [decide_eq_false hRr]
                          go_wp2_with fail
                          go_end0
                          exact ⟨rfl, HFIN.out d4 _ (permIn_refl _ _ _) (sorted_triv HR1.out.1 HR1.out.2 hRr g5 g2) HK4.out⟩
/-- What insertionSort_func does. -/
def InsSaid (enc : α → Value) (lt : α → α → Bool) (g : Nat) (lb : Array Value) (sf : Nat) (sb : Array Value) (blk off N : Nat) (w0 : World) : Prop :=
  ∀ (dk : Array α) (w : World) (a b : Nat), SW enc w0 blk off dk w → dk.size = N → a ≤ b → b ≤ N →
    Calls Try.prog 72 #[.agg #[.func (.func g) #[] lb, .func (.func sf) #[] sb], .int .i64 a, .int .i64 b] w fun e w' => e = .returned (.tuple #[]) ∧ ∃ d', PermIn a b dk d' ∧ SortedIn lt a b d' ∧ SK enc w0 blk off w d' w'
/-- Each block of L places below n is sorted. -/
def BlkS (lt : α → α → Bool) (L n : Nat) (d : Array α) : Prop := ∀ p q, p < q → q < n → p / L = q / L → lt d[q]! d[p]! = false
/-- .. and above a. -/
def BlkA (lt : α → α → Bool) (L a n : Nat) (d : Array α) : Prop := ∀ p q, a ≤ p → p < q → q < n → p / L = q / L → lt d[q]! d[p]! = false
theorem div_in {L t a p : Nat} (hL : 0 < L) (ha : a = L * t) (h1 : a ≤ p) (h2 : p < a + L) : p / L = t := by
  subst ha
  rw [Nat.div_eq_iff hL]
  have e : t * L = L * t := Nat.mul_comm _ _
  omega
theorem div_ge {L t a p : Nat} (hL : 0 < L) (ha : a = L * t) (h1 : p < a) : p / L < t := by
  subst ha
  rw [Nat.div_lt_iff_lt_mul hL]
  rwa [Nat.mul_comm] at h1
theorem BlkS.next {L a b t : Nat} {d d' : Array α} (h : BlkS lt L a d) (hL : 0 < L) (ha : a = L * t) (hab : a ≤ b) (hb : b ≤ a + L) (hp : PermIn a b d d') (hs : SortedIn lt a b d') : BlkS lt L b d' := by
  intro p q h1 h2 h3
  rcases Nat.lt_or_ge q a with hq | hq
  · rw [hp.2.1 q (.inl hq), hp.2.1 p (.inl (by omega))]; exact h p q h1 hq h3
  · have h4 := div_in hL ha hq (by omega)
    rcases Nat.lt_or_ge p a with hp' | hp'
    · have := div_ge hL ha hp'; omega
    · exact hs p q hp' h1 h2
theorem BlkA.run {L a x y n t : Nat} {d : Array α} (h : BlkA lt L a n d) (hL : 0 < L) (hx : x = L * t) (hax : a ≤ x) (hyn : y ≤ n) (hyL : y ≤ x + L) : SortedIn lt x y d := by
  intro p q h1 h2 h3
  exact h p q (by omega) h2 (by omega) (by rw [div_in hL hx h1 (by omega), div_in hL hx (by omega) (by omega)])
theorem BlkA.keep {L a b n : Nat} {d d' : Array α} (h : BlkA lt L a n d) (hab : a ≤ b) (hp : PermIn a b d d') : BlkA lt L b n d' := by
  intro p q h1 h2 h3 h4
  rw [hp.2.1 q (.inr (by omega)), hp.2.1 p (.inr (by omega))]
  exact h p q (by omega) h2 h3 h4
theorem BlkS.above {L n : Nat} {d : Array α} (h : BlkS lt L n d) : BlkA lt L 0 n d := fun p q _ h2 h3 h4 => h p q h2 h3 h4
theorem BlkS.one {L n : Nat} {d : Array α} (h : BlkS lt L n d) (hL : n ≤ L) : SortedIn lt 0 n d := by
  intro p q h1 h2 h3
  exact h p q h2 h3 (by rw [Nat.div_eq_of_lt (by omega), Nat.div_eq_of_lt (by omega)])
theorem BlkS.zero (L : Nat) (d : Array α) : BlkS lt L 0 d := fun p q h1 h2 => by omega
set_option maxHeartbeats 8000000 in
theorem stable_any (H : SC enc lt g lb sf sb blk off N w0) (HI : InsSaid enc lt g lb sf sb blk off N w0) (dk : Array α) (w : World) (hw : SW enc w0 blk off dk w) (hs : dk.size = N) :
    Calls Try.prog 52 #[.agg #[.func (.func g) #[] lb, .func (.func sf) #[] sb], .int .i64 N] w fun e w' => e = .returned (.tuple #[]) ∧ ∃ d', PermIn 0 N dk d' ∧ SortedIn lt 0 N d' ∧ SK enc w0 blk off w d' w' := by
  have HIN := Lib.hid HI
  clear HI
  have hN := H.sml
  have eg := H.eg
  obtain ⟨W1, hW1⟩ : ∃ W1, w.alloc (.cells #[.func (.func g) #[] lb, .func (.func sf) #[] sb] 72) = W1 := ⟨_, rfl⟩
  have HB0 : Hid (Block W1 w.heap.size [.func (.func g) #[] lb, .func (.func sf) #[] sb] 72) := Lib.hid (by rw [← hW1]; exact Block.new w _ _)
  have HS0 : Hid (SW enc w0 blk off dk W1 ∧ SK enc w0 blk off w dk W1) := Lib.hid (by rw [← hW1]; exact ⟨hw.alloc _, SK.alloc hw _⟩)
  obtain ⟨bb, hbb⟩ : ∃ b, w.heap.size = b := ⟨_, rfl⟩
  have HBB : Hid (bb ≠ blk) := Lib.hid (by rw [← hbb]; have := hw.le; have := H.blt; omega)
  have HW1 := Lib.hid hW1
  rw [hbb] at HB0
  clear hW1 hw
  go_enter Try.func52, Try.ntmps52
  go_wp2_with fail
  rw [HW1.out]
  clear hbb
  go_loopw [5, 6] (fun av bv wr => ∃ (a s : Nat) (d' : Array α), av = .int .i64 a ∧ bv = .int .i64 (a + 20 : Nat) ∧ a ≤ N ∧ Hid (a = 20 * s) ∧ Hid (BlkS lt 20 a d') ∧ Hid (PermIn 0 N dk d') ∧ Hid (SK enc w0 blk off W1 d' wr)) (fun av _ _ => N - (intOf av).toNat)
  case atStart => exact ⟨0, 0, dk, rfl, rfl, Nat.zero_le _, Lib.hid rfl, Lib.hid (BlkS.zero _ _), Lib.hid (permIn_refl _ _ _), Lib.hid ⟨HS0.out.1, Kept.refl _ _⟩⟩
  case round =>
    obtain ⟨a, s, d', rfl, rfl, haN, HA, HBS, HP, HS⟩ := hrel
    have HDS : Hid (d'.size = N) := Lib.hid (HP.out.1.trans hs)
    have hbx := HS.out.box HB0.out HBB.out
    have c0 := hbx.cell (i := 0) rfl
    have c1 := hbx.cell (i := 1) rfl
    clear hbx
    by_cases hlt : a + 20 ≤ N
    · skip
      have hlt' : (a : Int) + 20 ≤ N := by omega
      have hcast : ((a + 20 : Nat) : Int) = (a : Int) + 20 := by omega
      have hc := HIN.out d' wr a (a + 20) HS.out.sw HDS.out (by omega) hlt
      rw [hcast] at hc
      have HC := Lib.hid hc
      clear hc
      skip
      go_wp2_with fail
      refine HC.out.mono ?_
      rintro e w2 ⟨rfl, d2, hp2, hs2, hk2⟩
      have HE := Lib.hid (show _ ∧ _ ∧ _ from ⟨hp2, hs2, hk2⟩)
      clear hp2 hs2 hk2 c0 c1
      go_wp2_with fail
      go_roundw
      case rel => exact ⟨a + 20, s + 1, d2, by go_num, by go_num, hlt, Lib.hid (by have := HA.out; omega), Lib.hid (HBS.out.next (by omega) HA.out (by omega) (Nat.le_refl _) HE.out.1 HE.out.2.1), Lib.hid (permIn_trans _ _ _ _ _ HP.out (permIn_mono _ _ _ _ _ _ (Nat.zero_le _) (hlt) (by have := HDS.out; omega) HE.out.1)), Lib.hid (HS.out.trans HE.out.2.2)⟩
      case measure => simp [intOf] <;> omega
    · skip
      have hlt' : ¬ (a : Int) + 20 ≤ N := by omega
      have hcast : ((a + 20 : Nat) : Int) = (a : Int) + 20 := by omega
      have HC := Lib.hid (HIN.out d' wr a N HS.out.sw HDS.out haN (Nat.le_refl _))
      go_wp2_with fail
      refine HC.out.mono ?_
      rintro e w2 ⟨rfl, d2, hp2, hs2, hk2⟩
      have HBS2 : Hid (BlkS lt 20 N d2) := Lib.hid (HBS.out.next (by omega) HA.out haN (by omega) hp2 hs2)
      have HP2 : Hid (PermIn 0 N dk d2) := Lib.hid (permIn_trans _ _ _ _ _ HP.out (permIn_mono _ _ _ _ _ _ (Nat.zero_le _) (Nat.le_refl _) (by have := HDS.out; omega) hp2))
      have HS2 : Hid (SK enc w0 blk off W1 d2 w2) := Lib.hid (HS.out.trans hk2)
      clear hp2 hs2 hk2 c0 c1 HC HS HP HBS HA HDS hcast
      go_wp2_with fail
      go_loopw [4] (fun lv wr => ∃ (L : Nat) (d' : Array α), lv = .int .i64 L ∧ 20 ≤ L ∧ L ≤ 2 * N + 20 ∧ Hid (BlkS lt L N d') ∧ Hid (PermIn 0 N dk d') ∧ Hid (SK enc w0 blk off W1 d' wr)) (fun lv _ => N - (intOf lv).toNat)
      case atStart => exact ⟨20, d2, rfl, Nat.le_refl _, by omega, HBS2, HP2, HS2⟩
      case round =>
        clear HBS2 HP2 HS2
        obtain ⟨L, d', rfl, hL, hLN, HBS, HP, HS⟩ := hrel
        have HDS : Hid (d'.size = N) := Lib.hid (HP.out.1.trans hs)
        have hbx := HS.out.box HB0.out HBB.out
        have c0 := hbx.cell (i := 0) rfl
        have c1 := hbx.cell (i := 1) rfl
        clear hbx
        by_cases hltL : L < N
        · skip
          have hltL' : (L : Int) < N := by omega
          go_wp2_with fail
          go_loopw [5, 6] (fun av bv w3 => ∃ (a s : Nat) (d3 : Array α), av = .int .i64 a ∧ bv = .int .i64 (a + 2 * L : Nat) ∧ a ≤ N ∧ Hid (a = 2 * L * s) ∧ Hid (BlkS lt (2 * L) a d3) ∧ Hid (BlkA lt L a N d3) ∧ Hid (PermIn 0 N dk d3) ∧ Hid (SK enc w0 blk off W1 d3 w3)) (fun av _ _ => N - (intOf av).toNat)
          case atStart => exact ⟨0, 0, d', rfl, by go_num, Nat.zero_le _, Lib.hid rfl, Lib.hid (BlkS.zero _ _), Lib.hid HBS.out.above, HP, HS⟩
          case round =>
            clear c0 c1 HDS HBS HP HS
            rename World => w3
            obtain ⟨a, s, d3, rfl, rfl, haN, HA, HBS, HBA, HP, HS⟩ := hrel
            have HDS : Hid (d3.size = N) := Lib.hid (HP.out.1.trans hs)
            have hbx := HS.out.box HB0.out HBB.out
            have c0 := hbx.cell (i := 0) rfl
            have c1 := hbx.cell (i := 1) rfl
            clear hbx
            have hcast : ((a + 2 * L : Nat) : Int) = (a : Int) + 2 * L := by omega
            have hcast2 : ((a + L : Nat) : Int) = (a : Int) + L := by omega
            have HT1 : Hid (a = L * (2 * s)) := Lib.hid (by rw [HA.out, Nat.mul_comm 2 L, Nat.mul_assoc])
            have HT2 : Hid (a + L = L * (2 * s + 1)) := Lib.hid (by rw [Nat.mul_add, ← HT1.out, Nat.mul_one])
            by_cases hlt : a + 2 * L ≤ N
            · skip
              have hlt' : (a : Int) + 2 * L ≤ N := by omega
              have hc := symMerge_any H (a + 2 * L - a) d3 w3 a (a + L) (a + 2 * L) HS.out.sw HDS.out (Nat.le_refl _) (by omega) (by omega) hlt (HBA.out.run (by omega) HT1.out (Nat.le_refl _) (by omega) (Nat.le_refl _)) (HBA.out.run (by omega) HT2.out (by omega) hlt (by omega))
              rw [hcast, hcast2] at hc
              have HC := Lib.hid hc
              clear hc
              go_wp2_with fail
              refine HC.out.mono ?_
              rintro e w4 ⟨rfl, d4, hp4, hs4, hk4⟩
              have HE := Lib.hid (show _ ∧ _ ∧ _ from ⟨hp4, hs4, hk4⟩)
              clear hp4 hs4 hk4 c0 c1 HC
              go_wp2_with fail
              go_roundw
              case rel => exact ⟨a + 2 * L, s + 1, d4, by go_num, by go_num, hlt, Lib.hid (by rw [Nat.mul_add, ← HA.out, Nat.mul_one]), Lib.hid (HBS.out.next (by omega) HA.out (by omega) (Nat.le_refl _) HE.out.1 HE.out.2.1), Lib.hid (HBA.out.keep (by omega) HE.out.1), Lib.hid (permIn_trans _ _ _ _ _ HP.out (permIn_mono _ _ _ _ _ _ (Nat.zero_le _) (hlt) (by have := HDS.out; omega) HE.out.1)), Lib.hid (HS.out.trans HE.out.2.2)⟩
              case measure => simp [intOf] <;> omega
            · skip
              have hlt' : ¬ (a : Int) + 2 * L ≤ N := by omega
              by_cases hm : a + L < N
              · skip
                have hm' : (a : Int) + L < N := by omega
                have hc := symMerge_any H (N - a) d3 w3 a (a + L) N HS.out.sw HDS.out (Nat.le_refl _) (by omega) hm (Nat.le_refl _) (HBA.out.run (by omega) HT1.out (Nat.le_refl _) (by omega) (Nat.le_refl _)) (HBA.out.run (by omega) HT2.out (by omega) (Nat.le_refl _) (by omega))
                rw [hcast2] at hc
                have HC := Lib.hid hc
                clear hc
                go_wp2_with fail
                refine HC.out.mono ?_
                rintro e w4 ⟨rfl, d4, hp4, hs4, hk4⟩
                have HB4 : Hid (BlkS lt (2 * L) N d4) := Lib.hid (HBS.out.next (by omega) HA.out haN (by omega) hp4 hs4)
                have HP4 : Hid (PermIn 0 N dk d4) := Lib.hid (permIn_trans _ _ _ _ _ HP.out (permIn_mono _ _ _ _ _ _ (Nat.zero_le _) (Nat.le_refl _) (by have := HDS.out; omega) hp4))
                have HS4 : Hid (SK enc w0 blk off W1 d4 w4) := Lib.hid (HS.out.trans hk4)
                clear hp4 hs4 hk4 c0 c1 HC
                go_wp2_with fail
                go_roundw
                case rel => exact ⟨2 * L, d4, by first | go_num | (congr 1; omega), by omega, by omega, Lib.hid HB4.out, HP4, HS4⟩
                case measure => simp [intOf] <;> omega
              · skip
                have hm' : ¬ (a : Int) + L < N := by omega
                have HB4 : Hid (BlkS lt (2 * L) N d3) := Lib.hid (HBS.out.next (by omega) HA.out haN (by omega) (permIn_refl _ _ _) (HBA.out.run (by omega) HT1.out (Nat.le_refl _) (Nat.le_refl _) (by omega)))
                have HP4 := HP
                have HS4 := HS
                go_wp2_with fail
                go_roundw
                case rel => exact ⟨2 * L, d3, by first | go_num | (congr 1; omega), by omega, by omega, Lib.hid HB4.out, HP4, HS4⟩
                case measure => simp [intOf] <;> omega
        · skip
          have hltL' : ¬ (L : Int) < N := by omega
          have HSO : Hid (SortedIn lt 0 N d') := Lib.hid (HBS.out.one (by omega))
          go_wp2_with fail
          go_end0
          exact ⟨rfl, d', HP.out, HSO.out, HS0.out.2.trans HS.out⟩
end
end Go.Proofs.Ytdkgjbjlpofieaa
