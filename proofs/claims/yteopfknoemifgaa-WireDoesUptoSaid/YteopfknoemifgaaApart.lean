/- Layer 9: the walk of WireApart. Conditions: the arguments can be read; the bytes are together at most 1048576. -/
import Derived.Test.YteopfknoemifgaaP9
import Derived.Test.YteopfknoemifgaaMore
namespace Go.Proofs.Yteopfknoemifgaa
open Go.RowKit
set_option linter.unusedSimpArgs false
set_option linter.unusedVariables false

theorem line0 {N : List (Option Line)} {x : Line} (h : N[0]? = some (some x)) : lineAt N 1 = some (0, x) := lineAt_mk (i := 0) h
theorem take0 {N : List (Option Line)} {x : Line} (h : N[0]? = some (some x)) (k : Nat) : takeE N 1 k = 0 ∧ takenN N 1 k = x.way.take k ∧ (takeN N 1 k)[0]? = some (some { x with way := x.way.drop k }) := by
  have h1 := line0 h
  have h3 : takeE N 1 k = 0 := by unfold takeE; rw [h1, if_neg (by simp), if_neg (by omega)]
  refine ⟨h3, by unfold takenN; rw [if_pos h3, h1]; simp, ?_⟩
  unfold takeN setLine
  rw [if_pos h3, h1]
  simp only [Int.toNat_natCast]
  rw [List.getElem?_set_self (List.getElem?_eq_some_iff.1 h).1]
theorem got0 {N : List (Option Line)} {x : Line} (h : N[0]? = some (some x)) : gotN N 1 = x.back := by unfold gotN; rw [line0 h]
theorem over0 {N : List (Option Line)} {x : Line} (h : N[0]? = some (some x)) (hc : x.cut = false) : overN N 1 = false := by unfold overN; rw [line0 h]; simp [hc]
theorem act_cells {W wr : World} {a : Option Addr} {os : List Act} (hc : Cells W.heap.size W a (os.flatMap Act.cells)) (hb : Below W.heap.size W wr) {k : Nat} {o : Act} (hk : os[k]? = some o) :
    ∃ b off, a = some ⟨b, off, none⟩ ∧ b < W.heap.size ∧ wr.cell? ⟨b, off + k * 4, none⟩ = some (.int .i64 o.kind) ∧ wr.cell? ⟨b, off + k * 4 + 1, none⟩ = some (.int .i64 o.c) ∧ wr.cell? ⟨b, off + k * 4 + 2, none⟩ = some (.int .i64 o.n) ∧ wr.cell? ⟨b, off + k * 4 + 3, none⟩ = some (.slice o.b.a o.b.l.length o.b.cap) := by
  obtain ⟨b, off, ha, hbs, hh⟩ := (hc.below hb (Nat.le_refl _)).elem (size := 4) (fun _ _ => rfl) (by omega) hk
  exact ⟨b, off, ha, hbs, hh 0 _ rfl, hh 1 _ rfl, hh 2 _ rfl, hh 3 _ rfl⟩
theorem act_bulk {os : List Act} {M : Nat} (h : (os.map fun o => o.b.l.length).sum ≤ M) {k : Nat} {o : Act} (hk : os[k]? = some o) : o.b.l.length ≤ M := by
  have h1 : os = os.take k ++ o :: os.drop (k + 1) := by
    have h3 := (List.getElem?_eq_some_iff.1 hk)
    obtain ⟨h4, h5⟩ := h3
    rw [← h5, ← List.drop_eq_getElem_cons h4, List.take_append_drop]
  rw [h1] at h
  simp only [List.map_append, List.map_cons, List.sum_append, List.sum_cons] at h
  omega

theorem bytesBulk {H : Type} {enc : TypeId × Value → H} {w : World} {base : Nat} {spare : Nat → Bool} {held : Bool} {fuel : Nat} {a : Option Addr} {len cap : Nat} {x : DataW H × List MemPlace}
    (h : DataW.trod enc Try.prog w base spare held fuel 30 [.slice a len cap] = some x) :
    ∃ l : List UInt8, l.length = len ∧ l.length ≤ Rows.uptoBulk x.1 ∧ (a = none → cap = 0) ∧ Cells w.heap.size w a (bys l) := by
  obtain ⟨⟨a', cap', l⟩, h1, ⟨h2, h3, h4⟩, h5⟩ := bs_of_trod h
  unfold Bs.v at h1
  injection h1 with e1 e2 e3
  subst e1 e2 e3
  exact ⟨l, rfl, h5, h3, h2⟩
theorem got_o {W w : World} {nb : Nat} {N : List (Option Line)} {a : Option Addr} {q : List UInt8} (c : Int) (l : List UInt8) (h : Okay W nb N a q w) (hc : (Lit.int .i64 c).wf = true) (hz : ∀ (i : Nat) (x : Line), N[i]? = some (some x) → x.back.length ≤ 140737488351232) (he : gotN N c = l) :
    Calls Try.prog 18 #[.pointer (some ⟨nb, 0, none⟩), .int .i64 c] w fun e w' => ∃ a9 c9, e = .returned (.slice a9 l.length c9) ∧ Okay W nb N a q w' ∧ Cells w'.heap.size w' a9 (bys l) := by
  have hh := h
  obtain ⟨S, h1, h2, _⟩ := h
  subst he
  exact (got_any h1 c hc hz).mono fun e w' ⟨a9, c9, a1, a2, a3⟩ => ⟨a9, c9, a1, hh.below a3, a2.cells⟩

set_option maxRecDepth 100000 in
set_option maxHeartbeats 4000000 in
theorem apart_walk (a : Option Addr) (cap : Nat) (l : List UInt8) (a2 : Option Addr) (cap2 : Nat) (os : List Act) (W : World) (h1 : l.length ≤ 1048576) (hcap : a = none → cap = 0) (h2 : os.length ≤ maxLen) (hsum : (os.map fun o => o.b.l.length).sum ≤ 1048576)
    (hok : ∀ o ∈ os, o.ok W) (hc : Cells W.heap.size W a (bys l)) (hc2 : Cells W.heap.size W a2 (os.flatMap Act.cells)) :
    Calls Try.prog 6 #[.slice a l.length cap, .slice a2 os.length cap2] W fun e w' => e = .returned (.bool true) ∧ Below W.heap.size W w' := by
  unfold maxLen at h2
  have HC := Lib.hid hc
  have HC2 := Lib.hid hc2
  have HOK := Lib.hid hok
  have HSUM := Lib.hid hsum
  have HCAP := Lib.hid hcap
  clear hc hc2 hok hsum hcap
  go_enter Try.func6, Try.ntmps6
  go_wp2_with fail
  refine (new_h (Below.refl _ _)).mono ?_; rintro e w1 ⟨nb, rfl, hn⟩
  have HN1 := Lib.hid hn
  clear hn
  go_wp2_with fail
  refine (open_h 1 0 [some newLine] HN1.out (by simp) rfl rfl).mono ?_; rintro e w2 ⟨rfl, hn2⟩
  have HN2 := Lib.hid hn2
  clear hn2
  go_wp2_with fail
  refine (send_h 1 0 l [some { way := l, back := [], cut := false }] _ _ _ _ HN2.out (by decide) rfl (HC.out.below HN2.out.is (Nat.le_refl _)) HCAP.out (fun i x hx _ => by rw [one_line hx]; simp [newLine]; omega) rfl rfl).mono ?_; rintro e w3 ⟨rfl, hn3⟩
  have HN3 := Lib.hid hn3
  clear hn3
  go_wp2_with fail
  refine (answer_h 1 0 l [some { way := l, back := l, cut := false }] _ _ _ _ HN3.out (by decide) rfl (HC.out.below HN3.out.is (Nat.le_refl _)) HCAP.out (fun i x hx _ => by rw [one_line hx]; simp; omega) rfl rfl).mono ?_; rintro e w4 ⟨rfl, hn4⟩
  have HN4 := Lib.hid hn4
  clear hn4
  go_wp2_with fail
  go_loopw [8] (fun i wr => ∃ (k : Nat) (N : List (Option Line)), k ≤ os.length ∧ k ≤ 60 ∧ i = .int .i64 k ∧ Hid (N[0]? = some (some { way := l, back := l, cut := false }) ∧ 0 < N.length ∧ N.length ≤ k + 1 ∧ Small N (1048576 * (k + 1))) ∧ Net1 W nb N wr) (fun i _ => os.length - (intOf i).toNat)
  case atStart => exact ⟨0, _, Nat.zero_le _, by omega, rfl, Lib.hid ⟨rfl, by simp, by simp, fun i x hx => by rw [one_line hx]; simp; omega⟩, HN4.out⟩
  case round =>
    obtain ⟨k, N, hk, hk2, rfl, HI, hn⟩ := hrel
    have HNR := Lib.hid hn
    clear hn
    by_cases hlt : k < os.length ∧ k < 60
    · obtain ⟨hlt, hlt2⟩ := hlt
      obtain ⟨o, ho⟩ : ∃ o, os[k]? = some o := ⟨_, List.getElem?_eq_getElem hlt⟩
      have hok := HOK.out o (List.mem_of_getElem? ho)
      have hbl := act_bulk HSUM.out ho
      obtain ⟨b, off, rfl, hbs, c0, c1, c2, c3⟩ := act_cells HC2.out HNR.out.is ho
      clear ho
      by_cases hoc : o.c = 1
      · have hoc' : (o.c == 1) = true := beq_iff_eq.2 hoc
        clear hok
        go_wp2_with fail
        go_roundw
        case rel => exact ⟨k + 1, N, by omega, by omega, by go_num, Lib.hid ⟨HI.out.1, HI.out.2.1, by have := HI.out.2.2.1; omega, HI.out.2.2.2.mono (by omega)⟩, HNR.out.alloc _⟩
        case measure => simp [intOf]; omega
      · have hoc' : (o.c == 1) = false := beq_eq_false_iff_ne.2 hoc
        have HI2 : Hid ((actN N o)[0]? = some (some { way := l, back := l, cut := false }) ∧ 0 < (actN N o).length ∧ (actN N o).length ≤ k + 1 + 1 ∧ Small (actN N o) (1048576 * (k + 1 + 1))) := Lib.hid (by
          obtain ⟨i1, i2, i3, i4⟩ := HI.out
          have h5 := actN_length N o
          exact ⟨(actN_first hoc i2).trans i1, by omega, by omega, (actN_small i4).mono (by omega)⟩)
        obtain ⟨kind, c, n, ⟨ba, bcap, bl⟩⟩ := o
        obtain ⟨⟨o1, o2, o3⟩, o4, o5⟩ := hok
        have HB1 := Lib.hid (fun (u : World) (hu : Below W.heap.size W u) => (o1.below hu (Nat.le_refl _) : Cells W.heap.size u ba (bys bl)))
        have HB2 : Hid (ba = none → bcap = 0) := Lib.hid o2
        have HW1 : Hid ((Lit.int .i64 c).wf = true) := Lib.hid o4
        have HW2 : Hid (n ≤ 9223372036854775807) := Lib.hid (i64_of_wf o5).2
        have HSM : Hid (N.length ≤ 61 ∧ ∀ (i : Nat) (x : Line), N[i]? = some (some x) → x.way.length + bl.length ≤ 140737488351232 ∧ x.back.length + bl.length ≤ 140737488351232) := Lib.hid ⟨by have := HI.out.2.2.1; omega, fun i x hx => by
          have h3 := HI.out.2.2.2 i x hx
          simp only at hbl
          have : 1048576 * (k + 1) ≤ 1048576 * 61 := Nat.mul_le_mul_left _ (by omega)
          omega⟩
        simp only at c0 c1 c2 c3 hoc hoc' hbl
        clear o1 o2 o3 o4 o5 HI
        by_cases hk0 : kind = 0
        · subst hk0
          have HA : Hid (actN N ⟨0, c, n, ⟨ba, bcap, bl⟩⟩ = openedN N) := Lib.hid rfl
          go_wp2_with fail
          refine (open_h _ _ _ (HNR.out.alloc _) (by have := HSM.out.1; omega) rfl rfl).mono ?_; rintro e w5 ⟨rfl, hm⟩
          have HM := Lib.hid hm
          clear hm c0 c1 c2 c3
          go_wp2_with fail
          go_roundw
          case rel => exact ⟨k + 1, _, by omega, by omega, by go_num, HI2, by rw [HA.out]; exact HM.out⟩
          case measure => simp [intOf]; omega
        have q0 : (kind == 0) = false := beq_eq_false_iff_ne.2 hk0
        by_cases hk1 : kind = 1
        · subst hk1
          have HA : Hid (actN N ⟨1, c, n, ⟨ba, bcap, bl⟩⟩ = sendN N c bl) := Lib.hid rfl
          go_wp2_with fail
          refine (send_h c _ bl _ _ _ _ _ (HNR.out.alloc _) HW1.out rfl (HB1.out _ (HNR.out.alloc _).is) HB2.out (fun i x hx _ => (HSM.out.2 i x hx).1) rfl rfl).mono ?_; rintro e w5 ⟨rfl, hm⟩
          have HM := Lib.hid hm
          clear hm c0 c1 c2 c3
          go_wp2_with fail
          go_roundw
          case rel => exact ⟨k + 1, _, by omega, by omega, by go_num, HI2, by rw [HA.out]; exact HM.out⟩
          case measure => simp [intOf]; omega
        have q1 : (kind == 1) = false := beq_eq_false_iff_ne.2 hk1
        by_cases hk2 : kind = 2
        · subst hk2
          have HA : Hid (actN N ⟨2, c, n, ⟨ba, bcap, bl⟩⟩ = takeN N c n) := Lib.hid rfl
          go_wp2_with fail
          refine (take_h c n _ _ _ (HNR.out.alloc _) HW1.out HW2.out (fun i x hx => by have := HSM.out.2 i x hx; omega) rfl rfl rfl).mono ?_; rintro e w5 ⟨a5, cap5, rfl, _, hm⟩
          have HM := Lib.hid hm
          clear hm c0 c1 c2 c3
          go_wp2_with fail
          go_roundw
          case rel => exact ⟨k + 1, _, by omega, by omega, by go_num, HI2, by rw [HA.out]; exact HM.out⟩
          case measure => simp [intOf]; omega
        have q2 : (kind == 2) = false := beq_eq_false_iff_ne.2 hk2
        by_cases hk3 : kind = 3
        · subst hk3
          have HA : Hid (actN N ⟨3, c, n, ⟨ba, bcap, bl⟩⟩ = answerN N c bl) := Lib.hid rfl
          go_wp2_with fail
          refine (answer_h c _ bl _ _ _ _ _ (HNR.out.alloc _) HW1.out rfl (HB1.out _ (HNR.out.alloc _).is) HB2.out (fun i x hx _ => (HSM.out.2 i x hx).2) rfl rfl).mono ?_; rintro e w5 ⟨rfl, hm⟩
          have HM := Lib.hid hm
          clear hm c0 c1 c2 c3
          go_wp2_with fail
          go_roundw
          case rel => exact ⟨k + 1, _, by omega, by omega, by go_num, HI2, by rw [HA.out]; exact HM.out⟩
          case measure => simp [intOf]; omega
        have q3 : (kind == 3) = false := beq_eq_false_iff_ne.2 hk3
        by_cases hk4 : kind = 4
        · subst hk4
          have HA : Hid (actN N ⟨4, c, n, ⟨ba, bcap, bl⟩⟩ = cutN N c n) := Lib.hid rfl
          go_wp2_with fail
          refine (cut_h c n _ _ (HNR.out.alloc _) HW1.out HW2.out (fun i x hx => by have := HSM.out.2 i x hx; omega) rfl rfl).mono ?_; rintro e w5 ⟨rfl, hm⟩
          have HM := Lib.hid hm
          clear hm c0 c1 c2 c3
          go_wp2_with fail
          go_roundw
          case rel => exact ⟨k + 1, _, by omega, by omega, by go_num, HI2, by rw [HA.out]; exact HM.out⟩
          case measure => simp [intOf]; omega
        have q4 : (kind == 4) = false := beq_eq_false_iff_ne.2 hk4
        by_cases hk5 : kind = 5
        · subst hk5
          have HA : Hid (actN N ⟨5, c, n, ⟨ba, bcap, bl⟩⟩ = dropN N c) := Lib.hid rfl
          go_wp2_with fail
          refine (drop_h c _ _ (HNR.out.alloc _) HW1.out (by have := HSM.out.1; omega) rfl rfl).mono ?_; rintro e w5 ⟨rfl, hm⟩
          have HM := Lib.hid hm
          clear hm c0 c1 c2 c3
          go_wp2_with fail
          go_roundw
          case rel => exact ⟨k + 1, _, by omega, by omega, by go_num, HI2, by rw [HA.out]; exact HM.out⟩
          case measure => simp [intOf]; omega
        have q5 : (kind == 5) = false := beq_eq_false_iff_ne.2 hk5
        have HA : Hid (actN N ⟨kind, c, n, ⟨ba, bcap, bl⟩⟩ = N) := Lib.hid (by unfold actN; rw [if_neg hk0, if_neg hk1, if_neg hk2, if_neg hk3, if_neg hk4, if_neg hk5])
        clear hk0 hk1 hk2 hk3 hk4 hk5
        go_wp2_with fail
        go_roundw
        case rel => exact ⟨k + 1, _, by omega, by omega, by go_num, HI2, by rw [HA.out]; exact HNR.out.alloc _⟩
        case measure => simp [intOf]; omega
    · have htest : (k < os.length ∧ ¬ k < 60) ∨ ¬ k < os.length := by omega
      clear hlt
      have HT : Hid (takeE N 1 ((l.length : Int) + 1) = 0 ∧ takenN N 1 ((l.length : Int) + 1) = l ∧ (takeN N 1 ((l.length : Int) + 1))[0]? = some (some { way := [], back := l, cut := false })) := Lib.hid (by
        have h3 := take0 HI.out.1 (l.length + 1)
        rw [show ((l.length : Int) + 1) = ((l.length + 1 : Nat) : Int) from by omega]
        exact ⟨h3.1, h3.2.1.trans (List.take_of_length_le (by simp only; omega)), h3.2.2.trans (by rw [List.drop_of_length_le (by simp only; omega)])⟩)
      have HSM : Hid (∀ (i : Nat) (x : Line), N[i]? = some (some x) → x.way.length ≤ 140737488351232 ∧ x.back.length ≤ 140737488351232) := Lib.hid fun i x hx => by
        have h3 := HI.out.2.2.2 i x hx
        have : 1048576 * (k + 1) ≤ 1048576 * 61 := Nat.mul_le_mul_left _ (by omega)
        omega
      obtain ⟨N', hN'⟩ : ∃ N', takeN N 1 ((l.length : Int) + 1) = N' := ⟨_, rfl⟩
      have HN' := Lib.hid hN'
      have HF : Hid (N'[0]? = some (some { way := [], back := l, cut := false })) := Lib.hid (by rw [← hN']; exact HT.out.2.2)
      have HSM2 : Hid (∀ (i : Nat) (x : Line), N'[i]? = some (some x) → x.back.length ≤ 140737488351232) := Lib.hid fun i x hx => by
        rw [← hN'] at hx
        have h5 := actN_small (N := N) (o := ⟨2, 1, (l.length : Int) + 1, ⟨none, 0, []⟩⟩) (M := 140737488351232) HSM.out
        exact (h5 i x hx).2
      clear hN'
      rcases htest with ⟨ht3, ht4⟩ | ht3
      all_goals
        go_wp2_with fail
        refine (take_o 1 ((l.length : Int) + 1) 0 l N' HNR.out (by decide) (by omega) (fun i x hx => (HSM.out i x hx).1) HT.out.1 HT.out.2.1 HN'.out).mono ?_; rintro e w8 ⟨a8, c8, rfl, ho8⟩
        have HO8 := Lib.hid (ho8.below (Below.refl _ w8).drew)
        clear ho8
        have HS1 : Hid (∀ (u : World) (Nx : List (Option Line)), Okay W nb Nx a8 l u → (convert 30 9 (.slice a8 l.length c8)).run Try.prog u = .ok (.string (strOf l)) u ∧ (convert 30 9 (.slice a l.length cap)).run Try.prog u = .ok (.string (strOf l)) u) :=
          Lib.hid fun u Nx hu => ⟨conv_cells u a8 c8 _ l hu.cells, conv_cells u a cap _ l (HC.out.below hu.is (Nat.le_refl _))⟩
        go_wp2_with fail
        refine wp_region_noPanic ?_
        refine wp_region_held_drew (S := fun u : World => (convert 30 9 (.slice a8 l.length c8)).run Try.prog u = .ok (.string (strOf l)) u ∧ (convert 30 9 (.slice a l.length cap)).run Try.prog u = .ok (.string (strOf l)) u) (by kernel_rfl) (HS1.out _ _ HO8.out) (fun hHeld => ?_)
        refine wpAnyH_take (i := 0) (v := ?_) rfl (by kernel_rfl) (by kernel_rfl) (by kernel_rfl) (fun _ _ _ h => h) (Or.inl ⟨by rfl, ?_⟩) (by assumption) ?_
        rotate_left
        focus ((intro w hSw; (try dsimp only at hSw); go_simp); try with_reducible rfl)
        (try simp only [Act.put, List.getElem_toArray, List.getElem_cons_zero, List.getElem_cons_succ, List.setIfInBounds_toArray, List.set_cons_zero, List.set_cons_succ])
        refine wpAnyH_take (i := 1) (v := ?_) rfl (by kernel_rfl) (by kernel_rfl) (by kernel_rfl) (fun _ _ _ h => h) (Or.inl ⟨by rfl, ?_⟩) (by assumption) ?_
        rotate_left
        focus ((intro w hSw; (try dsimp only at hSw); go_simp); try with_reducible rfl)
        (try simp only [Act.put, List.getElem_toArray, List.getElem_cons_zero, List.getElem_cons_succ, List.setIfInBounds_toArray, List.set_cons_zero, List.set_cons_succ])
        refine wpAnyH_take (i := 2) (v := ?_) rfl (by kernel_rfl) (by kernel_rfl) (by kernel_rfl) (fun _ _ _ h => h) (Or.inl ⟨by rfl, ?_⟩) (by assumption) ?_
        rotate_left
        focus ((intro w hSw; (try dsimp only at hSw); go_simp); try with_reducible rfl)
        (try simp only [Act.put, List.getElem_toArray, List.getElem_cons_zero, List.getElem_cons_succ, List.setIfInBounds_toArray, List.set_cons_zero, List.set_cons_succ])
        refine wpAnyH_take (i := 3) (v := ?_) rfl (by kernel_rfl) (by kernel_rfl) (by kernel_rfl) (fun _ _ _ h => h) (Or.inl ⟨by rfl, ?_⟩) (by assumption) ?_
        rotate_left
        focus ((intro w hSw; (try dsimp only at hSw); go_simp); try with_reducible rfl)
        (try simp only [Act.put, List.getElem_toArray, List.getElem_cons_zero, List.getElem_cons_succ, List.setIfInBounds_toArray, List.set_cons_zero, List.set_cons_succ])
        refine wpAnyH_take (i := 5) (v := ?_) rfl (by kernel_rfl) (by kernel_rfl) (by kernel_rfl) (fun _ _ _ h => h) (Or.inl ⟨by rfl, ?_⟩) (by assumption) ?_
        rotate_left
        focus ((intro w hSw; (try dsimp only at hSw); go_simp); try with_reducible rfl)
        (try simp only [Act.put, List.getElem_toArray, List.getElem_cons_zero, List.getElem_cons_succ, List.setIfInBounds_toArray, List.set_cons_zero, List.set_cons_succ])
        refine wpAnyH_take (i := 4) (v := ?_) rfl (by kernel_rfl) (by kernel_rfl) (by kernel_rfl) (fun _ _ _ h => h) (Or.inl ⟨by rfl, ?_⟩) (by assumption) ?_
        rotate_left
        focus ((intro w hSw; (try dsimp only at hSw); go_simp); try with_reducible rfl)
        (try simp only [Act.put, List.getElem_toArray, List.getElem_cons_zero, List.getElem_cons_succ, List.setIfInBounds_toArray, List.set_cons_zero, List.set_cons_succ])
        refine wpAnyH_take (i := 6) (v := ?_) rfl (by kernel_rfl) (by kernel_rfl) (by kernel_rfl) (fun _ _ _ h => h) (Or.inl ⟨by rfl, ?_⟩) (by assumption) ?_
        rotate_left
        focus ((intro w hSw; (try dsimp only at hSw); go_simp); try with_reducible rfl)
        (try simp only [Act.put, List.getElem_toArray, List.getElem_cons_zero, List.getElem_cons_succ, List.setIfInBounds_toArray, List.set_cons_zero, List.set_cons_succ])
        refine wpAnyH_take (i := 7) (v := ?_) rfl (by kernel_rfl) (by kernel_rfl) (by kernel_rfl) (fun _ _ _ h => h) (Or.inl ⟨by rfl, ?_⟩) (by assumption) ?_
        rotate_left
        focus ((intro w hSw; (try dsimp only at hSw); go_simp); try with_reducible rfl)
        (try simp only [Act.put, List.getElem_toArray, List.getElem_cons_zero, List.getElem_cons_succ, List.setIfInBounds_toArray, List.set_cons_zero, List.set_cons_succ])
        refine wpAnyH_take (i := 8) (v := ?_) rfl (by kernel_rfl) (by kernel_rfl) (by kernel_rfl) (fun _ _ _ h => h) (Or.inl ⟨by rfl, ?_⟩) (by assumption) ?_
        rotate_left
        focus ((intro w hSw; (try dsimp only at hSw); go_simp); try with_reducible rfl)
        (try simp only [Act.put, List.getElem_toArray, List.getElem_cons_zero, List.getElem_cons_succ, List.setIfInBounds_toArray, List.set_cons_zero, List.set_cons_succ])
        refine wpAnyH_take (i := 9) (v := ?_) rfl (by kernel_rfl) (by kernel_rfl) (by kernel_rfl) (fun _ _ _ h => h) (Or.inl ⟨by rfl, ?_⟩) (by assumption) ?_
        rotate_left
        focus ((intro w hSw; (try dsimp only at hSw); go_simp); try with_reducible rfl)
        (try simp only [Act.put, List.getElem_toArray, List.getElem_cons_zero, List.getElem_cons_succ, List.setIfInBounds_toArray, List.set_cons_zero, List.set_cons_succ])
        refine wpAnyH_take (i := 10) (v := ?_) rfl (by kernel_rfl) (by kernel_rfl) (by kernel_rfl) (fun _ _ _ h => h) (Or.inl ⟨by rfl, ?_⟩) (by assumption) ?_
        rotate_left
        focus ((intro w hSw; (try dsimp only at hSw); go_simp); try with_reducible rfl)
        (try simp only [Act.put, List.getElem_toArray, List.getElem_cons_zero, List.getElem_cons_succ, List.setIfInBounds_toArray, List.set_cons_zero, List.set_cons_succ])
        refine wpAnyH_take (i := 11) (v := ?_) rfl (by kernel_rfl) (by kernel_rfl) (by kernel_rfl) (fun _ _ _ h => h) (Or.inl ⟨by rfl, ?_⟩) (by assumption) ?_
        rotate_left
        focus ((intro w hSw; (try dsimp only at hSw); go_simp); try with_reducible rfl)
        (try simp only [Act.put, List.getElem_toArray, List.getElem_cons_zero, List.getElem_cons_succ, List.setIfInBounds_toArray, List.set_cons_zero, List.set_cons_succ])
        refine wpAnyH_take (i := 14) (v := ?_) rfl (by kernel_rfl) (by kernel_rfl) (by kernel_rfl) (fun _ _ _ h => h) (Or.inl ⟨by rfl, ?_⟩) (by assumption) ?_
        rotate_left
        focus ((intro w hSw; (try dsimp only at hSw); go_simp); try with_reducible rfl)
        (try simp only [Act.put, List.getElem_toArray, List.getElem_cons_zero, List.getElem_cons_succ, List.setIfInBounds_toArray, List.set_cons_zero, List.set_cons_succ])
        refine wpAnyH_take (i := 15) (v := ?_) rfl (by kernel_rfl) (by kernel_rfl) (by kernel_rfl) (fun _ _ _ h => h) (Or.inl ⟨by rfl, ?_⟩) (by assumption) ?_
        rotate_left
        focus ((intro w hSw; (try dsimp only at hSw); go_simp); try with_reducible rfl)
        (try simp only [Act.put, List.getElem_toArray, List.getElem_cons_zero, List.getElem_cons_succ, List.setIfInBounds_toArray, List.set_cons_zero, List.set_cons_succ])
        refine wpAnyH_ready (rs := [12]) (by kernel_rfl) (by simp) ?_
        refine AllReadyH.cons rfl (fun K hK => ?_) AllReadyH.nil
        go_simp
        go_at_call 18
        refine (got_o 1 l HO8.out (by decide) HSM2.out (got0 HF.out)).mono ?_; rintro e w9 ⟨a9, c9, rfl, ho9, hc9⟩
        have HO9 := Lib.hid ho9
        have HC9 := Lib.hid hc9
        clear ho9 hc9
        refine hK.out _ _ (HS1.out _ _ HO9.out) (fun hHeld => ?_)
        clear hK K
        (try simp only [Act.put, List.getElem_toArray, List.getElem_cons_zero, List.getElem_cons_succ, List.setIfInBounds_toArray, List.set_cons_zero, List.set_cons_succ])
        have HS2 : Hid (∀ u : World, Below w9.heap.size w9 u → (fun u : World => ((convert 30 9 (.slice a8 l.length c8)).run Try.prog u = .ok (.string (strOf l)) u ∧ (convert 30 9 (.slice a l.length cap)).run Try.prog u = .ok (.string (strOf l)) u) ∧ (convert 30 9 (.slice a9 l.length c9)).run Try.prog u = .ok (.string (strOf l)) u) u) := Lib.hid fun u hu => ⟨HS1.out _ _ (HO9.out.below hu), conv_cells u a9 c9 _ l (HC9.out.below hu (Nat.le_refl _))⟩
        refine wpAnyH_more (S' := fun u : World => ((convert 30 9 (.slice a8 l.length c8)).run Try.prog u = .ok (.string (strOf l)) u ∧ (convert 30 9 (.slice a l.length cap)).run Try.prog u = .ok (.string (strOf l)) u) ∧ (convert 30 9 (.slice a9 l.length c9)).run Try.prog u = .ok (.string (strOf l)) u) (fun u h => h.1) _ _ _ _ ?_
        have hHeld2 : (fun u : World => ((convert 30 9 (.slice a8 l.length c8)).run Try.prog u = .ok (.string (strOf l)) u ∧ (convert 30 9 (.slice a l.length cap)).run Try.prog u = .ok (.string (strOf l)) u) ∧ (convert 30 9 (.slice a9 l.length c9)).run Try.prog u = .ok (.string (strOf l)) u) _ := HS2.out _ (Below.refl _ _)
        refine wpAnyH_take (i := 13) (v := ?_) rfl (by kernel_rfl) (by kernel_rfl) (by kernel_rfl) (fun _ _ _ h => h) (Or.inl ⟨by rfl, ?_⟩) (by assumption) ?_
        rotate_left
        focus ((intro w hSw; (try dsimp only at hSw); go_simp); try with_reducible rfl)
        (try simp only [Act.put, List.getElem_toArray, List.getElem_cons_zero, List.getElem_cons_succ, List.setIfInBounds_toArray, List.set_cons_zero, List.set_cons_succ])
        refine wpAnyH_take (i := 16) (v := ?_) rfl (by kernel_rfl) (by kernel_rfl) (by kernel_rfl) (fun _ _ _ h => h) (Or.inl ⟨by rfl, ?_⟩) (by assumption) ?_
        rotate_left
        focus ((intro w hSw; (try dsimp only at hSw); go_simp); try with_reducible rfl)
        (try simp only [Act.put, List.getElem_toArray, List.getElem_cons_zero, List.getElem_cons_succ, List.setIfInBounds_toArray, List.set_cons_zero, List.set_cons_succ])
        refine wpAnyH_take (i := 17) (v := ?_) rfl (by kernel_rfl) (by kernel_rfl) (by kernel_rfl) (fun _ _ _ h => h) (Or.inl ⟨by rfl, ?_⟩) (by assumption) ?_
        rotate_left
        focus ((intro w hSw; (try dsimp only at hSw); go_simp); try with_reducible rfl)
        (try simp only [Act.put, List.getElem_toArray, List.getElem_cons_zero, List.getElem_cons_succ, List.setIfInBounds_toArray, List.set_cons_zero, List.set_cons_succ])
        refine wpAnyH_take (i := 18) (v := ?_) rfl (by kernel_rfl) (by kernel_rfl) (by kernel_rfl) (fun _ _ _ h => h) (Or.inl ⟨by rfl, ?_⟩) (by assumption) ?_
        rotate_left
        focus ((intro w hSw; (try dsimp only at hSw); go_simp); try with_reducible rfl)
        (try simp only [Act.put, List.getElem_toArray, List.getElem_cons_zero, List.getElem_cons_succ, List.setIfInBounds_toArray, List.set_cons_zero, List.set_cons_succ])
        refine wpAnyH_take (i := 19) (v := ?_) rfl (by kernel_rfl) (by kernel_rfl) (by kernel_rfl) (fun _ _ _ h => h) (Or.inl ⟨by rfl, ?_⟩) (by assumption) ?_
        rotate_left
        focus ((intro w hSw; (try dsimp only at hSw); go_simp); try with_reducible rfl)
        (try simp only [Act.put, List.getElem_toArray, List.getElem_cons_zero, List.getElem_cons_succ, List.setIfInBounds_toArray, List.set_cons_zero, List.set_cons_succ])
        refine wpAnyH_take (i := 20) (v := ?_) rfl (by kernel_rfl) (by kernel_rfl) (by kernel_rfl) (fun _ _ _ h => h) (Or.inl ⟨by rfl, ?_⟩) (by assumption) ?_
        rotate_left
        focus ((intro w hSw; (try dsimp only at hSw); go_simp); try with_reducible rfl)
        (try simp only [Act.put, List.getElem_toArray, List.getElem_cons_zero, List.getElem_cons_succ, List.setIfInBounds_toArray, List.set_cons_zero, List.set_cons_succ])
        refine wpAnyH_ready (rs := [21]) (by kernel_rfl) (by simp) ?_
        refine AllReadyH.cons rfl (fun K hK => ?_) AllReadyH.nil
        go_simp
        go_at_call 15
        refine (over_h 1 false HO9.out.net (by decide) (over0 HF.out rfl)).mono ?_; rintro e w' ⟨rfl, rfl⟩
        refine hK.out _ _ (HS2.out _ (Below.refl _ _)) (fun hHeld => ?_)
        clear hK K
        (try simp only [Act.put, List.getElem_toArray, List.getElem_cons_zero, List.getElem_cons_succ, List.setIfInBounds_toArray, List.set_cons_zero, List.set_cons_succ])
        refine wpAnyH_take (i := 22) (v := ?_) rfl (by kernel_rfl) (by kernel_rfl) (by kernel_rfl) (fun _ _ _ h => h) (Or.inl ⟨by rfl, ?_⟩) (by assumption) ?_
        rotate_left
        focus ((intro w hSw; (try dsimp only at hSw); go_simp); try with_reducible rfl)
        (try simp only [Act.put, List.getElem_toArray, List.getElem_cons_zero, List.getElem_cons_succ, List.setIfInBounds_toArray, List.set_cons_zero, List.set_cons_succ])
        refine wpAnyH_take (i := 23) (v := ?_) rfl (by kernel_rfl) (by kernel_rfl) (by kernel_rfl) (fun _ _ _ h => h) (Or.inl ⟨by rfl, ?_⟩) (by assumption) ?_
        rotate_left
        focus ((intro w hSw; (try dsimp only at hSw); go_simp); try with_reducible rfl)
        (try simp only [Act.put, List.getElem_toArray, List.getElem_cons_zero, List.getElem_cons_succ, List.setIfInBounds_toArray, List.set_cons_zero, List.set_cons_succ])
        refine wpAnyH_take (i := 24) (v := ?_) rfl (by kernel_rfl) (by kernel_rfl) (by kernel_rfl) (fun _ _ _ h => h) (Or.inl ⟨by rfl, ?_⟩) (by assumption) ?_
        rotate_left
        focus ((intro w hSw; (try dsimp only at hSw); go_simp); try with_reducible rfl)
        (try simp only [Act.put, List.getElem_toArray, List.getElem_cons_zero, List.getElem_cons_succ, List.setIfInBounds_toArray, List.set_cons_zero, List.set_cons_succ])
        refine wpAnyH_ready (rs := [25]) (by kernel_rfl) (by simp) ?_
        refine AllReadyH.cons rfl (fun K hK => ?_) AllReadyH.nil
        go_simp
        go_at_call 12
        refine (works_h (Below.refl _ w9)).mono ?_; rintro e w11 ⟨rfl, hb11⟩
        have hfin := HO9.out.is.trans (hb11.mono HO9.out.is.size)
        refine hK.out _ _ (HS2.out _ hb11) (fun hHeld => ?_)
        clear hK K
        (try simp only [Act.put, List.getElem_toArray, List.getElem_cons_zero, List.getElem_cons_succ, List.setIfInBounds_toArray, List.set_cons_zero, List.set_cons_succ])
        refine wpAnyH_take (i := 26) (v := ?_) rfl (by kernel_rfl) (by kernel_rfl) (by kernel_rfl) (fun _ _ _ h => h) (Or.inl ⟨by rfl, ?_⟩) (by assumption) ?_
        rotate_left
        focus ((intro w hSw; (try dsimp only at hSw); go_simp); try with_reducible rfl)
        (try simp only [Act.put, List.getElem_toArray, List.getElem_cons_zero, List.getElem_cons_succ, List.setIfInBounds_toArray, List.set_cons_zero, List.set_cons_succ])
        refine wpAnyH_take (i := 27) (v := ?_) rfl (by kernel_rfl) (by kernel_rfl) (by kernel_rfl) (fun _ _ _ h => h) (Or.inl ⟨by rfl, ?_⟩) (by assumption) ?_
        rotate_left
        focus ((intro w hSw; (try dsimp only at hSw); go_simp); try with_reducible rfl)
        (try simp only [Act.put, List.getElem_toArray, List.getElem_cons_zero, List.getElem_cons_succ, List.setIfInBounds_toArray, List.set_cons_zero, List.set_cons_succ])
        refine wpAnyH_done (by kernel_rfl) ?_ _
        refine NoPanic.normal ?_
        go_wp2_with fail
        go_ret
        exact ⟨rfl, by assumption⟩
end Go.Proofs.Yteopfknoemifgaa
