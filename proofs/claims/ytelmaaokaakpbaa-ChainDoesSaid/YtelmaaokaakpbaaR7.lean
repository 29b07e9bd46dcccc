/- Layer 24: the contract of the reference's Prune. Conditions: the chain is there. -/
import Derived.Test.YtelmaaokaakpbaaR6
namespace Go.Proofs.Ytelmaaokaakpbaa
open Go.RowKit
set_option linter.unusedSimpArgs false
set_option linter.unusedVariables false

theorem own_ge {w : World} {B : Nat} {e : TypeId} {size : Nat} {a : Option Addr} {n cap : Nat} {xs : List Value} (h : w.ownsRow B e size (.slice a n cap) n xs) : ∀ k, (Value.slice a n cap).ownBlock = some k → B ≤ k := by
  intro k hk
  obtain ⟨_, h2⟩ := h
  rcases h2 with h2 | ⟨g, c, cur, h3, h4, _⟩
  · simp_all [Value.ownBlock]
  · rw [h3] at hk; simp [Value.ownBlock] at hk; omega

theorem own_lower {w : World} {B B' : Nat} {e : TypeId} {size : Nat} {v : Value} {n : Nat} {xs : List Value} (h : w.ownsRow B e size v n xs) (hb : B' ≤ B) : w.ownsRow B' e size v n xs := by
  obtain ⟨h1, h2⟩ := h
  refine ⟨h1, ?_⟩
  rcases h2 with h2 | ⟨g, c, cur, h3, h4, h5⟩
  · exact .inl h2
  · exact .inr ⟨g, c, cur, h3, Nat.le_trans hb h4, h5⟩

/-- The list of the reference's chain is set to a new row. -/
theorem RMoved.cut {w wr : World} {B b : Nat} {own : List Nat} {s : St} {a : Option Addr} {n cap : Nat} {l' : List V} (h : RRep w B b own s) (hw : Below w.heap.size w wr) (hn : n = l'.length)
    (ho : wr.ownsRow w.heap.size 41 3 (.slice a n cap) n (rowV l')) :
    RMoved B b own { s with l := l' } w (wr.setCell ⟨b, 0, none⟩ (.slice a n cap)) := by
  subst hn
  have hlt := h.own_lt
  obtain ⟨a0, cap0, x, y, z, hb, _, hB, hw0, hv, hf⟩ := h.below hw
  have hbo : b ∈ own := by rcases hf with ⟨_, rfl⟩ | ⟨g, _, _, rfl⟩ <;> simp
  have hbl := (hlt b hbo).2
  have hge := own_ge ho
  have hne : (Value.slice a l'.length cap).ownBlock ≠ some b := fun e => by have := hge b e; omega
  have hB2 : B ≤ w.heap.size := by omega
  cases hob : (Value.slice a l'.length cap).ownBlock with
  | none =>
    exact ⟨[b], ⟨a, cap, x, y, z, hb.set 0 _, own_lower (ownsRow_setCell_other ho hne _) hB2, hB, hw0, hv, .inl ⟨hob, rfl⟩⟩, fun k hk => by simp at hk; subst hk; exact .inl hbo, (Kept.of_below hw).setCell (.inl hbo) _⟩
  | some g =>
    have hg := hge g hob
    exact ⟨[b, g], ⟨a, cap, x, y, z, hb.set 0 _, own_lower (ownsRow_setCell_other ho hne _) hB2, hB, hw0, hv, .inr ⟨g, hob, by omega, rfl⟩⟩, fun k hk => by
      simp at hk
      rcases hk with rfl | rfl
      · exact .inl hbo
      · exact .inr hg, (Kept.of_below hw).setCell (.inl hbo) _⟩

set_option maxRecDepth 100000 in
set_option maxHeartbeats 8000000 in
theorem rprune_any (w : World) (B b : Nat) (own : List Nat) (s : St) (t : Int) (hr : RRep w B b own s) (hm : s.l.length ≤ 1000000) :
    Calls Try.prog 29 #[.pointer (some ⟨b, 0, none⟩), .int .i64 t] w fun e w' => e = .returned (.int .i64 (pruneS s t).2) ∧ RMoved B b own (pruneS s t).1 w w' := by
  obtain ⟨i0, hi0, hz0, hz1, hz2⟩ := info_parts Try.infoR
  have HS := Lib.hid (rsees_any w B b own s t hr hm)
  have HR := Lib.hid hr
  have HL := Lib.hid hr.own_lt
  obtain ⟨kk, hkk⟩ : ∃ kk, sees s.l t = kk := ⟨_, rfl⟩
  have HK := Lib.hid hkk
  obtain ⟨p, hp⟩ : ∃ p, pruneN s.l t = p := ⟨_, rfl⟩
  have HP := Lib.hid hp
  rw [hkk] at HS
  clear hkk hp hr
  go_enter Try.func29, Try.ntmps29
  go_wp2_with fail
  refine HS.out.mono ?_; rintro e w' ⟨rfl, rfl⟩
  go_wp2_with fail
  go_loopw [6, 7] (fun l i wr => ∃ (k : Nat) (a : Option Addr) (n cap : Nat), k ≤ s.l.length ∧ i = .int .i64 k ∧ l = .slice a n cap ∧ Hid (n = k - p) ∧ Hid (wr.ownsRow w.heap.size 41 3 (.slice a n cap) n (rowV ((s.l.take k).drop p))) ∧ Below w.heap.size w wr) (fun _ i _ => s.l.length - (intOf i).toNat)
  case atStart => exact ⟨0, none, 0, 0, Nat.zero_le _, rfl, rfl, Lib.hid (by omega), Lib.hid (by simpa [rowV] using World.ownsRow_nil _ _ _ _), Below.refl _ w⟩
  case round =>
    obtain ⟨k, a, n, cap, hk, rfl, rfl, hn, ho, hB⟩ := hrel
    have hR := HR.out.below hB
    obtain ⟨a1, cap1, x1, y1, z1, hb1, ho1, hB1, _⟩ := hR
    have c0 := hb1.cell (i := 0) rfl
    have HF := Lib.hid (hb1.free 0)
    have HO1 := Lib.hid ho1
    have HO := ho.out
    clear hb1 ho1
    by_cases hlt : k < s.l.length
    · obtain ⟨v, hv⟩ : ∃ v, s.l[k]? = some v := ⟨_, List.getElem?_eq_getElem (by omega)⟩
      have HV := Lib.hid hv
      obtain ⟨g, rfl, d0, d1, d2⟩ := own_cells HO1.out hv
      clear hv
      by_cases hgt : kk < k
      · have hne : ((k : Int) == kk) = false := beq_eq_false_iff_ne.2 (by omega)
        have hle : Hid (p ≤ k) := Lib.hid (by rw [← HP.out]; exact kept_gt (by rw [HK.out]; exact hgt))
        go_wp2_with (at_builtin; refine wpList_append_own _ rfl _ _ 39 rfl w.heap.size 41 i0 _ 3 24 Try.underlying39 hi0 hz0 hz1 hz2 rfl (by omega) (.slice a n cap) n (rowV ((s.l.take k).drop p)) rfl (HO.alloc _) ⟨_, 0, none⟩ 1 _ [.int .i64 v.from_, .int .i64 v.val, .bool v.gone] rfl rfl (World.news_of_block (cs := #[.int .i64 v.from_, .int .i64 v.val, .bool v.gone]) (t := 41) (fr := (0, 0)) (heap_alloc_new _ _)) (by simp [Value.oneCell']) (by unfold maxLen; have := hn.out; omega) (by have := hn.out; omega) (by have := hB.size; simp; omega) ?_)
        intro v' w1 hown1 hgrow hnil
        clear hnil
        obtain ⟨a', cap', rfl⟩ := own_form hown1
        have HO2 := Lib.hid hown1
        have HB2 := Lib.hid ((hB.alloc hB.size _).grown hgrow (Nat.le_trans hB.size (by simp)) (own_ge HO))
        clear hown1 hgrow HO
        go_wp2_with fail
        go_roundw
        case rel => exact ⟨k + 1, a', n + 1, cap', by omega, by go_num, rfl, Lib.hid (by have := hn.out; have := hle.out; omega), Lib.hid (by rw [kept_step HV.out hle.out, rowV_snoc]; exact HO2.out), HB2.out⟩
        case measure => simp [intOf]; omega
      · by_cases heq : kk = k
        · have hne : ((k : Int) == kk) = true := by simp [heq]
          have HQ := Lib.hid heq
          clear heq
          obtain ⟨vf, vv, vg⟩ := v
          cases vg with
          | true =>
            have hlp : Hid (k < p) := Lib.hid (by rw [← HP.out, gone_eq (by rw [HK.out]; exact HQ.out) HV.out rfl]; omega)
            go_wp2_with fail
            go_roundw
            case rel => exact ⟨k + 1, a, n, cap, by omega, by go_num, rfl, Lib.hid (by have := hn.out; have := hlp.out; omega), Lib.hid (by rw [gone_step hlp.out]; exact ho.out), hB⟩
            case measure => simp [intOf]; omega
          | false =>
            have hle : Hid (p ≤ k) := Lib.hid (by rw [← HP.out, kept_eq (by rw [HK.out]; exact HQ.out) HV.out rfl]; omega)
            go_wp2_with (at_builtin; refine wpList_append_own _ rfl _ _ 39 rfl w.heap.size 41 i0 _ 3 24 Try.underlying39 hi0 hz0 hz1 hz2 rfl (by omega) (.slice a n cap) n (rowV ((s.l.take k).drop p)) rfl (HO.alloc _) ⟨_, 0, none⟩ 1 _ [.int .i64 vf, .int .i64 vv, .bool false] rfl rfl (World.news_of_block (cs := #[.int .i64 vf, .int .i64 vv, .bool false]) (t := 41) (fr := (0, 0)) (heap_alloc_new _ _)) (by simp [Value.oneCell']) (by unfold maxLen; have := hn.out; omega) (by have := hn.out; omega) (by have := hB.size; simp; omega) ?_)
            intro v' w1 hown1 hgrow hnil
            clear hnil
            obtain ⟨a', cap', rfl⟩ := own_form hown1
            have HO2 := Lib.hid hown1
            have HB2 := Lib.hid ((hB.alloc hB.size _).grown hgrow (Nat.le_trans hB.size (by simp)) (own_ge HO))
            clear hown1 hgrow HO
            go_wp2_with fail
            go_roundw
            case rel => exact ⟨k + 1, a', n + 1, cap', by omega, by go_num, rfl, Lib.hid (by have := hn.out; have := hle.out; omega), Lib.hid (by rw [kept_step HV.out hle.out, rowV_snoc]; exact HO2.out), HB2.out⟩
            case measure => simp [intOf]; omega
        · have hlp : Hid (k < p) := Lib.hid (by
            rw [← HP.out]
            have hk1 := HK.out
            rcases sees_cases s.l t with h | ⟨j, v', hj, _, hv', _⟩
            · omega
            · rw [prune_at hj hv']; split <;> omega)
          have hne : ((k : Int) == kk) = false := beq_eq_false_iff_ne.2 (by omega)
          go_wp2_with fail
          go_roundw
          case rel => exact ⟨k + 1, a, n, cap, by omega, by go_num, rfl, Lib.hid (by have := hn.out; have := hlp.out; omega), Lib.hid (by rw [gone_step hlp.out]; exact ho.out), hB⟩
          case measure => simp [intOf]; omega
    · obtain rfl : k = s.l.length := by omega
      have hpl : p ≤ s.l.length := by
        rw [← HP.out]
        rcases sees_cases s.l t with h | ⟨j, v', hj, hjl, hv', _⟩
        · rw [prune_neg h]; omega
        · rw [prune_at hj hv']; split <;> omega
      have hnn : n + p = s.l.length := by have := hn.out; omega
      have f0 := HF.out
      go_wp2_with fail
      go_ret
      refine ⟨?_, ?_⟩
      · have h1 := HP.out
        unfold pruneS
        rw [h1]
        have : (s.l.length : Int) - n = p := by omega
        simp [this]
      · have hpp := HP.out
        unfold pruneS
        rw [hpp]
        exact RMoved.cut HR.out hB (by simp; omega) (by simpa using ho.out)
end Go.Proofs.Ytelmaaokaakpbaa
