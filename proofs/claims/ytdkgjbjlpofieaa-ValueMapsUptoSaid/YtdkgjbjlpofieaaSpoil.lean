/- Layer 3: the contract of the reference's Spoil: it turns nothing but the value's own memory. Conditions: the value's memory is its own. -/
import Derived.Test.YtdkgjbjlpofieaaRowO
namespace Go.Proofs.Ytdkgjbjlpofieaa
open Go.RowKit
set_option linter.unusedSimpArgs false
set_option linter.unusedVariables false

def SpoilSaid (t : Vt) : Prop := ∀ (cs : List Value) (bs : List Nat) (w : World), IsO w cs t bs → bs.Nodup → (∀ b ∈ bs, b < w.heap.size) →
    Calls Try.prog 14 #[.agg cs.toArray] w fun e w' => e = .returned (.tuple #[]) ∧ Kept bs w w'
theorem IsOs.bs_mem {w : World} {cur : List Value} {n : Nat} {t : Vt} {ts : List Vt} {bs : List Nat} (h : IsOs w cur n (t :: ts) bs) : ∃ cs b1 b2, bs = b1 ++ b2 ∧ (∀ (j : Nat) v, cs[j]? = some v → cur[n * 6 + j]? = some v) ∧ IsO w cs t b1 ∧ IsOs w cur (n + 1) ts b2 := by
  unfold IsOs at h
  exact h
theorem drop_some {α : Type} {l : List α} {j : Nat} {x : α} (h : l[j]? = some x) : l.drop j = x :: l.drop (j + 1) := by
  obtain ⟨h1, h2⟩ := List.getElem?_eq_some_iff.1 h
  rw [List.drop_eq_getElem_cons h1, h2]
theorem Kept.mono {own own' : List Nat} {w w' : World} (h : Kept own w w') (hs : ∀ x ∈ own, x ∈ own') : Kept own' w w' :=
  ⟨h.os, h.tape, h.output, h.size, fun k hk hn => h.block k hk (fun hm => hn (hs k hm))⟩
set_option maxRecDepth 100000 in
set_option maxHeartbeats 4000000 in
theorem spoil_any (t : Vt) : SpoilSaid t := by
  refine t.down (p := SpoilSaid) fun k b i s l ks ih cs bs w hO hnd hlt => ?_
  unfold IsO at hO
  obtain ⟨la, lc, ka, kc, b1, b2, rfl, ⟨-, -, ⟨hlc, hlm⟩, ⟨hkc, hkm⟩, -, -⟩, rfl, hks, hls⟩ := hO
  obtain ⟨hn1, hn2, hn12⟩ := List.nodup_append.1 hnd
  have IH := Lib.hid ih
  clear ih
  show Calls Try.prog 14 #[.agg #[.int .i64 k, .bool b, .int .i64 i, .string s, .slice la l.length lc, .slice ka ks.length kc]] w _
  obtain ⟨W0, hW0⟩ : ∃ W0, w.alloc (.cells #[.int .i64 k, .bool b, .int .i64 i, .string s, .slice la l.length lc, .slice ka ks.length kc] 26) = W0 := ⟨_, rfl⟩
  have hX0 : Block W0 w.heap.size [.int .i64 k, .bool b, .int .i64 i, .string s, .slice la l.length lc, .slice ka ks.length kc] 26 := by rw [← hW0]; exact Block.new w _ _
  have hBW : Below w.heap.size w W0 := by rw [← hW0]; exact (Below.refl _ _).alloc (Nat.le_refl _) _
  have hz0 : W0.heap.size = w.heap.size + 1 := by rw [← hW0]; simp
  have HX0 := Lib.hid hX0
  have HBW := Lib.hid hBW
  have HZ0 := Lib.hid hz0
  have HW0 := Lib.hid hW0
  -- the keys' part and the row's part, in the world behind the box
  have HKS : Hid (OwnStr W0 ka ks b1) := Lib.hid (hks.same fun q hq => hBW.block q (hlt q (by simp [hq])))
  have HLT := Lib.hid hlt
  have HN := Lib.hid (show _ ∧ _ ∧ _ from ⟨hn1, hn2, hn12⟩)
  -- the row: its block, its cells, the elements' blocks
  obtain ⟨lb, cur, ty, b3, hla, hb2, hblk, hos⟩ : ∃ lb cur ty b3, (l ≠ [] → la = some ⟨lb, 0, none⟩) ∧ ((l = [] ∧ b2 = [] ∧ b3 = []) ∨ b2 = lb :: b3) ∧ (l ≠ [] → Block w lb cur ty) ∧ IsOs w cur 0 l b3 := by
    rcases hls with ⟨rfl, rfl⟩ | ⟨lb, cur, ty, b3, h1, h2, h3, h4⟩
    · exact ⟨0, [], 0, [], fun h => absurd rfl h, .inl ⟨rfl, rfl, rfl⟩, fun h => absurd rfl h, by unfold IsOs; rfl⟩
    · exact ⟨lb, cur, ty, b3, fun _ => h1, .inr h2, fun _ => h3, h4⟩
  have hb3 : ∀ q ∈ b3, q ∈ b2 := fun q hq => by
    rcases hb2 with ⟨_, _, h⟩ | h
    · rw [h] at hq; simp at hq
    · rw [h]; simp [hq]
  have HOS : Hid (IsOs W0 cur 0 l b3) := Lib.hid (IsOs.same l (fun _ t _ cs bs h hb => IsO.same t cs bs h hb) _ _ _ hos fun q hq => hBW.block q (hlt q (by simp [hb3 q hq])))
  have HLA := Lib.hid hla
  have HB2 := Lib.hid hb2
  have HB3 := Lib.hid hb3
  have HBK : Hid (l ≠ [] → Block W0 lb cur ty) := Lib.hid (fun h => (hblk h).below hBW (hblk h).lt)
  have HN3 : Hid (b3.Nodup ∧ (l ≠ [] → lb ∉ b3)) := Lib.hid (by
    rcases hb2 with ⟨h1, _, h⟩ | h
    · subst h; exact ⟨List.nodup_nil, fun h => absurd h1 h⟩
    · rw [h] at hn2; exact ⟨(List.nodup_cons.1 hn2).2, fun _ => (List.nodup_cons.1 hn2).1⟩)
  clear hX0 hBW hz0 hW0 hks hls hla hb2 hblk hos hb3 hlt hnd hn1 hn2 hn12
  go_enter Try.func14, Try.ntmps14
  go_wp2_with fail
  rw [HW0.out]
  go_loopw [2] (fun iv wr => ∃ (j : Nat) (cu : List Value) (b4 : List Nat), iv = .int .i64 j ∧ j ≤ l.length ∧ Hid (Kept b2 W0 wr) ∧ Hid (l ≠ [] → Block wr lb cu ty) ∧ Hid (∀ q, j * 6 ≤ q → cu[q]? = cur[q]?) ∧ Hid (IsOs wr cur j (l.drop j) b4) ∧ Hid (b4.Nodup ∧ ∀ q ∈ b4, q ∈ b3)) (fun iv _ => l.length - (intOf iv).toNat)
  case atStart => exact ⟨0, cur, b3, rfl, Nat.zero_le _, Lib.hid (Kept.refl _ _), HBK, Lib.hid (fun _ _ => rfl), Lib.hid HOS.out, Lib.hid ⟨HN3.out.1, fun _ h => h⟩⟩
  case round =>
    obtain ⟨j, cu, b4, rfl, hj, HK, HBL, HCU, HO, HB4⟩ := hrel
    have hXn : w.heap.size ∉ b2 := fun h => by have := HLT.out _ (show w.heap.size ∈ b1 ++ b2 by simp [h]); omega
    have HX : Hid (Block wr w.heap.size [.int .i64 k, .bool b, .int .i64 i, .string s, .slice la l.length lc, .slice ka ks.length kc] 26) := Lib.hid (HX0.out.of_heap (HK.out.block _ HX0.out.lt hXn))
    have c4 := HX.out.cell (i := 4) rfl
    by_cases hlt : j < l.length
    · have hlt' : (j : Int) < l.length := by omega
      have hj0 : (0 : Int) ≤ (j : Int) := by omega
      have hne : l ≠ [] := by rintro rfl; simp at hlt
      obtain rfl := HLA.out hne
      obtain ⟨t, ht⟩ := get_some hlt
      have ho := HO.out
      rw [drop_some ht] at ho
      obtain ⟨cs2, b5, b6, hb56, hcs, ht2, hrest⟩ := ho.bs_mem
      have hnd4 := HB4.out.1
      rw [hb56] at hnd4
      obtain ⟨hn5, hn6, hn56⟩ := List.nodup_append.1 hnd4
      have hm5 : ∀ q ∈ b5, q ∈ b3 := fun q hq => HB4.out.2 q (by rw [hb56]; simp [hq])
      have hm6 : ∀ q ∈ b6, q ∈ b3 := fun q hq => HB4.out.2 q (by rw [hb56]; simp [hq])
      have hwz := HK.out.size
      have hsz := HZ0.out
      have hl5 : ∀ q ∈ b3, q < w.heap.size := fun q hq => HLT.out q (by simp [HB3.out q hq])
      have HSP := Lib.hid (IH.out j t ht cs2 b5 wr ht2 hn5 (fun q hq => by have := hl5 q (hm5 q hq); omega))
      obtain ⟨k2, bb2, i2, s2, l2, ks2⟩ := t
      have ht3 := ht2
      unfold IsO at ht3
      obtain ⟨la2, lc2, ka2, kc2, x1, x2, rfl, -, -, -, -⟩ := ht3
      have hbl := HBL.out hne
      have hlbw : lb < w.heap.size := HLT.out lb (by
        rcases HB2.out with ⟨h, _⟩ | h
        · exact absurd h hne
        · rw [h]; simp)
      have hcell : ∀ q v, [Value.int .i64 k2, .bool bb2, .int .i64 i2, .string s2, .slice la2 l2.length lc2, .slice ka2 ks2.length kc2][q]? = some v → cu[j * 6 + q]? = some v := fun q v hv => by rw [HCU.out _ (by omega)]; exact hcs q v hv
      have g0 := hbl.cell (hcell 0 _ rfl)
      have g1 := hbl.cell (hcell 1 _ rfl)
      have g2 := hbl.cell (hcell 2 _ rfl)
      have g3 := hbl.cell (hcell 3 _ rfl)
      have g4 := hbl.cell (hcell 4 _ rfl)
      have g5 := hbl.cell (hcell 5 _ rfl)
      rw [Nat.add_zero] at g0
      have HCE := Lib.hid hcell
      have HRE := Lib.hid hrest
      have HNN := Lib.hid (show _ ∧ _ ∧ _ ∧ _ ∧ _ ∧ _ from ⟨hn5, hn6, hn56, hm5, hm6, hl5⟩)
      have HBLr := Lib.hid hbl
      have HNE := Lib.hid hne
      clear ho hcs ht2 hrest hnd4 hn5 hn6 hn56 hm5 hm6 hl5 hcell hbl hb56 ht
      go_wp2_with fail
      refine HSP.out.mono ?_
      rintro e w2 ⟨rfl, hk2⟩
      have hlb5 : lb ∉ b5 := fun h => (HN3.out.2 HNE.out) (HNN.out.2.2.2.1 lb h)
      have hbl2 : Block w2 lb cu ty := HBLr.out.of_heap (hk2.block lb HBLr.out.lt hlb5)
      have hX2 := HX.out.of_heap (hk2.block w.heap.size HX.out.lt (fun h => by have := HNN.out.2.2.2.2.2 _ (HNN.out.2.2.2.1 _ h); omega))
      have d4 := hX2.cell (i := 4) rfl
      have d0 := hbl2.cell (HCE.out 0 _ rfl)
      have d1 := hbl2.cell (HCE.out 1 _ rfl)
      have d2 := hbl2.cell (HCE.out 2 _ rfl)
      have d3 := hbl2.cell (HCE.out 3 _ rfl)
      have dd4 := hbl2.cell (HCE.out 4 _ rfl)
      have d5 := hbl2.cell (HCE.out 5 _ rfl)
      have e0 := hbl2.free (j * 6)
      have e1 := hbl2.free (j * 6 + 1)
      have e2 := hbl2.free (j * 6 + 2)
      have e3 := hbl2.free (j * 6 + 3)
      have e4 := hbl2.free (j * 6 + 4)
      have e5 := hbl2.free (j * 6 + 5)
      rw [Nat.add_zero] at d0
      have HBL2 := Lib.hid hbl2
      have HK2 := Lib.hid hk2
      clear hbl2 hX2 hk2 hlb5 g0 g1 g2 g3 g4 g5 c4
      go_wp2_with fail
      go_roundw
      case rel =>
        have hlb2 : lb ∈ b2 := by
          rcases HB2.out with ⟨h, _⟩ | h
          · exact absurd h HNE.out
          · rw [h]; simp
        have hlb3 : lb ∉ b3 := HN3.out.2 HNE.out
        refine ⟨j + 1, put6 cu (j * 6) (.int .i64 2) (.bool false) (.int .i64 99) (.string ⟨#[]⟩) (.slice none 0 0) (.slice none 0 0), b6, by go_num, by omega, ?_, Lib.hid (fun _ => HBL2.out.set6 (j * 6) _ _ _ _ _ _), Lib.hid (fun q hq => by rw [put6_out _ _ _ _ _ _ _ _ q (by omega)]; exact HCU.out q (by omega)), ?_, Lib.hid ⟨HNN.out.2.1, HNN.out.2.2.2.2.1⟩⟩
        · exact Lib.hid ((((((((HK.out.trans (HK2.out.mono (fun q hq => HB3.out q (HNN.out.2.2.2.1 q hq))) (fun x hx => .inl hx)).setCell (.inl hlb2) _).setCell (.inl hlb2) _).setCell (.inl hlb2) _).setCell (.inl hlb2) _).setCell (.inl hlb2) _).setCell (.inl hlb2) _))
        · refine Lib.hid (IsOs.same _ (fun _ t _ cs bs h hb => IsO.same t cs bs h hb) _ _ _ HRE.out fun q hq => ?_)
          have hq3 := HNN.out.2.2.2.2.1 q hq
          have hqw := HNN.out.2.2.2.2.2 q hq3
          exact (set6_other w2 lb (j * 6) _ _ _ _ _ _ q (fun e => hlb3 (by rw [← e]; exact hq3))).trans (HK2.out.block q (by omega) (fun h => HNN.out.2.2.1 q h q hq rfl))
      case measure => simp [intOf]; omega
    · have hlt' : ¬ (j : Int) < l.length := by omega
      have hks := HKS.out.same (w' := wr) (fun q hq => HK.out.block q (by have := HLT.out q (by simp [hq]); have := HZ0.out; omega) (fun h => HN.out.2.2 q hq q h rfl))
      obtain ⟨kb, kcur, kty, hka, hkm, hkb, hkl⟩ : ∃ kb kcur kty, (ks ≠ [] → ka = some ⟨kb, 0, none⟩) ∧ (ks ≠ [] → kb ∈ b1) ∧ (ks ≠ [] → Block wr kb kcur kty) ∧ ks.length ≤ kcur.length := by
        rcases hks with ⟨rfl, _⟩ | ⟨kb, cur, ty, h1, h2, h3, h4⟩
        · exact ⟨0, [], 0, fun h => absurd rfl h, fun h => absurd rfl h, fun h => absurd rfl h, by simp⟩
        · refine ⟨kb, cur, ty, fun _ => h1, fun _ => by rw [h2]; simp, fun _ => h3, ?_⟩
          by_cases h0 : ks.length = 0
          · omega
          · obtain ⟨x, hx⟩ : ∃ x, ks[ks.length - 1]? = some x := get_some (by omega)
            have := (List.getElem?_eq_some_iff.1 (h4 _ x hx)).1
            omega
      have HKA := Lib.hid hka
      have HKM := Lib.hid hkm
      have HKB := Lib.hid hkb
      have HKL := Lib.hid hkl
      have HK1 : Hid (Kept (b1 ++ b2) W0 wr) := Lib.hid (HK.out.mono (fun q hq => by simp [hq]))
      have hX5 := HX.out.cell (i := 5) rfl
      clear hks hka hkm hkb hkl
      go_wp2_with fail
      go_loopw [3] (fun iv w3 => ∃ (q : Nat) (kcu : List Value), iv = .int .i64 q ∧ q ≤ ks.length ∧ Hid (Kept (b1 ++ b2) W0 w3) ∧ Hid (ks ≠ [] → Block w3 kb kcu kty) ∧ Hid (ks.length ≤ kcu.length)) (fun iv _ => ks.length - (intOf iv).toNat)
      case atStart => exact ⟨0, kcur, rfl, Nat.zero_le _, HK1, HKB, HKL⟩
      case round =>
        rename_i w3
        obtain ⟨q, kcu, rfl, hq, HK3, HKB3, HKL3⟩ := hrel
        have hXn3 : w.heap.size ∉ b1 ++ b2 := fun h => by have := HLT.out _ h; omega
        have HX3 := Lib.hid (HX0.out.of_heap (HK3.out.block _ HX0.out.lt hXn3))
        have r5 := HX3.out.cell (i := 5) rfl
        by_cases hlt3 : q < ks.length
        · have hlt3' : (q : Int) < ks.length := by omega
          have hq0 : (0 : Int) ≤ (q : Int) := by omega
          have hne : ks ≠ [] := by rintro rfl; simp at hlt3
          obtain rfl := HKA.out hne
          have hkbm := HKM.out hne
          obtain ⟨y, hy⟩ : ∃ y, kcu[q]? = some y := get_some (by have := HKL3.out; omega)
          have e0 := (HKB3.out hne).free q
          have e1 := (HKB3.out hne).cell hy
          have HNE := Lib.hid hne
          have HMM := Lib.hid hkbm
          clear hne hy hkbm
          go_wp2_with fail
          go_roundw
          case rel =>
            refine ⟨q + 1, kcu.set q (.string ⟨#[115, 112, 111, 105, 108, 116]⟩), by go_num, by omega, Lib.hid (HK3.out.setCell (.inl (by simp [HMM.out])) _), Lib.hid (fun _ => (HKB3.out HNE.out).set q _), Lib.hid (by rw [List.length_set]; exact HKL3.out)⟩
          case measure => simp [intOf]; omega
        · have hlt3' : ¬ (q : Int) < ks.length := by omega
          go_wp2_with fail
          go_end0
          exact ⟨rfl, by
            have h1 := HK3.out
            exact ⟨h1.os.trans HBW.out.os, h1.tape.trans HBW.out.tape, h1.output.trans HBW.out.output, Nat.le_trans HBW.out.size h1.size, fun x hx hn => by rw [h1.block x (by have := HBW.out.size; omega) hn, HBW.out.block x hx]⟩⟩
end Go.Proofs.Ytdkgjbjlpofieaa
