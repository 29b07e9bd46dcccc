/- Parts Parts, PSame, Shelf of this seat (pruned, scripts that are alike kept once as default arguments: q1, q2, ..). Conditions: each says its own. -/
import Derived.Shelf.Small.Strs
import Derived.Shelf.Strings.BuilderRune
import Derived.Shelf.Strings.OnBuilder
import Derived.Shelf.Strings.Prefix
import Derived.Test.YtndhpdclpgemfaaGreatZ3
namespace Go.Proofs.YtndhpdclpgemfaaGreat
open Go.RowKit
set_option linter.unusedSimpArgs false
set_option linter.unusedVariables false
theorem IsVs.below {B B' : Nat} {w w' : World} {a : Option Addr} {l : List Vt} (h : IsVs B w a 0 l) (hb : Below B' w w') (hB : B ≤ B') : IsVs B w' a 0 l :=
  IsVs.mk (fun i t hi => by
    obtain ⟨b, off, cs, h1, h2, h3, h4⟩ := h.get i t hi
    exact ⟨b, off, cs, h1, h2, fun j v hj => by rw [hb.cell (by show b < B'; omega)]; exact h3 j v hj, IsV.below hb hB t cs h4⟩)
theorem IsVs.at {B : Nat} {w : World} {a : Option Addr} {l : List Vt} (h : IsVs B w a 0 l) {j : Nat} {t : Vt} (ht : l[j]? = some t) :
    ∃ eb eo k b i s l2 ks la lc ka kc, t = .mk k b i s l2 ks ∧ a = some ⟨eb, eo, none⟩ ∧ eb < B ∧
      (w.cell? ⟨eb, eo + j * 6, none⟩ = some (.int .i64 k) ∧ w.cell? ⟨eb, eo + j * 6 + 1, none⟩ = some (.bool b) ∧ w.cell? ⟨eb, eo + j * 6 + 2, none⟩ = some (.int .i64 i) ∧ w.cell? ⟨eb, eo + j * 6 + 3, none⟩ = some (.string s) ∧ w.cell? ⟨eb, eo + j * 6 + 4, none⟩ = some (.slice la l2.length lc) ∧ w.cell? ⟨eb, eo + j * 6 + 5, none⟩ = some (.slice ka ks.length kc)) ∧
      IsV B w [.int .i64 k, .bool b, .int .i64 i, .string s, .slice la l2.length lc, .slice ka ks.length kc] (.mk k b i s l2 ks) := by
 obtain ⟨eb, eo, cs, h1, h2, h3, h4⟩ := h.get j t ht
 obtain ⟨k, b, i, s, l2, ks⟩ := t
 have h5 := h4
 unfold IsV at h5
 obtain ⟨la, lc, ka, kc, rfl, _⟩ := h5
 have g := fun n v hv => by have := h3 n v hv; rwa [Nat.zero_add, ← Nat.add_assoc] at this
 exact ⟨eb, eo, k, b, i, s, l2, ks, la, lc, ka, kc, rfl, h1, h2, ⟨by have := g 0 _ rfl; rwa [Nat.add_zero] at this, g 1 _ rfl, g 2 _ rfl, g 3 _ rfl, g 4 _ rfl, g 5 _ rfl⟩, h4⟩
mutual
def partsV : Vt → Nat
  | .mk _ _ _ _ l _ => 1 + partsVs l
def partsVs : List Vt → Nat
  | [] => 0
  | t :: ts => partsV t + partsVs ts
end
theorem partsVs_take {l : List Vt} {j : Nat} {t : Vt} (h : l[j]? = some t) : partsVs (l.take (j + 1)) = partsVs (l.take j) + partsV t := by
 rw [take_succ_some h]
 induction l.take j with
 | nil => simp [partsVs]
 | cons u us ih => simp only [List.cons_append, partsVs, ih]; omega
theorem partsVs_get {l : List Vt} {j : Nat} {t : Vt} (h : l[j]? = some t) : partsVs (l.take j) + partsV t ≤ partsVs l := by
 induction l generalizing j with
 | nil => simp at h
 | cons u us ih =>
  cases j with
  | zero => simp at h; subst h; simp [partsVs]
  | succ j =>
   have := ih (j := j) (by simpa using h)
   simp only [List.take_succ_cons, partsVs]; omega
def RPartsSaid (t : Vt) : Prop := ∀ (cs : List Value) (B : Nat) (w : World), IsV B w cs t → B ≤ w.heap.size → partsV t ≤ 1099511627776 →
    Calls Tryz.prog 56 #[.agg cs.toArray] w fun e w' => e = .returned (.int .i64 (partsV t)) ∧ Below w.heap.size w w'
set_option maxRecDepth 100000 in
set_option maxHeartbeats 4000000 in
theorem rparts_any (t : Vt) : RPartsSaid t := by
 refine t.down (p := RPartsSaid) fun k b i s l ks ih cs B w hV hB hp => ?_
 unfold IsV at hV
 obtain ⟨la, lc, ka, kc, rfl, -, -, ⟨hlc, hlm⟩, -, -, -, -, hL⟩ := hV
 have IH := Lib.hid ih
 have HLs := Lib.hid hL
 clear ih hL
 have HP : Hid (partsV (.mk k b i s l ks) = 1 + partsVs l) := Lib.hid (by unfold partsV; rfl)
 rw [HP.out] at hp
 show Calls Tryz.prog 56 #[.agg #[.int .i64 k, .bool b, .int .i64 i, .string s, .slice la l.length lc, .slice ka ks.length kc]] w _
 have HB0 := Lib.hid ((Below.refl w.heap.size w).alloc (Nat.le_refl _) (.cells #[.int .i64 k, .bool b, .int .i64 i, .string s, .slice la l.length lc, .slice ka ks.length kc] 33))
 have HBX := Lib.hid (Block.new w [.int .i64 k, .bool b, .int .i64 i, .string s, .slice la l.length lc, .slice ka ks.length kc] 33)
 rw [HP.out]
 go_enter Tryz.func56, Tryz.ntmps56
 go_wp2_with fail
 go_loopw [3, 4] (fun nv iv wr => ∃ (j n : Nat), iv = .int .i64 j ∧ nv = .int .i64 n ∧ j ≤ l.length ∧ Hid (n = 1 + partsVs (l.take j)) ∧ Hid (Below (w.heap.size + 1) (w.alloc (.cells #[.int .i64 k, .bool b, .int .i64 i, .string s, .slice la l.length lc, .slice ka ks.length kc] 33)) wr)) (fun _ iv _ => l.length - (intOf iv).toNat)
 case atStart => exact ⟨0, 1, rfl, rfl, Nat.zero_le _, Lib.hid (by simp [partsVs]), Lib.hid (Below.refl _ _)⟩
 case round =>
  obtain ⟨j, n, rfl, rfl, hj, HN, HBW⟩ := hrel
  have HBR := Lib.hid (HB0.out.trans (HBW.out.mono (by omega)))
  have y4 := (HBX.out.below HBW.out (by omega)).cell (i := 4) rfl
  by_cases hlt : j < l.length
  ·have hlt' : (j : Int) < l.length := by omega
   have hj0 : (0 : Int) ≤ (j : Int) := by omega
   obtain ⟨t, ht⟩ := get_some hlt
   have hpg := partsVs_get ht
   have hpt := partsVs_take ht
   obtain ⟨eb, eo, k2, b2, i2, s2, l2, ks2, la2, lc2, ka2, kc2, rfl, rfl, heb, ⟨g0, g1, g2, g3, g4, g5⟩, hVt⟩ := (HLs.out.below HBR.out hB).at ht
   have hz := HBW.out.size
   have HI := Lib.hid (IH.out j _ ht _ B wr hVt (Nat.le_trans hB HBR.out.size) (by omega))
   obtain ⟨m, hm⟩ := nam (partsV (.mk k2 b2 i2 s2 l2 ks2))
   rw [hm] at HI hpg hpt
   have HPT := Lib.hid hpt
   have hnm : n + m ≤ 1099511627776 := by have := HN.out; omega
   clear hVt ht hpg hpt hm
   go_wp2_with fail
   refine HI.out.mono ?_
   rintro e w2 ⟨rfl, hb2⟩
   have HB2 := Lib.hid (HBW.out.trans (hb2.mono (Nat.le_trans (by simp) hz)))
   clear hb2 g0 g1 g2 g3 g4 g5 y4
   go_wp2_with fail
   go_roundw
   case rel => exact ⟨j + 1, n + m, by go_num, by go_num, by omega, Lib.hid (by rw [HPT.out, HN.out]; omega), HB2⟩
   case measure => simp [intOf]; omega
  ·have hlt' : ¬ (j : Int) < l.length := by omega
   have HF : Hid (n = 1 + partsVs l) := Lib.hid (by rw [HN.out, List.take_of_length_le (by omega)])
   go_wp2_with fail
   go_ret
   exact ⟨by show Ending.returned (.int .i64 (n : Int)) = _; rw [HF.out]; first | rfl | simp, HBR.out⟩
set_option maxRecDepth 1000000 in
set_option maxHeartbeats 2000000 in
theorem pnames_any (ks ms : List ByteArray) (ka ma : Option Addr) (kc mc : Nat) (B : Nat) (w : World) (hk : StrRow B w ka ks) (hm : StrRow B w ma ms) (hB : B ≤ w.heap.size) (hkl : ks.length ≤ 9223372036854775807) (hml : ms.length ≤ 9223372036854775807) :
    Calls Tryz.prog 123 #[.slice ka ks.length kc, .slice ma ms.length mc] w fun e w' => e = .returned (.bool (decide (ks = ms))) ∧ Below w.heap.size w w' := by
 have z380560a := trivial
 exact Se380560
def PSameSaid (a : Vt) : Prop := ∀ (b : Vt) (cs ds : List Value) (B : Nat) (w : World), IsV B w cs a → IsV B w ds b → B ≤ w.heap.size →
    Calls Tryz.prog 83 #[.agg cs.toArray, .agg ds.toArray] w fun e w' => e = .returned (.bool (sameV a b)) ∧ Below w.heap.size w w'
theorem Se990076 {P : Prop} (h : P := by
 go_wp2_with fail
 refine (HCS.out _ (((Below.refl _ _).alloc (Nat.le_refl _) _).alloc (by simp) _)).mono ?_
 rintro e w2 ⟨rfl, hb2⟩
 have HB2 := Lib.hid (below_step ((HBR.out.alloc hz _).alloc (by simp; omega) _) rfl hb2)
 clear hb2 g0 g1 g2 g3 g4 g5 f0 f1 f2 f3 f4 f5
 go_wp2_with fail
 first
 |(
  guard_hyp z990076a
  go_roundw
  case rel => exact ⟨j + 1, by go_num, by omega, HB2, Lib.hid (by rw [ht.out, HST.out, Bool.true_and])⟩
  case measure => simp [intOf]; omega)
 |(
  go_ret
  exact ⟨by rw [ht.out, HST.out, Bool.false_and]; rfl, HB2.out⟩)) : P := h
set_option maxRecDepth 1000000 in
set_option maxHeartbeats 4000000 in
theorem psameList_any (l m : List Vt) (ih : ∀ (j : Nat) t, l[j]? = some t → PSameSaid t) (la ma : Option Addr) (lc mc : Nat) (B : Nat) (w : World) (hl : IsVs B w la 0 l) (hm : IsVs B w ma 0 m) (hB : B ≤ w.heap.size) (hll : l.length ≤ 9223372036854775807) (hml : m.length ≤ 9223372036854775807) :
    Calls Tryz.prog 124 #[.slice la l.length lc, .slice ma m.length mc, .func (.func 83) #[] #[]] w fun e w' => e = .returned (.bool (sameVs l m)) ∧ Below w.heap.size w w' := by
 have HL := Lib.hid hl
 have HM := Lib.hid hm
 have IH := Lib.hid ih
 clear hl hm ih
 obtain ⟨R, hR⟩ := nam (sameVs l m)
 have HR := Lib.hid hR
 rw [hR]
 clear hR
 by_cases hn : l.length = m.length
 rotate_left
 ·exact Se811279
 have hnb : ((l.length : Int) != (m.length : Int)) = false := by simp; omega
 have HNL := Lib.hid hn
 clear hn
 go_enter Tryz.func124, Tryz.ntmps124
 go_wp2_with fail
 go_loopw [17] (fun iv wr => ∃ j : Nat, iv = .int .i64 j ∧ j ≤ l.length ∧ Hid (Below w.heap.size w wr) ∧ Hid (R = sameVs (l.drop j) (m.drop j))) (fun iv _ => l.length - (intOf iv).toNat)
 case atStart => exact ⟨0, rfl, Nat.zero_le _, Lib.hid (Below.refl _ _), Lib.hid HR.out.symm⟩
 case round =>
  obtain ⟨j, rfl, hj, HBR, ht⟩ := hrel
  by_cases hlt : j < l.length
  ·have hlt' : (j : Int) < l.length := by omega
   have hlm : j < m.length := by have := HNL.out; omega
   have hlm' : (j : Int) < m.length := by omega
   have p0 : (0 : Int) ≤ (j : Int) := by omega
   obtain ⟨t, hx⟩ := get_some hlt
   obtain ⟨u, hy⟩ := get_some hlm
   have HST := Lib.hid (sameVs_at hx hy)
   have hz := HBR.out.size
   obtain ⟨eb, eo, k1, b1, i1, s1, l1, ks1, la1, lc1, ka1, kc1, rfl, rfl, heb, ⟨g0, g1, g2, g3, g4, g5⟩, hV1⟩ := (HL.out.below HBR.out hB).at hx
   obtain ⟨fb, fo, k2, b2, i2, s2, l2, ks2, la2, lc2, ka2, kc2, rfl, rfl, hfb, ⟨f0, f1, f2, f3, f4, f5⟩, hV2⟩ := (HM.out.below HBR.out hB).at hy
   have HCS := Lib.hid (fun w' (hb : Below wr.heap.size wr w') => IH.out j _ hx _ _ _ B w' (IsV.below hb (Nat.le_trans hB hz) _ _ hV1) (IsV.below hb (Nat.le_trans hB hz) _ _ hV2) (Nat.le_trans hB (Nat.le_trans hz hb.size)))
   have hebr : eb < wr.heap.size := by omega
   have hfbr : fb < wr.heap.size := by omega
   clear hx hy hV1 hV2
   obtain ⟨eq, heq⟩ := nam (sameV (.mk k1 b1 i1 s1 l1 ks1) (.mk k2 b2 i2 s2 l2 ks2))
   rw [heq] at HCS HST
   clear heq
   cases eq with
   | true =>
    have z990076a := trivial
    exact Se990076
   | false =>
    exact Se990076
  ·have hlt' : ¬ (j : Int) < l.length := by omega
   have HN : Hid (R = true) := Lib.hid (by rw [ht.out, List.drop_of_length_le (by omega), List.drop_of_length_le (by have := HNL.out; omega)]; rfl)
   go_wp2_with fail
   go_ret
   exact ⟨by rw [HN.out]; rfl, HBR.out⟩
set_option maxRecDepth 1000000 in
set_option maxHeartbeats 4000000 in
theorem psame_any (a : Vt) : PSameSaid a := by
 have z851956b := trivial
 exact Se851956
end Go.Proofs.YtndhpdclpgemfaaGreat
namespace Go.Proofs.YtndhpdclpgemfaaGreat
open Go.Shelf Go.Proofs Go.RowKit
def shRen : Go.Shelf.Ren := ⟨fun | 99 => 93 | 137 => 149 | 143 => 135 | 144 => 101 | 156 => 185 | 165 => 187 | 166 => 26 | 167 => 24 | 168 => 92 | 169 => 28 | 206 => 130 | 217 => 150 | 219 => 146 | 224 => 152 | 225 => 151 | 240 => 57 | 241 => 188 | 242 => 129 | 266 => 156 | 267 => 153 | 276 => 110 | 277 => 189 | 278 => 144 | 314 => 157 | n => n, fun | 0 => 0 | 3 => 3 | 4 => 4 | 5 => 5 | 9 => 9 | 20 => 20 | 21 => 21 | 31 => 31 | 37 => 72 | 46 => 170 | 51 => 184 | 70 => 71 | 72 => 74 | 75 => 76 | 76 => 86 | 80 => 89 | 127 => 129 | 146 => 188 | 164 => 159 | n => n, fun | n => n⟩
theorem shLays168 : Go.Proofs.Lays.n168 Tryz.prog shRen := {
  mixed := by kernel_rfl
  f168 := Tryz.func92.trans (congrArg some (by kernel_rfl))
  f240 := Tryz.func57.trans (congrArg some (by kernel_rfl))
  f242 := Tryz.func129.trans (congrArg some (by kernel_rfl))
  f276 := Tryz.func110.trans (congrArg some (by kernel_rfl))
  f278 := Tryz.func144.trans (congrArg some (by kernel_rfl))
  t0 := Tryz.underlying0
  a0 := Tryz.isAgg0
  z0 := Tryz.sizeOf0
  v0 := Tryz.zeroValue0
  t3 := Tryz.underlying3
  a3 := Tryz.isAgg3
  z3 := Tryz.sizeOf3
  v3 := Tryz.zeroValue3
  t4 := Tryz.underlying4
  a4 := Tryz.isAgg4
  z4 := Tryz.sizeOf4
  v4 := Tryz.zeroValue4
  t5 := Tryz.underlying5
  a5 := Tryz.isAgg5
  z5 := Tryz.sizeOf5
  v5 := Tryz.zeroValue5
  t9 := Tryz.underlying9
  a9 := Tryz.isAgg9
  z9 := Tryz.sizeOf9
  v9 := Tryz.zeroValue9
  t20 := Tryz.underlying20
  a20 := Tryz.isAgg20
  z20 := Tryz.sizeOf20
  v20 := Tryz.zeroValue20
  t21 := Tryz.underlying21
  a21 := Tryz.isAgg21
  z21 := Tryz.sizeOf21
  v21 := Tryz.zeroValue21
  t37 := Tryz.underlying72
  a37 := Tryz.isAgg72
  z37 := Tryz.sizeOf72
  v37 := Tryz.zeroValue72
  t46 := Tryz.underlying170
  a46 := Tryz.isAgg170
  z46 := Tryz.sizeOf170
  v46 := Tryz.zeroValue170
  t51 := Tryz.underlying184
  a51 := Tryz.isAgg184
  z51 := Tryz.sizeOf184
  v51 := Tryz.zeroValue184
  t70 := Tryz.underlying71
  a70 := Tryz.isAgg71
  z70 := Tryz.sizeOf71
  v70 := Tryz.zeroValue71
  t72 := Tryz.underlying74
  a72 := Tryz.isAgg74
  z72 := Tryz.sizeOf74
  v72 := Tryz.zeroValue74
  t75 := Tryz.underlying76
  a75 := Tryz.isAgg76
  z75 := Tryz.sizeOf76
  v75 := Tryz.zeroValue76
  t164 := Tryz.underlying159
  a164 := Tryz.isAgg159
  z164 := Tryz.sizeOf159
  v164 := Tryz.zeroValue159
}
theorem shLays167 : Go.Proofs.Lays.n167 Tryz.prog shRen := {
  mixed := by kernel_rfl
  f167 := Tryz.func24.trans (congrArg some (by kernel_rfl))
  f240 := Tryz.func57.trans (congrArg some (by kernel_rfl))
  f276 := Tryz.func110.trans (congrArg some (by kernel_rfl))
  t0 := Tryz.underlying0
  a0 := Tryz.isAgg0
  z0 := Tryz.sizeOf0
  v0 := Tryz.zeroValue0
  t4 := Tryz.underlying4
  a4 := Tryz.isAgg4
  z4 := Tryz.sizeOf4
  v4 := Tryz.zeroValue4
  t5 := Tryz.underlying5
  a5 := Tryz.isAgg5
  z5 := Tryz.sizeOf5
  v5 := Tryz.zeroValue5
  t9 := Tryz.underlying9
  a9 := Tryz.isAgg9
  z9 := Tryz.sizeOf9
  v9 := Tryz.zeroValue9
  t20 := Tryz.underlying20
  a20 := Tryz.isAgg20
  z20 := Tryz.sizeOf20
  v20 := Tryz.zeroValue20
  t37 := Tryz.underlying72
  a37 := Tryz.isAgg72
  z37 := Tryz.sizeOf72
  v37 := Tryz.zeroValue72
  t70 := Tryz.underlying71
  a70 := Tryz.isAgg71
  z70 := Tryz.sizeOf71
  v70 := Tryz.zeroValue71
  t72 := Tryz.underlying74
  a72 := Tryz.isAgg74
  z72 := Tryz.sizeOf74
  v72 := Tryz.zeroValue74
  t75 := Tryz.underlying76
  a75 := Tryz.isAgg76
  z75 := Tryz.sizeOf76
  v75 := Tryz.zeroValue76
  t164 := Tryz.underlying159
  a164 := Tryz.isAgg159
  z164 := Tryz.sizeOf159
  v164 := Tryz.zeroValue159
}
theorem shLays166 : Go.Proofs.Lays.n166 Tryz.prog shRen := {
  mixed := by kernel_rfl
  f166 := Tryz.func26.trans (congrArg some (by kernel_rfl))
  f240 := Tryz.func57.trans (congrArg some (by kernel_rfl))
  f276 := Tryz.func110.trans (congrArg some (by kernel_rfl))
  t0 := Tryz.underlying0
  a0 := Tryz.isAgg0
  z0 := Tryz.sizeOf0
  v0 := Tryz.zeroValue0
  t3 := Tryz.underlying3
  a3 := Tryz.isAgg3
  z3 := Tryz.sizeOf3
  v3 := Tryz.zeroValue3
  t4 := Tryz.underlying4
  a4 := Tryz.isAgg4
  z4 := Tryz.sizeOf4
  v4 := Tryz.zeroValue4
  t9 := Tryz.underlying9
  a9 := Tryz.isAgg9
  z9 := Tryz.sizeOf9
  v9 := Tryz.zeroValue9
  t20 := Tryz.underlying20
  a20 := Tryz.isAgg20
  z20 := Tryz.sizeOf20
  v20 := Tryz.zeroValue20
  t37 := Tryz.underlying72
  a37 := Tryz.isAgg72
  z37 := Tryz.sizeOf72
  v37 := Tryz.zeroValue72
  t70 := Tryz.underlying71
  a70 := Tryz.isAgg71
  z70 := Tryz.sizeOf71
  v70 := Tryz.zeroValue71
  t72 := Tryz.underlying74
  a72 := Tryz.isAgg74
  z72 := Tryz.sizeOf74
  v72 := Tryz.zeroValue74
  t75 := Tryz.underlying76
  a75 := Tryz.isAgg76
  z75 := Tryz.sizeOf76
  v75 := Tryz.zeroValue76
  t164 := Tryz.underlying159
  a164 := Tryz.isAgg159
  z164 := Tryz.sizeOf159
  v164 := Tryz.zeroValue159
}
theorem shLays169 : Go.Proofs.Lays.n169 Tryz.prog shRen := {
  mixed := by kernel_rfl
  f169 := Tryz.func28.trans (congrArg some (by kernel_rfl))
  t0 := Tryz.underlying0
  a0 := Tryz.isAgg0
  z0 := Tryz.sizeOf0
  v0 := Tryz.zeroValue0
  t3 := Tryz.underlying3
  a3 := Tryz.isAgg3
  z3 := Tryz.sizeOf3
  v3 := Tryz.zeroValue3
  t9 := Tryz.underlying9
  a9 := Tryz.isAgg9
  z9 := Tryz.sizeOf9
  v9 := Tryz.zeroValue9
  t37 := Tryz.underlying72
  a37 := Tryz.isAgg72
  z37 := Tryz.sizeOf72
  v37 := Tryz.zeroValue72
  t70 := Tryz.underlying71
  a70 := Tryz.isAgg71
  z70 := Tryz.sizeOf71
  v70 := Tryz.zeroValue71
  t72 := Tryz.underlying74
  a72 := Tryz.isAgg74
  z72 := Tryz.sizeOf74
  v72 := Tryz.zeroValue74
  t127 := Tryz.underlying129
  a127 := Tryz.isAgg129
  z127 := Tryz.sizeOf129
  v127 := Tryz.zeroValue129
}
theorem shLays99 : Go.Proofs.Lays.n99 Tryz.prog shRen := {
  mixed := by kernel_rfl
  f99 := Tryz.func93.trans (congrArg some (by kernel_rfl))
  f206 := Tryz.func130.trans (congrArg some (by kernel_rfl))
  t3 := Tryz.underlying3
  a3 := Tryz.isAgg3
  z3 := Tryz.sizeOf3
  v3 := Tryz.zeroValue3
  t4 := Tryz.underlying4
  a4 := Tryz.isAgg4
  z4 := Tryz.sizeOf4
  v4 := Tryz.zeroValue4
  t9 := Tryz.underlying9
  a9 := Tryz.isAgg9
  z9 := Tryz.sizeOf9
  v9 := Tryz.zeroValue9
}
theorem shLays137 : Go.Proofs.Lays.n137 Tryz.prog shRen := {
  mixed := by kernel_rfl
  f137 := Tryz.func149.trans (congrArg some (by kernel_rfl))
  f217 := Tryz.func150.trans (congrArg some (by kernel_rfl))
  f266 := Tryz.func156.trans (congrArg some (by kernel_rfl))
  t3 := Tryz.underlying3
  a3 := Tryz.isAgg3
  z3 := Tryz.sizeOf3
  v3 := Tryz.zeroValue3
  t5 := Tryz.underlying5
  a5 := Tryz.isAgg5
  z5 := Tryz.sizeOf5
  v5 := Tryz.zeroValue5
  t9 := Tryz.underlying9
  a9 := Tryz.isAgg9
  z9 := Tryz.sizeOf9
  v9 := Tryz.zeroValue9
}
theorem shLays156 : Go.Proofs.Lays.n156 Tryz.prog shRen := {
  mixed := by kernel_rfl
  f156 := Tryz.func185.trans (congrArg some (by kernel_rfl))
  f165 := Tryz.func187.trans (congrArg some (by kernel_rfl))
  f166 := Tryz.func26.trans (congrArg some (by kernel_rfl))
  f169 := Tryz.func28.trans (congrArg some (by kernel_rfl))
  f240 := Tryz.func57.trans (congrArg some (by kernel_rfl))
  f241 := Tryz.func188.trans (congrArg some (by kernel_rfl))
  f276 := Tryz.func110.trans (congrArg some (by kernel_rfl))
  f277 := Tryz.func189.trans (congrArg some (by kernel_rfl))
  t0 := Tryz.underlying0
  a0 := Tryz.isAgg0
  z0 := Tryz.sizeOf0
  v0 := Tryz.zeroValue0
  t3 := Tryz.underlying3
  a3 := Tryz.isAgg3
  z3 := Tryz.sizeOf3
  v3 := Tryz.zeroValue3
  t4 := Tryz.underlying4
  a4 := Tryz.isAgg4
  z4 := Tryz.sizeOf4
  v4 := Tryz.zeroValue4
  t9 := Tryz.underlying9
  a9 := Tryz.isAgg9
  z9 := Tryz.sizeOf9
  v9 := Tryz.zeroValue9
  t20 := Tryz.underlying20
  a20 := Tryz.isAgg20
  z20 := Tryz.sizeOf20
  v20 := Tryz.zeroValue20
  t31 := Tryz.underlying31
  a31 := Tryz.isAgg31
  z31 := Tryz.sizeOf31
  v31 := Tryz.zeroValue31
  t37 := Tryz.underlying72
  a37 := Tryz.isAgg72
  z37 := Tryz.sizeOf72
  v37 := Tryz.zeroValue72
  t70 := Tryz.underlying71
  a70 := Tryz.isAgg71
  z70 := Tryz.sizeOf71
  v70 := Tryz.zeroValue71
  t72 := Tryz.underlying74
  a72 := Tryz.isAgg74
  z72 := Tryz.sizeOf74
  v72 := Tryz.zeroValue74
  t75 := Tryz.underlying76
  a75 := Tryz.isAgg76
  z75 := Tryz.sizeOf76
  v75 := Tryz.zeroValue76
  t76 := Tryz.underlying86
  a76 := Tryz.isAgg86
  z76 := Tryz.sizeOf86
  v76 := Tryz.zeroValue86
  t127 := Tryz.underlying129
  a127 := Tryz.isAgg129
  z127 := Tryz.sizeOf129
  v127 := Tryz.zeroValue129
  t164 := Tryz.underlying159
  a164 := Tryz.isAgg159
  z164 := Tryz.sizeOf159
  v164 := Tryz.zeroValue159
}
theorem shExtra : Builder.Extra Tryz.prog shRen := {
  sizeBuilder := by kernel_rfl
  liesBuilder := by kernel_rfl
  t5 := Tryz.underlying5
  a5 := Tryz.isAgg5
  z5 := Tryz.sizeOf5
  v5 := Tryz.zeroValue5
  infoByte := by kernel_rfl
  cellsByte := by kernel_rfl
  sizeByte := by kernel_rfl
  neB5 := by decide }
end Go.Proofs.YtndhpdclpgemfaaGreat
