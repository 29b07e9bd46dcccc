/- Parts L20, L21, L25, L26, L27 of this seat (pruned, scripts that are alike kept once as default arguments: q1, q2, ..). Conditions: each says its own. -/
import Derived.Deep.DeepCutAuto
import Derived.Laws.EntriesVeiled
import Derived.Test.YtndhpdclpgemfaaGreatZ16
namespace Go.Proofs.YtndhpdclpgemfaaGreat
set_option maxRecDepth 100000
open Go.RowKit Go.Shelf
set_option linter.unusedSimpArgs false
set_option linter.unusedVariables false
theorem raw_q {s : ByteArray} {i : Nat} (hi : i < s.size) (h : s[i].toNat = 39) : rawF (s.data.toList.drop i) = some 0 := by
 rw [List.drop_eq_getElem_cons (by simpa using hi), rawF_cons]
 rw [if_pos (UInt8.toNat_inj.1 h)]
theorem raw_b {s : ByteArray} {i : Nat} (hi : i < s.size) (h : s[i].toNat = 92) : rawF (s.data.toList.drop i) = (rawF (s.data.toList.drop (i + 2))).map (· + 2) := by
 have hc : s.data.toList[i]'(by simpa using hi) = 92 := UInt8.toNat_inj.1 h
 rw [List.drop_eq_getElem_cons (by simpa using hi), rawF_cons, hc, if_neg (by decide), if_pos rfl]
 have e : s.data.toList.drop (i + 2) = (s.data.toList.drop (i + 1)).drop 1 := by rw [List.drop_drop]
 rw [e]
 cases s.data.toList.drop (i + 1) with
 | nil => rfl
 | cons c r => rfl
theorem raw_o {s : ByteArray} {i : Nat} (hi : i < s.size) (h1 : ¬ s[i].toNat = 39) (h2 : ¬ s[i].toNat = 92) : rawF (s.data.toList.drop i) = (rawF (s.data.toList.drop (i + 1))).map (· + 1) := by
 rw [List.drop_eq_getElem_cons (by simpa using hi), rawF_cons, if_neg (fun e => h1 (by show (s.data.toList[i]'(by simpa using hi)).toNat = 39; rw [e]; rfl)), if_neg (fun e => h2 (by show (s.data.toList[i]'(by simpa using hi)).toNat = 92; rw [e]; rfl))]
theorem map_add {o : Option Nat} (a b : Nat) : (o.map (· + a)).map (· + b) = o.map (· + (b + a)) := by
 cases o with
 | none => rfl
 | some n => simp; omega
theorem unq_ext (s : ByteArray) (p i : Nat) (h : p + 1 ≤ i) (hi : i < s.size) (hp : nb s.data.toList p = 39) (hq : nb s.data.toList i = 39) :
    unqS (s.extract p (i + 1)).data.toList = uq ((s.data.toList.drop (p + 1)).take (i - (p + 1))) := by
 have hl : s.data.toList.length = s.size := by simp
 rw [extract_drop]
 unfold unqS
 have hlen : ((s.data.toList.drop p).take (i + 1 - p)).length = i + 1 - p := by rw [List.length_take, List.length_drop, hl]; omega
 rw [hlen, if_pos ⟨by omega, by rw [nb_takeN _ _ _ (by omega), nb_drop]; exact hp, by rw [nb_takeN _ _ _ (by omega), nb_drop, show p + (i + 1 - p - 1) = i from by omega]; exact hq⟩]
 rw [List.drop_take, List.drop_drop, List.take_take, Nat.min_eq_left (by omega), show i + 1 - p - 2 = i - (p + 1) from by omega]
set_option maxRecDepth 1000000 in
set_option maxHeartbeats 4000000 in
theorem quoted_read (B b : Nat) (s : ByteArray) (v : Value) (p : Nat) (acc : List (Tok × Nat)) (w : World) (hs : s.size ≤ 1099511627776) (h : Sc w B b s p v acc) (hacc : acc.length ≤ 4096) (hp : p < s.size)
    (h39 : s[p].toNat = 39) :
    Calls Tryz.prog 46 #[.pointer (some ⟨b, 0, none⟩)] w (ReadP B b s v p acc (oneL (s.data.toList.drop p)) w) := by
 have HLN : Hid (s.data.toList.length = s.size) := Lib.hid (by simp)
 have HNP : Hid (nb s.data.toList p = 39) := Lib.hid (by rw [← nb_get s p hp]; exact h39)
 have HRQ := Lib.hid (oneL_q (r := s.data.toList.drop p) (by rw [nb_drop]; exact HNP.out))
 have HRD := Lib.hid (raw_qd _ (s.data.toList.drop (p + 1)) rfl)
 obtain ⟨R, hR⟩ := nam (oneL (s.data.toList.drop p))
 have HR := Lib.hid hR
 rw [hR]
 rw [hR] at HRQ
 have HS := Lib.hid h
 clear hR h39 h
 have hb := HS.out.2.1
 have c0 := hb.cell (i := 0) rfl
 have c1 := hb.cell (i := 1) rfl
 have hlt := hb.lt
 clear hb
 have p0 : (0 : Int) ≤ (p : Int) := by omega
 go_enter Tryz.func46, Tryz.ntmps46
 go_wp2_with fail
 go_loop [3] (fun k => ∃ i : Nat, k = .int .i64 i ∧ p + 1 ≤ i ∧ i ≤ s.size + 1 ∧ Hid (rawF (s.data.toList.drop (p + 1)) = (rawF (s.data.toList.drop i)).map (· + (i - (p + 1))))) (fun k => s.size + 1 - (intOf k).toNat)
 case atStart => exact ⟨p + 1, by go_num, by omega, by omega, Lib.hid (by rw [Nat.sub_self]; cases rawF (s.data.toList.drop (p + 1)) <;> rfl)⟩
 case round =>
  obtain ⟨i, rfl, hpi, his, HRW⟩ := hrel
  by_cases hq : i < s.size
  ·have hq' : (i : Int) < s.size := by omega
   have X : Hid (s[i].toNat = nb s.data.toList i) := Lib.hid (nb_get s i hq)
   by_cases a : s[i].toNat = 39
   ·have b1 : ((s[i].toNat : Int) == 39) = true := by rw [a]; rfl
    have b2 : ((s[i].toNat : Int) != 39) = false := by rw [a]; rfl
    have HRF : Hid (rawF (s.data.toList.drop (p + 1)) = some (i - (p + 1))) := Lib.hid (by rw [HRW.out, raw_q hq a]; simp)
    have HQD : Hid (qd ((s.data.toList.drop p).drop 1) = (uq ((s.data.toList.drop (p + 1)).take (i - (p + 1)))).map fun t => (t, (s.data.toList.drop (p + 1)).drop (i - (p + 1) + 1))) := Lib.hid (by rw [List.drop_drop, HRD.out, HRF.out])
    have hxz : (s.extract p (i + 1)).size ≤ 1099511627776 := by simp; omega
    have HUN : Hid (unqS (s.extract p (i + 1)).data.toList = uq ((s.data.toList.drop (p + 1)).take (i - (p + 1)))) := Lib.hid (unq_ext s p i hpi hq HNP.out (by rw [← X.out]; exact a))
    have HU := Lib.hid (fun w => unquote_any (s.extract p (i + 1)) w hxz)
    rw [HUN.out] at HU
    clear a
    have g0 : ∀ u : Ext w.heap.size w, u.w.cell? ⟨b, 0, none⟩ = some (.string s) := fun u => u.cell hlt c0
    have g1 : ∀ u : Ext w.heap.size w, u.w.cell? ⟨b, 1, none⟩ = some (.int .i64 p) := fun u => u.cell hlt c1
    have w1' : IntKind.i64.wrap ((i : Int) + 1) = (i : Int) + 1 := IntWalk.i64_in _ (by omega)
    have t1' : ((i : Int) + 1).toNat = i + 1 := by omega
    have q1 : (0 : Int) ≤ (i : Int) + 1 := by omega
    have q2 : (p : Int) ≤ (i : Int) + 1 := by omega
    have q3 : (i : Int) + 1 ≤ s.size := by omega
    have hge : ¬ (s.size : Int) ≤ i := by omega
    cases hu : uq ((s.data.toList.drop (p + 1)).take (i - (p + 1))) with
    | none =>
     have HRR : Hid (R = .bad 1) := Lib.hid (by rw [HRQ.out, HQD.out, hu]; rfl)
     rw [hu] at HU
     have HCS : Hid (∀ u : Ext w.heap.size w, Calls Tryz.prog 100 #[.string (s.extract p (i + 1))] u.w fun e w'' => e = .returned (.tuple #[.string ⟨#[]⟩, .int .i64 1]) ∧ ∃ u' : Ext w.heap.size w, w'' = u'.w) := Lib.hid (fun u => ext_call u (Nat.le_refl _) (HU.out _))
     clear hu HU
     go_wp2_with fail
     refine wp_region_ext w.heap.size (by kernel_rfl) (by kernel_rfl) ?_
     repeat (go_big_quiet_step (exact HCS.out _))
     refine wpQuiet_nil ?_
     intro w2 hw'
     obtain ⟨u, hu⟩ := hw'
     have hb2 := u.below
     rw [← hu] at hb2
     have HB2 := Lib.hid hb2
     clear hu g0 g1 hb2 w1'
     go_wp2_with fail
     go_ret
     rw [HRR.out]
     exact ⟨rfl, ScMoved.same HS.out HB2.out⟩
    | some t =>
     have HRR : Hid (R = .tok ⟨4, t, 0⟩ (i + 1 - p)) := Lib.hid (by
      rw [HRQ.out, HQD.out, hu]
      show One.tok _ _ = _
      rw [List.length_drop, List.length_drop, List.length_drop, HLN.out, show s.size - p - (s.size - (p + 1) - (i - (p + 1) + 1)) = i + 1 - p from by omega])
     rw [hu] at HU
     have HCS : Hid (∀ u : Ext w.heap.size w, Calls Tryz.prog 100 #[.string (s.extract p (i + 1))] u.w fun e w'' => e = .returned (.tuple #[.string (strOf t), .int .i64 0]) ∧ ∃ u' : Ext w.heap.size w, w'' = u'.w) := Lib.hid (fun u => ext_call u (Nat.le_refl _) (HU.out _))
     have HPUT : Hid (∀ w2, Sc w2 B b s p v acc → Calls Tryz.prog 51 #[.pointer (some ⟨b, 0, none⟩), .agg #[.int .i64 4, .string (strOf t), .int .i64 0, .int .i64 0], .int .i64 ((i : Int) + 1 - p)] w2 (PutP B b s v p acc ⟨4, t, 0⟩ (i + 1 - p) w2)) := Lib.hid (fun w2 h2 => by
      rw [show (i : Int) + 1 - p = ((i + 1 - p : Nat) : Int) from by omega]
      exact put_any B b s v p acc ⟨4, t, 0⟩ 0 (i + 1 - p) w2 h2 hacc (by omega))
     clear hu HU
     go_wp2_with fail
     refine wp_region_ext w.heap.size (by kernel_rfl) (by kernel_rfl) ?_
     repeat (go_big_quiet_step (exact HCS.out _))
     refine wpQuiet_nil ?_
     intro w2 hw'
     obtain ⟨u, hu⟩ := hw'
     have hb2 := u.below
     rw [← hu] at hb2
     have HB2 := Lib.hid hb2
     have HS2 := Lib.hid (HS.out.below hb2)
     have d1 := HS2.out.2.1.cell (i := 1) rfl
     clear hu g0 g1 hb2 w1'
     go_wp2_with fail
     refine (HPUT.out w2 HS2.out).mono ?_
     rintro e w3 hp3
     have HP3 := Lib.hid (PutP.trans (Kept.of_below HB2.out) hp3)
     unfold PutP at hp3
     split at hp3
     ·obtain ⟨rfl, _⟩ := hp3
      go_wp2_with fail
      go_ret
      rw [HRR.out]; exact HP3.out
     ·obtain ⟨rfl, _⟩ := hp3
      go_wp2_with fail
      go_ret
      rw [HRR.out]; exact HP3.out
   ·have b1 : ((s[i].toNat : Int) == 39) = false := beq_eq_false_iff_ne.2 (by omega)
    have b2 : ((s[i].toNat : Int) != 39) = true := by simp [bne, b1]
    by_cases c : s[i].toNat = 92
    ·have b3 : ((s[i].toNat : Int) == 92) = true := by rw [c]; rfl
     have HN : Hid (rawF (s.data.toList.drop (p + 1)) = (rawF (s.data.toList.drop (i + 2))).map (· + (i + 2 - (p + 1)))) := Lib.hid (by rw [HRW.out, raw_b hq c, map_add, show i - (p + 1) + 2 = i + 2 - (p + 1) from by omega])
     clear a c
     go_wp2_with fail
     go_round
     case rel => exact ⟨i + 2, by go_num, by omega, by omega, HN⟩
     case measure => simp [intOf]; omega
    ·have b3 : ((s[i].toNat : Int) == 92) = false := beq_eq_false_iff_ne.2 (by omega)
     have HN : Hid (rawF (s.data.toList.drop (p + 1)) = (rawF (s.data.toList.drop (i + 1))).map (· + (i + 1 - (p + 1)))) := Lib.hid (by rw [HRW.out, raw_o hq a c, map_add, show i - (p + 1) + 1 = i + 1 - (p + 1) from by omega])
     clear a c
     go_wp2_with fail
     go_round
     case rel => exact ⟨i + 1, by go_num, by omega, by omega, HN⟩
     case measure => simp [intOf]; omega
  ·have hq' : ¬ (i : Int) < s.size := by omega
   have hge : (s.size : Int) ≤ i := by omega
   have HRR : Hid (R = .bad 1) := Lib.hid (by
    rw [HRQ.out, List.drop_drop, HRD.out, HRW.out, List.drop_of_length_le (by rw [HLN.out]; omega)]; rfl)
   go_wp2_with fail
   go_ret
   rw [HRR.out]
   exact ⟨rfl, ScMoved.same HS.out (Below.refl _ _)⟩
def scanJ (g : Nat) (L : List UInt8) (j : Nat) (acc : List (Tok × Nat)) : ScanR :=
  if L.drop j = [] then (if 4096 ≤ acc.length then .bad j 8 else .ok (acc ++ [(⟨6, [], 0⟩, j)]))
  else match oneL (L.drop j) with
    | .bad e => .bad j e
    | .tok t n => if 4096 ≤ acc.length then .bad j 8 else scanN g (L.drop (j + n)) (j + n) (acc ++ [(t, j)])
def rulesC (b : Nat) : List Value :=
  [.func (.func 41) #[] #[], .func (.func 42) #[.pointer (some ⟨b, 0, none⟩)] #[],
   .func (.func 43) #[] #[], .func (.func 44) #[.pointer (some ⟨b, 0, none⟩)] #[],
   .func (.func 45) #[] #[], .func (.func 46) #[.pointer (some ⟨b, 0, none⟩)] #[],
   .func (.func 47) #[] #[], .func (.func 48) #[.pointer (some ⟨b, 0, none⟩)] #[]]
theorem two_old (w : World) (X Y : Obj) : ((w.alloc X).alloc Y).drew.heap[w.heap.size]? = some X := by
 show ((w.alloc X).alloc Y).heap[w.heap.size]? = _
 rw [Below.heap_alloc _ _ _ (by simp)]
 exact heap_alloc_new w X
structure Head (w : World) (s : ByteArray) (R : ScanR) (g : Nat) (wr : World) (j n : Nat) (v : Value) (acc : List (Tok × Nat)) : Prop where
  sc : Sc wr w.heap.size w.heap.size s j v acc
  own : ∀ x ∈ ownL w.heap.size v, x = w.heap.size ∨ w.heap.size + 1 < x
  rules : Block wr (w.heap.size + 1) (rulesC w.heap.size) 102
  below : Below w.heap.size w wr
  j_le : j ≤ s.size
  n_le : acc.length ≤ 4096
  n_eq : n = acc.length
  res : R = scanJ g s.data.toList j acc
  fuel : s.size - j ≤ g
structure Mid (w : World) (s : ByteArray) (R : ScanR) (g : Nat) (wr : World) (p : Nat) (v : Value) (acc : List (Tok × Nat)) : Prop where
  sc : Sc wr w.heap.size w.heap.size s p v acc
  own : ∀ x ∈ ownL w.heap.size v, x = w.heap.size ∨ w.heap.size + 1 < x
  rules : Block wr (w.heap.size + 1) (rulesC w.heap.size) 102
  below : Below w.heap.size w wr
  p_le : p ≤ s.size
  n_le : acc.length ≤ 4096
  res : R = scanN g (s.data.toList.drop p) p acc
  fuel : s.size - p < g
theorem ScMoved.facts {w u w3 : World} {s : ByteArray} {p p' : Nat} {v : Value} {acc : List (Tok × Nat)} (hown : ∀ x ∈ ownL w.heap.size v, x = w.heap.size ∨ w.heap.size + 1 < x)
    (hB : Below w.heap.size w u) (hr : Block u (w.heap.size + 1) (rulesC w.heap.size) 102) (h : ScMoved w.heap.size w.heap.size s v p' acc u w3) :
    ∃ v', Sc w3 w.heap.size w.heap.size s p' v' acc ∧ (∀ x ∈ ownL w.heap.size v', x = w.heap.size ∨ w.heap.size + 1 < x) ∧ Block w3 (w.heap.size + 1) (rulesC w.heap.size) 102 ∧ Below w.heap.size w w3 := by
 obtain ⟨v', h1, h2, h3⟩ := h
 have hlt := hr.lt
 refine ⟨v', h1, fun x hx => ?_, hr.of_heap (h2.block _ hlt (fun hm => by rcases hown _ hm with e | e <;> omega)), hB.trans (h2.below (fun x hx => by rcases hown x hx with e | e <;> omega) hB.size)⟩
 rcases h3 x hx with h4 | h4
 ·exact hown x h4
 ·exact .inr (by omega)
theorem read_mid {w wr u w3 : World} {s : ByteArray} {R : ScanR} {g j n : Nat} {v : Value} {acc : List (Tok × Nat)} {e : Ending} (H : Head w s R g wr j n v acc) (hj : j < s.size) (hu : Below wr.heap.size wr u)
    (h : ReadP w.heap.size w.heap.size s v j acc (oneL (s.data.toList.drop j)) u e w3) :
    (∃ x v', (x != 0) = true ∧ e = .returned (.int .i64 x) ∧ R = .bad j x ∧ Block w3 w.heap.size [.string s, .int .i64 j, v'] 98 ∧ Below w.heap.size w w3) ∨
    ∃ p v' acc', e = .returned (.int .i64 0) ∧ Mid w s R g w3 p v' acc' := by
 have hl : s.data.toList.length = s.size := by simp
 have hne : s.data.toList.drop j ≠ [] := by intro e; have := congrArg List.length e; rw [List.length_drop, hl] at this; simp at this; omega
 have hr := H.res
 unfold scanJ at hr
 rw [if_neg hne] at hr
 have hB : Below w.heap.size w u := H.below.trans (hu.mono H.below.size)
 have hru : Block u (w.heap.size + 1) (rulesC w.heap.size) 102 := H.rules.below hu H.rules.lt
 cases ho : oneL (s.data.toList.drop j) with
 | bad x =>
  rw [ho] at h hr
  obtain ⟨rfl, hm⟩ := h
  obtain ⟨v', h1, _, _, h4⟩ := ScMoved.facts (p := j) H.own hB hru hm
  have hx := oneL_ne ho
  exact .inl ⟨x, v', by simp [bne, hx], rfl, hr, h1.2.1, h4⟩
 | tok t m =>
  rw [ho] at h hr
  have hsz := oneL_size hne ho
  rw [List.length_drop, hl] at hsz
  have h : PutP w.heap.size w.heap.size s v j acc t m u e w3 := h
  have hr : R = if 4096 ≤ acc.length then .bad j 8 else scanN g (s.data.toList.drop (j + m)) (j + m) (acc ++ [(t, j)]) := hr
  unfold PutP at h
  by_cases hc : 4096 ≤ acc.length
  ·rw [if_pos hc] at h hr
   obtain ⟨rfl, hm⟩ := h
   obtain ⟨v', h1, _, _, h4⟩ := ScMoved.facts (p := j) H.own hB hru hm
   exact .inl ⟨8, v', by decide, rfl, hr, h1.2.1, h4⟩
  ·rw [if_neg hc] at h hr
   obtain ⟨rfl, hm⟩ := h
   obtain ⟨v', h1, h2, h3, h4⟩ := ScMoved.facts (p := j) H.own hB hru hm
   exact .inr ⟨j + m, v', acc ++ [(t, j)], rfl, ⟨h1, h2, h3, h4, by omega, by simp; omega, hr, by have := H.fuel; omega⟩⟩
theorem Mid.head {w wr w4 : World} {s : ByteArray} {R : ScanR} {g p q : Nat} {v : Value} {acc : List (Tok × Nat)} (H : Mid w s R g wr p v acc) (hq : spanB blankB (s.data.toList.drop p) = q) (hh : w4.heap = wr.heap) (hos : w4.os = wr.os) (ht : w4.tape = wr.tape) (hou : w4.output = wr.output) :
    ∃ g', g = g' + 1 ∧ Head w s R g' (w4.setCell ⟨w.heap.size, 1, none⟩ (.int .i64 ((p : Int) + q))) (p + q) acc.length v acc := by
 have hl : s.data.toList.length = s.size := by simp
 have hqs : p + q ≤ s.size := by have := spanB_le blankB (s.data.toList.drop p); rw [hq, List.length_drop, hl] at this; have := H.p_le; omega
 have hf := H.fuel
 refine ⟨g - 1, by omega, ?_⟩
 have hblk : ∀ {b : Nat} {c : List Value} {t : TypeId}, Block wr b c t → Block w4 b c t := fun h => h.of_heap (by rw [hh])
 have hb := (hblk H.sc.2.1).set 1 (.int .i64 ((p : Int) + q))
 have hne : ∀ k, v.ownBlock = some k → k ≠ w.heap.size := H.sc.2.2.2
 refine ⟨⟨H.sc.1, ?_, own_set (own_heap H.sc.2.2.1 (fun k _ => by rw [hh])) hne _, hne⟩, H.own, (hblk H.rules).set_other (by show w.heap.size + 1 ≠ w.heap.size; omega) _, ?_, hqs, H.n_le, rfl, ?_, by omega⟩
 ·rw [show ((p + q : Nat) : Int) = (p : Int) + q from by omega]; exact hb
 ·refine Below.setCell (p := ⟨w.heap.size, 1, none⟩) ⟨hos.trans H.below.os, ht.trans H.below.tape, hou.trans H.below.output, by rw [hh]; exact H.below.size, fun k hk => by rw [hh]; exact H.below.block k hk⟩ (Nat.le_refl _) _
 ·have := scanN_at (g - 1) s.data.toList p (p + q) acc (by omega) (by rw [hq]; omega)
  rw [show g - 1 + 1 = g from by omega] at this
  rw [H.res, this]; rfl
theorem Se385977 {P : Prop} (h : P := by
 first
 |(
  guard_hyp z385977b
  obtain ⟨i, rfl, hi0, hi1, HBI⟩ := hrel
  have hsi := (HU.out _ HBI.out).1.2.1
  have e0 := hsi.cell (i := 0) rfl
  have e1 := hsi.cell (i := 1) rfl
  have hri := HRI.out _ HBI.out
  have hzi := HBI.out.size
  have hlt1 : w.heap.size < wr.heap.size := by omega
  have hlt2 : w.heap.size + 1 < wr.heap.size := by omega
  have hcase : i = 0 := by omega
  obtain rfl := hcase
  have r0 := hri.cell (i := 0) rfl
  have r1 := hri.cell (i := 1) rfl)
 |(
  first
  |(
   guard_hyp z830064a
   have r0 := hri.cell (i := 6) rfl
   have r1 := hri.cell (i := 7) rfl)
  |(
   guard_hyp z830064b
   have r0 := hri.cell (i := 4) rfl
   have r1 := hri.cell (i := 5) rfl)
  |(
   have r0 := hri.cell (i := 2) rfl
   have r1 := hri.cell (i := 3) rfl))
 clear hsi hri
 go_wp2_with fail
 first
 |(
  guard_hyp z385977a
  first
  | (guard_hyp z830064a; go_quiet ((go_at_call 47; exact Calls.quiet_of_same (isany_any _ _))))
  | (guard_hyp z830064b; go_quiet ((go_at_call 45; exact Calls.quiet_of_same (HQ.out _))))
  | (go_quiet ((go_at_call 43; exact Calls.quiet_of_same (HD.out _)))))
 | (go_quiet ((go_at_call 41; exact Calls.quiet_of_same (HL.out _))))
 go_wp2_with fail
 refine (HREAD.out _ (below_draws (HBI.out.alloc HBI.out.size _) _)).mono ?_
 rintro e w3 hp3
 rcases read_mid HH.out hj (below_draws (HBI.out.alloc HBI.out.size _) _) hp3 with ⟨x, v', hx, rfl, hrr, hb3, hB3⟩ | ⟨p', v', acc', rfl, hmid⟩
 ·have HRR := Lib.hid hrr
  have HB3 := Lib.hid hB3
  have k1 := hb3.cell (i := 1) rfl
  clear hrr hb3 hB3 e0 e1 r0 r1 hp3
  go_wp2_with fail
  go_quiet (fail)
  go_wp2_with fail
  refine bodyPost_ret (v := .tuple #[.slice none 0 0, .int .i64 j, .int .i64 x]) (by simp [results, Tryz.results18, go_sem]) rfl ⟨?_, below_draws HB3.out _⟩
  rw [HRR.out]; rfl
 ·obtain ⟨q, hqq⟩ := nam (spanB blankB (s.data.toList.drop p'))
  have HMID := Lib.hid hmid
  have HQQ := Lib.hid hqq
  have HWH : Hid (∀ u, u.heap = w3.heap → Calls Tryz.prog 49 #[.pointer (some ⟨w.heap.size, 0, none⟩), .func (.func 50) #[] #[]] u (WhileP q u)) := Lib.hid (fun u hu => by
   have := while_blank s p' w.heap.size u v' hs hmid.p_le (hmid.sc.2.1.of_heap (by rw [hu]))
   rw [hqq] at this; exact this)
  have hpq : p' + q ≤ s.size := by have := spanB_le blankB (s.data.toList.drop p'); rw [hqq, List.length_drop, HLN.out] at this; have := hmid.p_le; omega
  have k1 := hmid.sc.2.1.cell (i := 1) rfl
  have f1 := hmid.sc.2.1.free 1
  have s1 : IntKind.i64.wrap ((p' : Int) + q) = (p' : Int) + q := IntWalk.i64_in _ (by omega)
  clear hmid hqq e0 e1 r0 r1 c1 hp3
  go_wp2_with fail
  go_region_law (first | (go_simp; go_at_call 49; refine (HWH.out _ (by rfl)).mono ?_; rintro e w4 ⟨rfl, hm4⟩; have hh4 : w4.heap = w3.heap ∧ w4.os = w3.os ∧ w4.tape = w3.tape ∧ w4.output = w3.output := (by obtain ⟨m, rfl⟩ := hm4; exact ⟨rfl, rfl, rfl, rfl⟩); have hb4 : Block w4 w.heap.size [.string s, .int .i64 p', v'] 98 := HMID.out.sc.2.1.of_heap (by rw [hh4.1]); have k4 := hb4.cell (i := 1) rfl; have f4 := hb4.free 1; have HH4 := Lib.hid hh4; clear hb4 hh4))
  all_goals
   obtain ⟨g', hg', hhead⟩ := HMID.out.head HQQ.out HH4.out.1 HH4.out.2.1 HH4.out.2.2.1 HH4.out.2.2.2
   have HHN := Lib.hid hhead
   have HG := Lib.hid hg'
   clear hg' hhead s1
   go_wp2_with fail
   go_roundg g'
   case measure => have := HG.out; omega
   case rel => exact ⟨_, _, _, _, HHN⟩) : P := h
theorem Se830064 {P : Prop} (h : P := by
 first
 |(
  guard_hyp z830064a
  have HREAD := Lib.hid (fun u (hu : Below wo.heap.size wo u) => sign_read w.heap.size w.heap.size s v j acc u hs (HU.out u hu).1 HH.out.n_le hj hl hd hq)
  rw [decide_eq_false hq] at HQ
  clear hl hd hq)
 |(
  guard_hyp z830064b
  have HREAD := Lib.hid (fun u (hu : Below wo.heap.size wo u) => quoted_read w.heap.size w.heap.size s v j acc u hs (HU.out u hu).1 HH.out.n_le hj hq)
  rw [decide_eq_true hq] at HQ
  clear hl hd hq)
 |(
  have HREAD := Lib.hid (fun u (hu : Below wo.heap.size wo u) => number_read w.heap.size w.heap.size s v j acc u hs (HU.out u hu).1 HH.out.n_le hj hl hd)
  rw [hd] at HD
  clear hl hd)
 go_wp2_with fail
 first
 | (guard_hyp z830064a; go_loopw [57] (fun k wi => ∃ i : Int, k = .int .i64 i ∧ 0 ≤ i ∧ i ≤ 3 ∧ Hid (Below wo.heap.size wo wi)) (fun k _ => 4 - (intOf k).toNat))
 | (guard_hyp z830064b; go_loopw [57] (fun k wi => ∃ i : Int, k = .int .i64 i ∧ 0 ≤ i ∧ i ≤ 2 ∧ Hid (Below wo.heap.size wo wi)) (fun k _ => 4 - (intOf k).toNat))
 | (go_loopw [57] (fun k wi => ∃ i : Int, k = .int .i64 i ∧ 0 ≤ i ∧ i ≤ 1 ∧ Hid (Below wo.heap.size wo wi)) (fun k _ => 4 - (intOf k).toNat))
 case atStart => exact ⟨0, rfl, by omega, by omega, Lib.hid (Below.refl _ _)⟩
 case round =>
  obtain ⟨i, rfl, hi0, hi1, HBI⟩ := hrel
  have hsi := (HU.out _ HBI.out).1.2.1
  have e0 := hsi.cell (i := 0) rfl
  have e1 := hsi.cell (i := 1) rfl
  have hri := HRI.out _ HBI.out
  have hzi := HBI.out.size
  have hlt1 : w.heap.size < wr.heap.size := by omega
  have hlt2 : w.heap.size + 1 < wr.heap.size := by omega
  first
  |(
   guard_hyp z830064a
   have hcase : i = 0 ∨ i = 1 ∨ i = 2 ∨ i = 3 := by omega
   rcases hcase with rfl | rfl | rfl | rfl)
  |(
   guard_hyp z830064b
   have hcase : i = 0 ∨ i = 1 ∨ i = 2 := by omega
   rcases hcase with rfl | rfl | rfl)
  |(
   have hcase : i = 0 ∨ i = 1 := by omega
   rcases hcase with rfl | rfl)
  ·have r0 := hri.cell (i := 0) rfl
   have r1 := hri.cell (i := 1) rfl
   clear hsi hri
   go_wp2_with fail
   go_quiet ((go_at_call 41; exact Calls.quiet_of_same (HL.out _)))
   go_wp2_with fail
   go_roundw
   case rel => exact ⟨1, rfl, by omega, by omega, Lib.hid (below_draws (HBI.out.alloc HBI.out.size _) _)⟩
   case measure => simp [intOf]
  first
  | (guard_hyp z830064c)
  |(
   ·have r0 := hri.cell (i := 2) rfl
    have r1 := hri.cell (i := 3) rfl
    clear hsi hri
    go_wp2_with fail
    go_quiet ((go_at_call 43; exact Calls.quiet_of_same (HD.out _)))
    go_wp2_with fail
    go_roundw
    case rel => exact ⟨2, rfl, by omega, by omega, Lib.hid (below_draws (HBI.out.alloc HBI.out.size _) _)⟩
    case measure => simp [intOf]
   first
   |(
    guard_hyp z830064a
    ·have r0 := hri.cell (i := 4) rfl
     have r1 := hri.cell (i := 5) rfl
     clear hsi hri
     go_wp2_with fail
     go_quiet ((go_at_call 45; exact Calls.quiet_of_same (HQ.out _)))
     go_wp2_with fail
     go_roundw
     case rel => exact ⟨3, rfl, by omega, by omega, Lib.hid (below_draws (HBI.out.alloc HBI.out.size _) _)⟩
     case measure => simp [intOf])
   | skip)
  ·have z385977a := trivial
   exact Se385977) : P := h
set_option maxRecDepth 1000000 in
set_option maxHeartbeats 8000000 in
theorem scan_any (s : ByteArray) (mm : Int) (w : World) (hs : s.size ≤ 1099511627776) (hm : w.cell? mlA = some (.int .i64 mm)) (hg : 0 < w.heap.size) :
    Calls Tryz.prog 18 #[.string s] w (ScanP (scanL s.data.toList) w) := by
 have HLN : Hid (s.data.toList.length = s.size) := Lib.hid (by simp)
 obtain ⟨R, hR⟩ := nam (scanL s.data.toList)
 have HR := Lib.hid hR
 rw [hR]
 clear hR
 by_cases hbig : 16384 < s.size
 ·have hbig' : (16384 : Int) < s.size := by omega
  have HRR : Hid (R = .bad 0 8) := Lib.hid (by rw [← HR.out]; unfold scanL; rw [if_pos (by rw [HLN.out]; exact hbig)])
  go_enter Tryz.func18, Tryz.ntmps18
  go_wp2_with fail
  refine bodyPost_ret (v := .tuple #[.slice none 0 0, .int .i64 0, .int .i64 8]) (by simp [results, Tryz.results18, go_sem]) rfl ⟨?_, Below.refl _ _⟩
  rw [HRR.out]; rfl
 have hbig' : ¬ (16384 : Int) < s.size := by omega
 have HR0 : Hid (scanN (s.size + 1) (s.data.toList.drop 0) 0 [] = R) := Lib.hid (by rw [← HR.out]; unfold scanL; rw [if_neg (by rw [HLN.out]; exact hbig), HLN.out]; rfl)
 have HM := Lib.hid hm
 clear hm
 obtain ⟨j0, hj0⟩ := nam (spanB blankB (s.data.toList.drop 0))
 have hj0l : j0 ≤ s.size := by have := spanB_le blankB (s.data.toList.drop 0); rw [hj0, List.length_drop, HLN.out] at this; omega
 have HRJ : Hid (R = scanJ s.size s.data.toList j0 []) := Lib.hid (by rw [← HR0.out, scanN_at s.size s.data.toList 0 j0 [] (by omega) (by rw [hj0]; rfl)]; rfl)
 have HSB0 : Hid (∀ u, u.heap[w.heap.size]? = some (.cells #[.string s, .int .i64 0, .slice none 0 0] 98 (0, 0)) → Calls Tryz.prog 49 #[.pointer (some ⟨w.heap.size, 0, none⟩), .func (.func 50) #[] #[]] u (WhileP j0 u)) := Lib.hid (fun u hu => by
  have := while_blank s 0 w.heap.size u (.slice none 0 0) hs (by omega) hu
  rw [hj0] at this; exact this)
 clear hj0
 have s0 : IntKind.i64.wrap (j0 : Int) = j0 := IntWalk.i64_in _ (by omega)
 have S0 := Lib.hid s0
 clear s0
 go_enter Tryz.func18, Tryz.ntmps18
 go_upto_region 5 with fail
 go_cut [] (fun wx => ∃ n v, Hid (Head w s R s.size wx j0 n v []))
 case first =>
  have s0 := S0.out
  go_region_law (first | (go_simp; go_at_call 49; refine (HSB0.out _ (two_old w _ _)).mono ?_; rintro e w1 ⟨rfl, hm1⟩; have hb1 : Block w1 w.heap.size [.string s, .int .i64 0, .slice none 0 0] 98 := (by obtain ⟨m, rfl⟩ := hm1; exact two_old w _ _); have k1 := hb1.cell (i := 1) rfl; have f1 := hb1.free 1; have hrb : Block w1 (w.heap.size + 1) (rulesC w.heap.size) 102 := (by obtain ⟨m, rfl⟩ := hm1; exact two_new w _ _); have hbl : Below w.heap.size w w1 := (by obtain ⟨m, rfl⟩ := hm1; exact below_draws (((Below.refl _ _).alloc (Nat.le_refl _) _).alloc (by simp) _).drew _); have HB1 := Lib.hid hb1; have HRB := Lib.hid hrb; have HBL := Lib.hid hbl; clear hb1 hrb hbl))
  all_goals
   go_wp2_with fail
   go_meet
   refine ⟨0, .slice none 0 0, Lib.hid ⟨⟨Nat.le_refl _, HB1.out.set 1 _, World.ownsRow_nil _ _ _ _, fun k e => (by cases e)⟩, fun x hx => ?_, HRB.out.set_other (by show w.heap.size + 1 ≠ w.heap.size; omega) _, HBL.out.setCell (p := ⟨w.heap.size, 1, none⟩) (Nat.le_refl _) _, hj0l, by simp, rfl, HRJ.out, by omega⟩⟩
   rcases ownL_cases hx with e | e
   ·exact .inl e
   ·cases e
 case rest =>
  obtain ⟨n0, v0, HH0⟩ := hcut
  clear HSB0
  go_wp2_with fail
  go_loopg [] s.size (fun g wr => ∃ j n v acc, Hid (Head w s R g wr j n v acc))
  case atStart => exact ⟨j0, n0, v0, [], HH0⟩
  case round =>
   clear HH0 HRJ HR0
   obtain ⟨j, n, v, acc, HH⟩ := hrel
   obtain ⟨wo, hwo⟩ : ∃ wo : World, wo = wr := ⟨_, rfl⟩
   subst hwo
   have hjs := HH.out.j_le
   have hbk := HH.out.sc.2.1
   have c1 := hbk.cell (i := 1) rfl
   have hblt := hbk.lt
   clear hbk
   by_cases hj : j < s.size
   ·have hj' : (j : Int) < s.size := by omega
    have hjp : (0 : Int) ≤ (j : Int) := by omega
    have hc : s[j].toNat < 256 := by have := s[j].toNat_lt; omega
    have HU : Hid (∀ u, Below wo.heap.size wo u → Sc u w.heap.size w.heap.size s j v acc ∧ u.cell? mlA = some (.int .i64 mm) ∧ 0 < u.heap.size) := Lib.hid (fun u hu => ⟨HH.out.sc.below hu, by
     have hb : Below w.heap.size w u := HH.out.below.trans (hu.mono HH.out.below.size)
     rw [hb.cell (by show 0 < w.heap.size; exact hg)]; exact HM.out, by have := HH.out.below.size; have := hu.size; omega⟩)
    have HRI : Hid (∀ u, Below wo.heap.size wo u → Block u (w.heap.size + 1) (rulesC w.heap.size) 102) := Lib.hid (fun u hu => HH.out.rules.below hu HH.out.rules.lt)
    have hrlt := HH.out.rules.lt
    have HL := Lib.hid (fun w => pletter_any' s[j].toNat hc w)
    have HD := Lib.hid (fun w => pdigit_any' s[j].toNat hc w)
    have HQ := Lib.hid (fun w => isq_any s[j].toNat hc w)
    cases hl : letter s[j].toNat with
    | true =>
     have HREAD := Lib.hid (fun u (hu : Below wo.heap.size wo u) => name_read w.heap.size w.heap.size s v j acc mm u hs (HU.out u hu).1 HH.out.n_le hj (HU.out u hu).2.1 (HU.out u hu).2.2 hl)
     rw [hl] at HL
     clear hl
     go_wp2_with fail
     go_loopw [57] (fun k wi => ∃ i : Int, k = .int .i64 i ∧ 0 ≤ i ∧ i ≤ 0 ∧ Hid (Below wo.heap.size wo wi)) (fun k _ => 4 - (intOf k).toNat)
     case atStart => exact ⟨0, rfl, by omega, by omega, Lib.hid (Below.refl _ _)⟩
     case round =>
      have z385977b := trivial
      exact Se385977
    | false =>
     rw [hl] at HL
     cases hd : digt s[j].toNat with
     | true =>
      have z830064c := trivial
      exact Se830064
     | false =>
      rw [hd] at HD
      by_cases hq : s[j].toNat = 39
      ·have z830064b := trivial
       exact Se830064
      ·have z830064a := trivial
       exact Se830064
   ·have hj' : ¬ (j : Int) < s.size := by omega
    have HRR : Hid (R = if 4096 ≤ acc.length then .bad j 8 else .ok (acc ++ [(⟨6, [], 0⟩, j)])) := Lib.hid (by
     rw [HH.out.res]; unfold scanJ; rw [if_pos (List.drop_of_length_le (by rw [HLN.out]; omega))])
    have HPUT : Hid (Calls Tryz.prog 51 #[.pointer (some ⟨w.heap.size, 0, none⟩), .agg #[.int .i64 6, .string ⟨#[]⟩, .int .i64 0, .int .i64 0], .int .i64 0] wo (PutP w.heap.size w.heap.size s v j acc ⟨6, [], 0⟩ 0 wo)) := Lib.hid (put_any w.heap.size w.heap.size s v j acc ⟨6, [], 0⟩ 0 0 wo HH.out.sc HH.out.n_le (by omega))
    go_wp2_with fail
    refine HPUT.out.mono ?_
    rintro e w3 hp3
    unfold PutP at hp3
    by_cases hc : 4096 ≤ acc.length
    ·rw [if_pos hc] at hp3
     obtain ⟨rfl, hm3⟩ := hp3
     obtain ⟨v', h1, _, _, h4⟩ := ScMoved.facts (p := j) HH.out.own HH.out.below HH.out.rules hm3
     have HB4 := Lib.hid h4
     have k1 := h1.2.1.cell (i := 1) rfl
     clear h1 h4 hm3 c1
     go_wp2_with fail
     go_quiet (fail)
     go_wp2_with fail
     refine bodyPost_ret (v := .tuple #[.slice none 0 0, .int .i64 j, .int .i64 8]) (by simp [results, Tryz.results18, go_sem]) rfl ⟨?_, below_draws HB4.out _⟩
     rw [HRR.out, if_pos hc]; rfl
    ·rw [if_neg hc] at hp3
     obtain ⟨rfl, hm3⟩ := hp3
     obtain ⟨v', h1, _, _, h4⟩ := ScMoved.facts (p := j) HH.out.own HH.out.below HH.out.rules hm3
     have HB4 := Lib.hid h4
     have HS3 := Lib.hid h1
     have k2 := h1.2.1.cell (i := 2) rfl
     clear h1 h4 hm3 c1
     go_wp2_with fail
     refine bodyPost_ret (v := .tuple #[v', .int .i64 0, .int .i64 0]) (by simp [results, Tryz.results18, go_sem]) rfl ⟨?_, HB4.out⟩
     rw [HRR.out, if_neg hc]
     exact ⟨v', rfl, HS3.out.2.2.1⟩
end Go.Proofs.YtndhpdclpgemfaaGreat
namespace Go.Proofs.YtndhpdclpgemfaaGreat
set_option maxRecDepth 100000
open Go.RowKit
set_option linter.unusedVariables false
/-! Fuel and places. -/
theorem spanB_append (f : Nat → Bool) (a r : List UInt8) (h : ∀ c ∈ a, f c.toNat = true) : spanB f (a ++ r) = a.length + spanB f r := by
 induction a with
 | nil => simp
 | cons c a ih =>
  rw [List.cons_append, spanB_pos _ (h c (by simp)), ih (fun d hd => h d (by simp [hd]))]
  simp; omega
/-! What is written. -/
def tokW (t : Tok) : List UInt8 := tokT t.k t.t t.n
end Go.Proofs.YtndhpdclpgemfaaGreat
namespace Go.Proofs.YtndhpdclpgemfaaGreat
set_option maxRecDepth 100000
open Go.RowKit Go.Shelf
set_option linter.unusedSimpArgs false
set_option linter.unusedVariables false
theorem scanN_bad : ∀ (f : Nat) (r : List UInt8) (p : Nat) (acc : List (Tok × Nat)) (q : Nat) (x : Int), scanN f r p acc = .bad q x → q ≤ p + r.length ∧ x ≠ 0
  | 0, r, p, acc, q, x, h => by rw [scanN] at h; cases h; exact ⟨by omega, by decide⟩
  | f + 1, r, p, acc, q, x, h => by
    have hle := spanB_le blankB r
    rw [scanN] at h
    by_cases hd : r.drop (spanB blankB r) = []
    · rw [if_pos hd] at h
      split at h
      · cases h; exact ⟨by omega, by decide⟩
      · cases h
    · rw [if_neg hd] at h
      cases ho : oneL (r.drop (spanB blankB r)) with
      | bad e => rw [ho] at h; cases h; exact ⟨by omega, oneL_ne ho⟩
      | tok t n =>
        rw [ho] at h
        dsimp only at h
        have hsz := oneL_size hd ho
        split at h
        · cases h; exact ⟨by omega, by decide⟩
        · have := scanN_bad f _ _ _ q x h
          rw [List.length_drop] at hsz
          rw [List.length_drop, List.length_drop] at this
          exact ⟨by omega, this.2⟩
theorem scanL_bad {s : List UInt8} {q : Nat} {x : Int} (h : scanL s = .bad q x) : q ≤ s.length ∧ x ≠ 0 := by
 unfold scanL at h
 split at h
 ·cases h; exact ⟨by omega, by decide⟩
 ·have := scanN_bad _ _ _ _ _ _ h
  exact ⟨by omega, this.2⟩
end Go.Proofs.YtndhpdclpgemfaaGreat
namespace Go.Proofs.YtndhpdclpgemfaaGreat
set_option maxRecDepth 100000
open Go.RowKit
set_option linter.unusedVariables false
theorem nb_cons (c : UInt8) (l : List UInt8) : nb (c :: l) 0 = c.toNat := rfl
theorem byte_kinds : ∀ c : Fin 256, (letter c.val = true → digt c.val = false ∧ blankB c.val = false) ∧ (digt c.val = true → letter c.val = false ∧ blankB c.val = false) := by decide +kernel
theorem letter_not {n : Nat} (hn : n < 256) (h : letter n = true) : blankB n = false := ((byte_kinds ⟨n, hn⟩).1 h).2
theorem digt_not {n : Nat} (hn : n < 256) (h : digt n = true) : letter n = false ∧ blankB n = false := (byte_kinds ⟨n, hn⟩).2 h
def written (l : List (Tok × Nat)) : List UInt8 := l.flatMap fun x => tokW x.1 ++ [32]
end Go.Proofs.YtndhpdclpgemfaaGreat
