/- The texts Rd, Rp, Pl, Win, Walk, Rq, Tree12, Tree13, Map, Obj, Walk2, Scan, Op, Tp, Td, Rr, Tn, All, Ot of this seat, one behind the other. Conditions: each says its own. -/
import Derived.Deep.LoopGhost
import Derived.StillTailTactics
import Derived.Deep.Cut
import Derived.RangeFuncNested
import Derived.RangeFuncBound
import Derived.RangeFuncCalls
import Derived.RangeFuncLeaves
import Derived.Shelf.Abstract
import Derived.Shelf.RegionOpen
import Derived.OwnWalkIn
import Derived.TacticsInMore
import Derived.LoopNIn
import Derived.LoopIn
import Derived.Maps.OwnSet
import Derived.Maps.OwnOps
import Derived.Maps.RangeWalk
import Derived.StringKeys
import Derived.RangeFuncBox
import Derived.Test.YtjoopjmcnkiieaaM5

/- Get and Depth: going down the tree. Conditions: the tree is there and as it must be. -/
namespace Go.Proofs.Ytjoopjmcnkiieaa
open Go.RowKit Go.Lib
set_option linter.unusedSimpArgs false
set_option linter.unusedVariables false
set_option linter.unusedSectionVars false

theorem Same4.trans {a b c : World} (h : Same4 a b) (k : Same4 b c) : Same4 a c := ⟨h.1.trans k.1, h.2.1.trans k.2.1, h.2.2.1.trans k.2.2.1, h.2.2.2.trans k.2.2.2⟩
theorem Same4.drew' {a b : World} (h : Same4 a b) : Same4 a b.drew := h
theorem Same4.symm {a b : World} (h : Same4 a b) : Same4 b a := ⟨h.1.symm, h.2.1.symm, h.2.2.1.symm, h.2.2.2.symm⟩
theorem NodeAt.same {w W : World} {p : Nat} {v1 v2 v3 : Value} {K : List ByteArray} {V : List Int} {C : List Nat} (h : NodeAt w p v1 v2 v3 K V C) (hs : Same4 w W) : NodeAt W p v1 v2 v3 K V C := h.of_heap fun k _ => by rw [hs.1]
theorem mem_heap {d : Nat} : ∀ {w W : World} {t : Tr}, mem d w t → W.heap = w.heap → mem d W t := by
  induction d with
  | zero => intro w W t h e; exact ⟨h.1.of_heap fun k _ => by rw [e], h.2⟩
  | succ d ih => intro w W t h e; exact ⟨h.1.of_heap fun k _ => by rw [e], h.2.1, fun c hc => ih (h.2.2 c hc) e⟩
/-- The value of a key. -/
def getF (key : ByteArray) (l : List (ByteArray × Int)) : Option Int := (l.find? (fun e => decide (e.1 = key))).map (·.2)
section
variable {key : ByteArray} {A F B : List (ByteArray × Int)} (hA : ∀ e ∈ A, ltS e.1 key = true) (hb : ∀ e ∈ B, ltS key e.1 = true)
include hA hb
theorem getF_mid : getF key (A ++ F ++ B) = getF key F := by
  unfold getF
  have h1 : A.find? (fun e => decide (e.1 = key)) = none := List.find?_eq_none.2 (fun e he => by simpa using ltS_ne (hA e he))
  have h2 : B.find? (fun e => decide (e.1 = key)) = none := List.find?_eq_none.2 (fun e he => by simpa using (ltS_ne (hb e he)).symm)
  rw [List.find?_append, List.find?_append, h1, h2]
  simp
end
section
variable {K : List ByteArray} {V : List Int} {key : ByteArray} {r : Nat} (hs : SortedS K) (hr : r ≤ K.length) (hlo : ∀ (i : Nat) y, i < r → K[i]? = some y → ltS y key = true) (hhi : ∀ (i : Nat) y, r ≤ i → K[i]? = some y → ltS y key = false)
include hs hlo hhi hr
theorem zip_get (hV : V.length = K.length) (h : K[r]? = some key) : getF key (K.zip V) = V[r]? := by
  have h1 := zip_key (B := V.take r) (pos_lo hlo)
  obtain ⟨h4, h5⟩ := pos_at hs h
  have hl := (List.getElem?_eq_some_iff.1 h).1
  have h2 := zip_key (B := V.drop (r + 1)) h5
  have h6 : V.drop r = V[r]'(by omega) :: V.drop (r + 1) := List.drop_eq_getElem_cons (by omega)
  have h3 := getF_mid (F := [(key, V[r]'(by omega))]) h1 h2
  rw [zip_split hV r, h4, h6, List.zip_cons_cons, show ∀ (a : List (ByteArray × Int)) b c, a ++ b :: c = a ++ [b] ++ c from fun a b c => by simp, h3]
  rw [List.getElem?_eq_getElem (by omega)]
  simp [getF]
theorem zip_get_no (hV : V.length = K.length) (h : ¬ K[r]? = some key) : getF key (K.zip V) = none := by
  have h1 := zip_key (B := V.take r) (pos_lo hlo)
  have h2 := zip_key (B := V.drop r) (pos_not hs hhi h)
  have h3 := getF_mid (F := []) h1 h2
  rw [List.append_nil] at h3
  rw [zip_split hV r, h3]
  rfl
end
def GetP (g : Option Int) (w : World) (e : Ending) (w' : World) : Prop := e = .returned (.tuple #[.int .i64 (g.getD 0), .bool g.isSome]) ∧ Same4 w w'
structure GetAt (o : Nat) (key : ByteArray) (R : Option Int) (w : World) (d : Nat) (c : Tr) (wr : World) : Prop where
  m : mem d wr c
  v : ∃ a b lo hi, inv o d a b lo hi c ∧ b ≤ o ∧ inR lo hi key
  r : getF key (flat d c) = R
  s : Same4 w wr
set_option maxRecDepth 100000 in
set_option maxHeartbeats 16000000 in
theorem get_any {o tb d a b : Nat} {lo hi : Option ByteArray} {w : World} {t : Tr} {key : ByteArray} (ho2 : o ≤ 64) (hm : mem d w t) (hv : inv o d a b lo hi t) (hb : b ≤ o) (hin : inR lo hi key) (hr : w.cell? ⟨tb, 1, none⟩ = some (.pointer (some ⟨t.p, 0, none⟩))) :
    Calls Try.prog 25 #[.pointer (some ⟨tb, 0, none⟩), .string key] w (GetP (getF key (flat d t)) w) := by
  obtain ⟨R, hR⟩ : ∃ R, getF key (flat d t) = R := ⟨_, rfl⟩
  have H0 : Hid (GetAt o key R w d t w) := Lib.hid ⟨hm, ⟨a, b, lo, hi, hv, hb, hin⟩, hR, Same4.refl _⟩
  rw [hR]
  clear hm hv hb hin hR
  obtain ⟨Q, hQ⟩ : ∃ Q, GetP R w = Q := ⟨_, rfl⟩
  rw [hQ]
  have HQ := Lib.hid hQ
  clear hQ
  go_enter Try.func25, Try.ntmps25
  go_wp2_with fail
  go_loopg [6] d (fun g nv wr => ∃ c : Tr, nv = .pointer (some ⟨c.p, 0, none⟩) ∧ Hid (GetAt o key R w g c wr))
  case atStart => exact ⟨t, rfl, H0⟩
  case round =>
    clear H0 hr
    obtain ⟨c, rfl, HG⟩ := hrel
    obtain ⟨p, hp⟩ : ∃ p, c.p = p := ⟨_, rfl⟩
    have HP := Lib.hid hp
    cases gk with
    | zero =>
      obtain ⟨hm, ⟨a1, b1, lo1, hi1, ⟨hvs, hso, _, _, _, hbn⟩, hb1, _⟩, hR, hs⟩ := HG.out
      have HL := Lib.hid (leaf_any hm.1)
      obtain ⟨ka, kc, va, vc, _, _, e1, e2, _, l1, l2, _, m1, m2, _⟩ := hm.1.forms
      have hn := hm.1
      rw [e1, e2] at hn
      obtain ⟨_, _, e3, hrow⟩ := hn.str
      injection e3 with e3 e4 e5
      subst e3
      have HB := Lib.hid (bsearch_any c.ks key ka kc wr.heap.size wr hrow (by omega) hso)
      have d0 := hn.cells.1
      have d1 := hn.cells.2.1
      have HN := Lib.hid hn
      have HSO := Lib.hid hso
      have HV := Lib.hid hvs
      have HF : Hid (∀ g, getF key (c.ks.zip c.vs) = g → Q (.returned (.tuple #[.int .i64 (g.getD 0), .bool g.isSome])) wr) := Lib.hid (fun g hg => by
        rw [← HQ.out]
        have : R = g := by rw [← hR]; exact hg
        subst this
        exact ⟨rfl, hs⟩)
      rw [hvs] at d1
      rw [hp] at d0 d1 HL ⊢
      obtain ⟨n, hnn⟩ : ∃ n, c.ks.length = n := ⟨_, rfl⟩
      have HNN := Lib.hid hnn
      have hn64 : n ≤ 64 := by omega
      rw [hnn] at d0 d1 HB
      clear hm hvs hso hbn hb1 hR hs HG e1 e2 l1 l2 m1 m2 hn e4 e5 hrow hp hnn
      go_wp2_with fail
      refine HL.out.mono ?_; rintro e w' ⟨rfl, rfl⟩
      go_wp2_with fail
      refine HB.out.mono ?_; rintro e w' ⟨rfl, r, rfl, hr, hlo, hhi⟩
      by_cases hf : c.ks[r]? = some key
      · have hlt := (List.getElem?_eq_some_iff.1 hf).1
        obtain ⟨y, hy⟩ : ∃ y, c.vs[r]? = some y := get_some (by have := HV.out; omega)
        obtain ⟨g2, rfl, k2, _⟩ := HN.out.num hy
        have HFF := Lib.hid (HF.out (some y) (by rw [zip_get HSO.out hr hlo hhi HV.out hf]; exact hy))
        rw [decide_eq_true hf]
        have hrn : (r : Int) < n := by have := HNN.out; omega
        have hr0 : (0 : Int) ≤ r := by omega
        clear hf hy hlo hhi hr hlt HF
        go_wp2_with fail
        exact HFF.out
      · have HFF := Lib.hid (HF.out none (zip_get_no HSO.out hr hlo hhi HV.out hf))
        rw [decide_eq_false hf]
        clear hf hlo hhi hr HF
        go_wp2_with fail
        exact HFF.out
    | succ d =>
      obtain ⟨hm, ⟨a1, b1, lo1, hi1, hv, hb1, hin⟩, hR, hs⟩ := HG.out
      have hfr := hv.1
      have hlen := hfr.len
      have hsz := inv_len hv
      have HL := leaf_any hm.1
      rw [show (c.cs.map Tr.p).isEmpty = false from by cases hc : c.cs with | nil => rw [hc] at hlen; simp at hlen | cons _ _ => rfl] at HL
      have HL := Lib.hid HL
      have HC := Lib.hid (child_any (hm.1.same (Same4.refl wr).drew') key (inv_sorted hv) (by omega))
      obtain ⟨_, _, _, _, a3, c3, _, _, e3, _, _, l3, _, _, m3⟩ := hm.1.forms
      have hn := hm.1
      rw [e3] at hn
      obtain ⟨pk0, hk0⟩ : ∃ pk, (c.cs.map Tr.p)[0]? = some pk := get_some (by rw [List.length_map]; omega)
      obtain ⟨g3, rfl, _, _⟩ := hn.kid hk0
      have HK : Hid (∀ i, ChildP c.ks key i → ∃ c1 : Tr, i < (c.cs.map Tr.p).length ∧ wr.cell? ⟨g3, i, none⟩ = some (.pointer (some ⟨c1.p, 0, none⟩)) ∧ ∀ wr', Same4 wr wr' → Hid (GetAt o key R w d c1 wr')) := Lib.hid (fun i hcp => by
        obtain ⟨L, c1, R1, lo', hi', hL, hF⟩ := hfr.focus i hcp.1
        subst hL
        have hcs := hF.cs
        have hin' := hF.child hcp hin
        have hcm : c1 ∈ c.cs := by rw [hcs]; simp
        have hbB : ∀ lo hi c, inv o d (lst o d) o lo hi c → ltB lo hi := fun _ _ _ h => inv_ltB h
        have hgG : ∀ lo hi c, inv o d (lst o d) o lo hi c → ∀ e ∈ flat d c, inR lo hi e.1 := fun _ _ _ h => (flat_facts h).1
        have hA : ∀ e ∈ (L.map (·.1)).flatMap (flat d), ltS e.1 key = true := fun e he => by
          obtain ⟨y, rfl, hy⟩ := seg_below hbB hgG hF.l e he
          exact ltS_lt_le hy (hin'.1 y rfl)
        have hBb : ∀ e ∈ (R1.map (·.2)).flatMap (flat d), ltS key e.1 = true := fun e he => by
          obtain ⟨y, rfl, hy⟩ := rseg_above hbB hgG hF.r e he
          exact ltS_lt_le (hin'.2 y rfl) hy
        have hfl : flat (d + 1) c = (L.map (·.1)).flatMap (flat d) ++ flat d c1 ++ (R1.map (·.2)).flatMap (flat d) := by
          show c.cs.flatMap (flat d) = _
          rw [hcs]; simp
        have hki : (c.cs.map Tr.p)[L.length]? = some c1.p := by rw [List.getElem?_map, hF.kid]; rfl
        obtain ⟨_, e9, ki, _⟩ := hn.kid hki
        injection e9 with e9
        injection e9 with e9 _
        subst e9
        refine ⟨c1, (List.getElem?_eq_some_iff.1 hki).1, ki, fun wr' h4 => Lib.hid ⟨?_, ⟨_, _, _, _, hF.c, Nat.le_refl _, hin'⟩, ?_, hs.trans h4⟩⟩
        · exact mem_heap (hm.2.2 c1 hcm) h4.1.symm
        · rw [← hR, hfl, getF_mid hA hBb])
      have d2 := hn.cells.2.2.1
      obtain ⟨m, hmm⟩ : ∃ m, (c.cs.map Tr.p).length = m := ⟨_, rfl⟩
      rw [hmm] at d2 HK
      rw [hp] at d2 HL HC ⊢
      have hm64 : m ≤ 1000 := by rw [List.length_map] at hmm; omega
      clear hm hv hb1 hin hR hs HG hfr hlen hsz e3 l3 m3 hn hk0 hmm hp
      go_wp2_with fail
      refine HL.out.mono ?_; rintro e w' ⟨rfl, rfl⟩
      go_wp2_with fail
      refine wp_region_noPanic ?_
      refine wp_region_J (S := fun u : World => u.cell? ⟨p, 2, none⟩ = some (.slice (some ⟨g3, 0, none⟩) m c3) ∧ ∀ j, u.cell? ⟨g3, j, none⟩ = wr.cell? ⟨g3, j, none⟩) (fun _ => false) (by kernel_rfl) ?_
      have hHeld : (fun u : World => u.cell? ⟨p, 2, none⟩ = some (.slice (some ⟨g3, 0, none⟩) m c3) ∧ ∀ j, u.cell? ⟨g3, j, none⟩ = wr.cell? ⟨g3, j, none⟩) wr.drew := ⟨d2, fun _ => rfl⟩
      refine wpAnyJ_take0 (i := 0) (v := ?_) rfl (by kernel_rfl) (by kernel_rfl) (by kernel_rfl) (fun _ _ _ h => h) (Or.inl ⟨by rfl, ?_⟩) ?_
      rotate_left
      focus ((intro w hSw; clear hSw; go_simp); try with_reducible rfl)
      (try simp only [Act.put, List.getElem_toArray, List.getElem_cons_zero, List.getElem_cons_succ, List.setIfInBounds_toArray, List.set_cons_zero, List.set_cons_succ])
      refine wpAnyJ_take0 (i := 1) (v := ?_) rfl (by kernel_rfl) (by kernel_rfl) (by kernel_rfl) (fun _ _ _ h => h) (Or.inl ⟨by rfl, ?_⟩) ?_
      rotate_left
      focus ((intro w hSw; clear hSw; go_simp); try with_reducible rfl)
      (try simp only [Act.put, List.getElem_toArray, List.getElem_cons_zero, List.getElem_cons_succ, List.setIfInBounds_toArray, List.set_cons_zero, List.set_cons_succ])
      refine wpAnyJ_take0 (i := 2) (v := ?_) rfl (by kernel_rfl) (by kernel_rfl) (by kernel_rfl) (fun _ _ _ h => h) (Or.inl ⟨by rfl, ?_⟩) ?_
      rotate_left
      focus ((intro w hSw; clear hSw; go_simp); try with_reducible rfl)
      (try simp only [Act.put, List.getElem_toArray, List.getElem_cons_zero, List.getElem_cons_succ, List.setIfInBounds_toArray, List.set_cons_zero, List.set_cons_succ])
      refine wpAnyJ_take (i := 3) (v := ?_) rfl (by kernel_rfl) (by kernel_rfl) (by kernel_rfl) (by kernel_rfl) (fun _ _ _ h => h) (Or.inl ⟨by rfl, ?_⟩) (by assumption) ?_
      rotate_left
      focus ((intro w hSw; (try dsimp only at hSw); go_simp); try with_reducible rfl)
      (try simp only [Act.put, List.getElem_toArray, List.getElem_cons_zero, List.getElem_cons_succ, List.setIfInBounds_toArray, List.set_cons_zero, List.set_cons_succ])
      refine wpAnyJ_take0 (i := 4) (v := ?_) rfl (by kernel_rfl) (by kernel_rfl) (by kernel_rfl) (fun _ _ _ h => h) (Or.inl ⟨by rfl, ?_⟩) ?_
      rotate_left
      focus ((intro w hSw; clear hSw; go_simp); try with_reducible rfl)
      (try simp only [Act.put, List.getElem_toArray, List.getElem_cons_zero, List.getElem_cons_succ, List.setIfInBounds_toArray, List.set_cons_zero, List.set_cons_succ])
      refine wpAnyJ_take0 (i := 5) (v := ?_) rfl (by kernel_rfl) (by kernel_rfl) (by kernel_rfl) (fun _ _ _ h => h) (Or.inl ⟨by rfl, ?_⟩) ?_
      rotate_left
      focus ((intro w hSw; clear hSw; go_simp); try with_reducible rfl)
      (try simp only [Act.put, List.getElem_toArray, List.getElem_cons_zero, List.getElem_cons_succ, List.setIfInBounds_toArray, List.set_cons_zero, List.set_cons_succ])
      refine wpAnyJ_ready (rs := [6]) (by kernel_rfl) (by simp) ?_
      refine AllReadyJ.cons rfl (fun KK hKK => ?_) AllReadyJ.nil
      go_simp
      go_at_call 39
      refine HC.out.mono ?_
      rintro e u1 ⟨i, rfl, hcp, rfl⟩
      obtain ⟨c1, hil, ki, hnext⟩ := HK.out i hcp
      have HNX := Lib.hid hnext
      have hil' : (i : Int) < m := by omega
      have hi0 : (0 : Int) ≤ i := by omega
      clear hcp hnext HK
      refine hKK.out _ _ (fun _ h => h) ?_
      clear hKK KK
      (try simp only [Act.put, List.getElem_toArray, List.getElem_cons_zero, List.getElem_cons_succ, List.setIfInBounds_toArray, List.set_cons_zero, List.set_cons_succ])
      refine wpAnyJ_take0 (i := 7) (v := ?_) rfl (by kernel_rfl) (by kernel_rfl) (by kernel_rfl) (fun _ _ _ h => h) (Or.inl ⟨by rfl, ?_⟩) ?_
      rotate_left
      focus ((intro w hSw; clear hSw; go_simp); try with_reducible rfl)
      (try simp only [Act.put, List.getElem_toArray, List.getElem_cons_zero, List.getElem_cons_succ, List.setIfInBounds_toArray, List.set_cons_zero, List.set_cons_succ])
      refine wpAnyJ_take (i := 8) (v := ?_) rfl (by kernel_rfl) (by kernel_rfl) (by kernel_rfl) (by kernel_rfl) (fun _ _ _ h => h) (Or.inl ⟨by rfl, ?_⟩) (by assumption) ?_
      rotate_left
      focus ((intro w hSw; (try dsimp only at hSw); go_simp); try with_reducible rfl)
      (try simp only [Act.put, List.getElem_toArray, List.getElem_cons_zero, List.getElem_cons_succ, List.setIfInBounds_toArray, List.set_cons_zero, List.set_cons_succ])
      refine wpAnyJ_take0 (i := 9) (v := ?_) rfl (by kernel_rfl) (by kernel_rfl) (by kernel_rfl) (fun _ _ _ h => h) (Or.inl ⟨by rfl, ?_⟩) ?_
      rotate_left
      focus ((intro w hSw; clear hSw; go_simp); try with_reducible rfl)
      (try simp only [Act.put, List.getElem_toArray, List.getElem_cons_zero, List.getElem_cons_succ, List.setIfInBounds_toArray, List.set_cons_zero, List.set_cons_succ])
      refine wpAnyJ_done (by kernel_rfl) ?_ _
      refine NoPanic.normal ?_
      go_wp2_with fail
      go_roundg d
      case measure => omega
      case rel => exact ⟨c1, rfl, HNX.out _ (Same4.refl wr).drew'⟩

def DepAt (o D : Nat) (w : World) (d : Nat) (c : Tr) (wr : World) (q : Nat) : Prop := mem d wr c ∧ (∃ a b lo hi, inv o d a b lo hi c ∧ b ≤ o) ∧ q + d = D + 1 ∧ w = wr
set_option maxRecDepth 100000 in
set_option maxHeartbeats 16000000 in
theorem depth_any {o tb d a b : Nat} {lo hi : Option ByteArray} {w : World} {t : Tr} (ho2 : o ≤ 64) (hm : mem d w t) (hv : inv o d a b lo hi t) (hb : b ≤ o) (hd : d ≤ 1000000) (hr : w.cell? ⟨tb, 1, none⟩ = some (.pointer (some ⟨t.p, 0, none⟩))) :
    Calls Try.prog 24 #[.pointer (some ⟨tb, 0, none⟩)] w fun e w' => e = .returned (.int .i64 ((d : Int) + 1)) ∧ w = w' := by
  have H0 : Hid (DepAt o d w d t w 1) := Lib.hid ⟨hm, ⟨a, b, lo, hi, hv, hb⟩, by omega, rfl⟩
  clear hm hv hb
  obtain ⟨Q, hQ⟩ : ∃ Q, (fun (e : Ending) (w' : World) => e = .returned (.int .i64 ((d : Int) + 1)) ∧ w = w') = Q := ⟨_, rfl⟩
  have HQ : Hid (Q (.returned (.int .i64 ((d : Int) + 1))) w) := Lib.hid (by rw [← hQ]; exact ⟨rfl, rfl⟩)
  rw [hQ]
  clear hQ
  go_enter Try.func24, Try.ntmps24
  go_wp2_with fail
  go_loopg [3, 4] d (fun g dv nv wr => ∃ (c : Tr) (q : Nat), dv = .int .i64 q ∧ nv = .pointer (some ⟨c.p, 0, none⟩) ∧ Hid (DepAt o d w g c wr q))
  case atStart => exact ⟨t, 1, rfl, rfl, H0⟩
  case round =>
    clear H0 hr
    obtain ⟨c, q, rfl, rfl, HG⟩ := hrel
    obtain ⟨p, hp⟩ : ∃ p, c.p = p := ⟨_, rfl⟩
    have HP := Lib.hid hp
    cases gk with
    | zero =>
      obtain ⟨hm, _, hq, hw⟩ := HG.out
      have HL := Lib.hid (leaf_any hm.1)
      have HQQ : Hid (Q (.returned (.int .i64 q)) wr) := Lib.hid (by rw [show (q : Int) = (d : Int) + 1 from by omega, ← hw]; exact HQ.out)
      rw [hp] at HL ⊢
      clear hm hq hw HG hp HQ
      go_wp2_with fail
      refine HL.out.mono ?_; rintro e w' ⟨rfl, rfl⟩
      go_wp2_with fail
      exact HQQ.out
    | succ g =>
      obtain ⟨hm, ⟨a1, b1, lo1, hi1, hv, hb1⟩, hq, hw⟩ := HG.out
      have hlen := hv.1.len
      have HL := leaf_any hm.1
      rw [show (c.cs.map Tr.p).isEmpty = false from by cases hc : c.cs with | nil => rw [hc] at hlen; simp at hlen | cons _ _ => rfl] at HL
      have HL := Lib.hid HL
      obtain ⟨L, c1, R1, lo', hi', hL, hF⟩ := hv.1.focus 0 (Nat.zero_le _)
      have hcm : c1 ∈ c.cs := by rw [hF.cs]; simp
      have HN : Hid (DepAt o d w g c1 wr (q + 1)) := Lib.hid ⟨hm.2.2 c1 hcm, ⟨_, _, _, _, hF.c, Nat.le_refl _⟩, by omega, hw⟩
      have hki : (c.cs.map Tr.p)[0]? = some c1.p := by rw [← hL, List.getElem?_map, hF.kid]; rfl
      obtain ⟨_, _, _, _, a3, c3, _, _, e3, _, _, l3, _, _, m3⟩ := hm.1.forms
      have hn := hm.1
      rw [e3] at hn
      obtain ⟨g3, rfl, ki, _⟩ := hn.kid hki
      have d2 := hn.cells.2.2.1
      have hm0 : 0 < (c.cs.map Tr.p).length := (List.getElem?_eq_some_iff.1 hki).1
      generalize (c.cs.map Tr.p).length = m at *
      have hm0' : (0 : Int) < m := by omega
      have hq2 : q ≤ 1000001 := by omega
      rw [hp] at HL d2 ⊢
      clear hm hv hb1 hq hw HG hlen hF hcm hki e3 l3 m3 hn hp hL
      go_wp2_with fail
      refine HL.out.mono ?_; rintro e w' ⟨rfl, rfl⟩
      go_wp2_with fail
      go_roundg g
      case measure => omega
      case rel => exact ⟨c1, q + 1, by go_num, rfl, HN⟩
end Go.Proofs.Ytjoopjmcnkiieaa

/- The reference's Put. Conditions: its rows are there, the keys rise. -/
namespace Go.Proofs.Ytjoopjmcnkiieaa
open Go.RowKit Go.Lib
set_option linter.unusedSimpArgs false
set_option linter.unusedVariables false

def RPutP (xb : Nat) (G : Nat → Nat) (l : List (ByteArray × Int)) (Hh : List ByteArray) (key : ByteArray) (x : Int) (w : World) (e : Ending) (w' : World) : Prop :=
  e = .returned (.bool (hasF key l)) ∧ ∃ G', Fr G G' w w' ∧ IsRef w' xb G' (insF key x l) (Hh ++ [key])
set_option maxRecDepth 100000 in
set_option maxHeartbeats 16000000 in
theorem rput_any {xb : Nat} {G : Nat → Nat} {l : List (ByteArray × Int)} {Hh : List ByteArray} {key : ByteArray} {x : Int} {w : World} (h : IsRef w xb G l Hh) (hp : l.Pairwise ltP) (hl : l.length ≤ 1000000) (hH : Hh.length ≤ 1000000) :
    Calls Try.prog 33 #[.pointer (some ⟨xb, 0, none⟩), .string key, .int .i64 x] w (RPutP xb G l Hh key x w) := by
  obtain ⟨v1, v2, v3, hr, rfl, h1⟩ := h
  obtain ⟨Q, hQ⟩ : ∃ Q, RPutP xb (ow xb v1 v2 v3) l Hh key x w = Q := ⟨_, rfl⟩
  have HQ := Lib.hid hQ
  rw [hQ]
  have hSO : SortedS (l.map (·.1)) := (sorted_iff _).2 (List.pairwise_map.2 hp)
  obtain ⟨K, hK⟩ : ∃ K, l.map (·.1) = K := ⟨_, rfl⟩
  obtain ⟨V, hV⟩ : ∃ V, l.map (·.2) = V := ⟨_, rfl⟩
  have hlz : l = K.zip V := by rw [← hK, ← hV, zip_maps]
  have hVK : V.length = K.length := by rw [← hK, ← hV]; simp
  rw [hK] at hSO
  rw [hK, hV] at hr
  obtain ⟨n, hn⟩ : ∃ n, K.length = n := ⟨_, rfl⟩
  have hn6 : n ≤ 1000000 := by rw [← hn, ← hK]; simpa using hl
  have HST0 := Rs.start hr h1
  obtain ⟨F0, hF0⟩ : ∃ F0, ow xb v1 v2 v3 = F0 := ⟨_, rfl⟩
  rw [hF0] at HST0
  have HF0 := Lib.hid hF0
  -- how it ends
  have HEY : Hid (∀ (r : Nat) (u : World) v1' v2' v3', r ≤ K.length → (∀ (i : Nat) y, i < r → K[i]? = some y → ltS y key = true) → (∀ (i : Nat) y, r ≤ i → K[i]? = some y → ltS y key = false) → K[r]? = some key →
      Rs w F0 u xb v1' v2' v3' v1' v2' v3' K (V.set r x) (Hh ++ [key]) [] → Q (.returned (.bool true)) u) := Lib.hid (by
    intro r u v1' v2' v3' hr hlo hhi hk hst
    rw [← HQ.out]
    refine ⟨by rw [hlz, zip_has hSO hr hlo hhi hVK, decide_eq_true hk], _, ?_, v1', v2', v3', ?_, rfl, hst.fr.one⟩
    · rw [HF0.out]; exact hst.fr
    · rw [hlz, zip_set hSO hr hlo hhi hVK hk, zip_fst (by rw [List.length_set]; exact hVK), zip_snd (by rw [List.length_set]; exact hVK)]
      exact hst.end)
  have HEN : Hid (∀ (r : Nat) (u : World) v1' v2' v3', r ≤ K.length → (∀ (i : Nat) y, i < r → K[i]? = some y → ltS y key = true) → (∀ (i : Nat) y, r ≤ i → K[i]? = some y → ltS y key = false) → ¬ K[r]? = some key →
      Rs w F0 u xb v1' v2' v3' v1' v2' v3' (insAt K r key) (insAt V r x) (Hh ++ [key]) [] → Q (.returned (.bool false)) u) := Lib.hid (by
    intro r u v1' v2' v3' hr hlo hhi hk hst
    rw [← HQ.out]
    refine ⟨by rw [hlz, zip_has hSO hr hlo hhi hVK, decide_eq_false hk], _, ?_, v1', v2', v3', ?_, rfl, hst.fr.one⟩
    · rw [HF0.out]; exact hst.fr
    · have hlen : (insAt V r x).length = (insAt K r key).length := by rw [insAt_len _ hr, insAt_len _ (by omega), hVK]
      rw [hlz, zip_ins hSO hr hlo hhi hVK hk, zip_fst hlen, zip_snd hlen]
      exact hst.end)
  have HSO := Lib.hid hSO
  have HVK := Lib.hid hVK
  have HN := Lib.hid hn
  have HHL := Lib.hid hH
  obtain ⟨a1, k1, a2, k2, a3, k3, rfl, rfl, rfl, l1, l2, l3, m1, m2, m3⟩ := HST0.forms
  rw [hVK] at HST0 l2
  rw [hn] at HST0 l1 l2
  obtain ⟨hc, hhc⟩ : ∃ hc, Hh.length = hc := ⟨_, rfl⟩
  rw [hhc] at HST0 l3
  have HHC := Lib.hid hhc
  obtain ⟨iS, siS, szS, s1S, s2S⟩ := info_parts Try.infoS
  obtain ⟨iI, siI, szI, s1I, s2I⟩ := info_parts Try.infoI
  have d0 := HST0.cell
  have HS1 := HST0.alloc (.string key) 9
  have hx1 := HS1.ex _ (List.mem_cons_self)
  clear hr h1 hQ hSO hK hV hlz hVK hn hF0 hp hl hH hhc HST0 l1 l2 l3 m1 m2 m3
  go_enter Try.func33, Try.ntmps33
  go_wp2_with (at_builtin; refine wpList_append_arr rfl _ _ 27 rfl Try.underlying27 siS szS s1S s2S rfl (by decide) _ _ _ (Hh.map Value.string) rfl HS1.r3 (str_one _) (some ⟨w.heap.size, 0, none⟩) 1 1 _ [.string key] rfl rfl (by simp [Value.oneCell']) (fun h => by cases h) (one_cell' hx1.1) (by have := HHC.out; have := HHL.out; simp; omega) ?_; intro a' c' u1 g1 g2 g3; have HS2 := HS1.app3 g1 g2 g3; clear g1 g2 g3 hx1 d0; have d0 := HS2.cell)
  have HS3 := HS2.put2 (.slice a' (hc + 1) c')
  clear HS1 HS2 d0
  generalize u1.setCell ⟨xb, 2, none⟩ (.slice a' (hc + 1) c') = u2 at *
  have d0 := HS3.cell
  have HS4 : Hid (Rs w F0 u2 xb (.slice a1 n k1) (.slice a2 n k2) (.slice a' (hc + 1) c') (.slice a1 n k1) (.slice a2 n k2) (.slice a' (hc + 1) c') K V (Hh ++ [key]) []) := Lib.hid ⟨HS3.blk, HS3.r1, HS3.r2, HS3.r3, HS3.fr, fun e he => by cases he⟩
  clear HS3
  go_wp2_with fail
  go_loop [7] (fun iv => ∃ j : Nat, iv = .int .i64 j ∧ j ≤ n ∧ Hid (∀ (i : Nat) y, i < j → K[i]? = some y → ltS y key = true)) (fun iv => n - (intOf iv).toNat)
  case atStart => exact ⟨0, rfl, Nat.zero_le _, Lib.hid (fun i y h => absurd h (Nat.not_lt_zero _))⟩
  case round =>
    obtain ⟨j, rfl, hj, HLO⟩ := hrel
    have hj0 : (0 : Int) ≤ j := by omega
    by_cases hjn : j < n
    · have hjn' : (j : Int) < n := by omega
      obtain ⟨y, hy⟩ : ∃ y, K[j]? = some y := get_some (by have := HN.out; omega)
      obtain ⟨g1, rfl, kc, kf⟩ := HS4.out.key hy
      have HY := Lib.hid hy
      have hj1 : IntKind.i64.wrap ((j : Int) + 1) = (j : Int) + 1 := IntWalk.i64_in _ (by omega)
      cases hlt : ltS y key with
      | true =>
        have HL1 : Hid (∀ (i : Nat) z, i < j + 1 → K[i]? = some z → ltS z key = true) := Lib.hid (fun i z hi hz => by
          rcases Nat.lt_or_ge i j with h | h
          · exact HLO.out i z h hz
          · obtain rfl : i = j := by omega
            rw [HY.out] at hz; injection hz with hz; subst hz; exact hlt)
        unfold ltS at hlt
        clear hy
        go_wp2_with fail
        go_round
        case rel => exact ⟨j + 1, by go_num, by omega, HL1⟩
        case measure => simp [intOf]; omega
      | false =>
        have HHI : Hid (∀ (i : Nat) z, j ≤ i → K[i]? = some z → ltS z key = false) := Lib.hid (fun i z hi hz => by
          rcases Nat.eq_or_lt_of_le hi with rfl | h
          · rw [HY.out] at hz; injection hz with hz; subst hz; exact hlt
          · have h2 := HSO.out j i y z h HY.out hz
            cases h3 : ltS z key with
            | false => rfl
            | true => have := ltS_trans h2 h3; rw [this] at hlt; cases hlt)
        have hbe := ba_beq y key
        by_cases hyk : y = key
        · have h4 : (y.toList == key.toList) = true := by rw [hbe]; simpa using hyk
          obtain ⟨z, hz⟩ : ∃ z, V[j]? = some z := get_some (by have := HN.out; have := HVK.out; omega)
          obtain ⟨g2, rfl, vc, vf⟩ := HS4.out.num hz
          have HE := Lib.hid (HEY.out j _ _ _ _ (by have := HN.out; omega) HLO.out HHI.out (by rw [HY.out, hyk]) (HS4.out.set2 j x))
          unfold ltS at hlt
          clear hbe hyk hy hz HS4
          go_wp2_with fail
          exact HE.out
        · have h4 : (y.toList == key.toList) = false := by rw [hbe]; simpa using hyk
          have HNK : Hid (¬ K[j]? = some key) := Lib.hid (by rw [HY.out]; intro e; injection e with e; exact hyk e)
          unfold ltS at hlt
          clear hbe hyk hy
          have T1 := HS4.out.alloc (.string key) 9
          have hx := T1.ex _ (List.mem_cons_self)
          go_upto_region 9 with (at_builtin; refine wpList_append_arr rfl _ _ 27 rfl Try.underlying27 siS szS s1S s2S rfl (by decide) _ _ _ (K.map Value.string) rfl T1.r1 (str_one _) (some ⟨u2.heap.size, 0, none⟩) 1 1 _ [.string key] rfl rfl (by simp [Value.oneCell']) (fun h => by cases h) (one_cell' hx.1) (by have := HN.out; simp; omega) ?_; intro b1 e1 u3 g1 g2 g3; have T2 := T1.app1 g1 g2 g3; clear g1 g2 g3 hx d0 T1; have d0 := T2.cell)
          have T3 := T2.put0 (.slice b1 (n + 1) e1)
          clear T2 d0 HS4
          generalize u3.setCell ⟨xb, 0, none⟩ (.slice b1 (n + 1) e1) = u5 at *
          have d0 := T3.cell
          have T4 := T3.alloc (.int .i64 x) 2
          have hx := T4.ex _ (List.mem_cons_self)
          clear T3
          go_upto_region 10 with (at_builtin; refine wpList_append_arr rfl _ _ 28 rfl Try.underlying28 siI szI s1I s2I rfl (by decide) _ _ _ (V.map numV) rfl T4.r2 (num_one _) (some ⟨u5.heap.size, 0, none⟩) 1 1 _ [.int .i64 x] rfl rfl (by simp [Value.oneCell']) (fun h => by cases h) (one_cell' hx.1) (by have := HN.out; have := HVK.out; simp; omega) ?_; intro b2 e2 u4 g1 g2 g3; have T5 := T4.app2 g1 g2 g3; clear g1 g2 g3 hx d0 T4; have d0 := T5.cell)
          have T6 := T5.put1 (.slice b2 (n + 1) e2)
          clear T5 d0
          generalize u4.setCell ⟨xb, 1, none⟩ (.slice b2 (n + 1) e2) = u6 at *
          have HT6 : Hid (Rs w F0 u6 xb (.slice b1 (n + 1) e1) (.slice b2 (n + 1) e2) (.slice a' (hc + 1) c') (.slice b1 (n + 1) e1) (.slice b2 (n + 1) e2) (.slice a' (hc + 1) c') (shiftL K key n) (shiftL V x n) (Hh ++ [key]) []) := Lib.hid (by
            have e1 := shiftL_full (K := K) (x := key)
            have e2 := shiftL_full (K := V) (x := x)
            rw [HN.out] at e1
            rw [HVK.out, HN.out] at e2
            rw [e1, e2]
            exact ⟨T6.blk, T6.r1, T6.r2, T6.r3, T6.fr, fun e he => by cases he⟩)
          have d0 := T6.cell
          clear T6
          have hwl : IntKind.i64.wrap ((n : Int) + 1 - 1) = (n : Int) := by rw [IntWalk.i64_in _ (by omega)]; omega
          have hwl2 : ((n : Int) + 1 - 1) = (n : Int) := by omega
          go_wp2_with fail
          clear hwl hwl2
          go_loopw [8] (fun iv wr => ∃ i : Nat, iv = .int .i64 i ∧ j ≤ i ∧ i ≤ n ∧ Hid (Rs w F0 wr xb (.slice b1 (n + 1) e1) (.slice b2 (n + 1) e2) (.slice a' (hc + 1) c') (.slice b1 (n + 1) e1) (.slice b2 (n + 1) e2) (.slice a' (hc + 1) c') (shiftL K key i) (shiftL V x i) (Hh ++ [key]) [])) (fun iv _ => (intOf iv).toNat)
          case atStart => exact ⟨n, rfl, by omega, Nat.le_refl _, HT6⟩
          case round =>
            clear HT6 d0
            obtain ⟨i, rfl, hji, hin, HT⟩ := hrel
            have d0 := HT.out.cell
            obtain ⟨y0, hy0⟩ : ∃ y, (shiftL K key i)[i]? = some y := get_some (by rw [shiftL_len (by have := HN.out; omega)]; have := HN.out; omega)
            obtain ⟨z0, hz0⟩ : ∃ y, (shiftL V x i)[i]? = some y := get_some (by rw [shiftL_len (by have := HN.out; have := HVK.out; omega)]; have := HN.out; have := HVK.out; omega)
            obtain ⟨gb, rfl, kc0, kf0⟩ := HT.out.key hy0
            obtain ⟨gv, rfl, vc0, vf0⟩ := HT.out.num hz0
            have hi0 : (0 : Int) ≤ i := by omega
            have hin' : (i : Int) < (n : Int) + 1 := by omega
            by_cases hgt : j < i
            · have hgt' : (j : Int) < i := by omega
              obtain ⟨q, hq⟩ : ∃ q, i = q + 1 := ⟨i - 1, by omega⟩
              have HQ1 := Lib.hid hq
              have HSH1 := Lib.hid (shiftL_get (K := K) (x := key) (show q < i from by omega) (by have := HN.out; omega))
              have HSH2 := Lib.hid (shiftL_get (K := V) (x := x) (show q < i from by omega) (by have := HN.out; have := HVK.out; omega))
              have hq0 : (0 : Int) ≤ q := by omega
              have hqn : (q : Int) < (n : Int) + 1 := by omega
              have hwm : IntKind.i64.wrap ((i : Int) - 1) = (q : Int) := by rw [IntWalk.i64_in _ (by omega)]; omega
              obtain ⟨y1, hy1⟩ : ∃ y, K[q]? = some y := get_some (by have := HN.out; omega)
              obtain ⟨z1, hz1⟩ : ∃ y, V[q]? = some y := get_some (by have := HN.out; have := HVK.out; omega)
              obtain ⟨_, e9, kc1, _⟩ := HT.out.key (i := q) (by rw [HSH1.out]; exact hy1)
              injection e9 with e9
              injection e9 with e9 _
              subst e9
              obtain ⟨_, e9, vc1, _⟩ := HT.out.num (i := q) (by rw [HSH2.out]; exact hz1)
              injection e9 with e9
              injection e9 with e9 _
              subst e9
              clear d0 kc0 kf0 vc0 vf0 kc1 vc1 hq
              have d0 := HT.out.cell
              go_wp2_with fail
              refine wp_still_tail' 14 (by kernel_rfl) (by kernel_rfl) ?_
              rintro w2 hst2
              have T2 := HT.out.still hst2
              clear hst2 d0
              have d0 := T2.cell
              obtain ⟨_, e9, kc0, kf0⟩ := T2.key hy0
              injection e9 with e9
              injection e9 with e9 _
              subst e9
              obtain ⟨_, e9, kc1, _⟩ := T2.key (i := q) (by rw [HSH1.out]; exact hy1)
              injection e9 with e9
              injection e9 with e9 _
              subst e9
              have T3 := T2.set1 i y1
              have HT3 : Hid (Rs w F0 (w2.setCell ⟨gb, i, none⟩ (.string y1)) xb (.slice (some ⟨gb, 0, none⟩) (n + 1) e1) (.slice (some ⟨gv, 0, none⟩) (n + 1) e2) (.slice a' (hc + 1) c') (.slice (some ⟨gb, 0, none⟩) (n + 1) e1) (.slice (some ⟨gv, 0, none⟩) (n + 1) e2) (.slice a' (hc + 1) c') (shiftL K key q) (shiftL V x i) (Hh ++ [key]) []) := Lib.hid (by rw [HQ1.out, shiftL_step (by have := HQ1.out; have := HN.out; omega) hy1] at T3; rw [HQ1.out]; exact T3)
              have HY0 := Lib.hid hy0
              have HY1 := Lib.hid hy1
              have HZ0 := Lib.hid hz0
              have HZ1 := Lib.hid hz1
              clear T2 T3 hy0 hy1 hz0 hz1 HT
              simp only [List.take_succ_cons, List.take_zero, List.drop_succ_cons, List.drop_zero]
              repeat still_step
              refine wpStill_nil ?_
              go_wp2_with fail
              clear d0 kc0 kf0 kc1
              generalize w2.setCell ⟨gb, i, none⟩ (.string y1) = w4 at *
              refine wp_still_tail' 14 (by kernel_rfl) (by kernel_rfl) ?_
              rintro w3 hst2
              have T2 := HT3.out.still hst2
              clear hst2
              have d0 := T2.cell
              obtain ⟨_, e9, kc0, kf0⟩ := T2.num HZ0.out
              injection e9 with e9
              injection e9 with e9 _
              subst e9
              obtain ⟨_, e9, kc1, _⟩ := T2.num (i := q) (by rw [HSH2.out]; exact HZ1.out)
              injection e9 with e9
              injection e9 with e9 _
              subst e9
              have T3 := T2.set2 i z1
              have HT4 : Hid (Rs w F0 (w3.setCell ⟨gv, i, none⟩ (.int .i64 z1)) xb (.slice (some ⟨gb, 0, none⟩) (n + 1) e1) (.slice (some ⟨gv, 0, none⟩) (n + 1) e2) (.slice a' (hc + 1) c') (.slice (some ⟨gb, 0, none⟩) (n + 1) e1) (.slice (some ⟨gv, 0, none⟩) (n + 1) e2) (.slice a' (hc + 1) c') (shiftL K key q) (shiftL V x q) (Hh ++ [key]) []) := Lib.hid (by rw [HQ1.out, shiftL_step (by have := HQ1.out; have := HN.out; have := HVK.out; omega) HZ1.out] at T3; rw [HQ1.out]; exact T3)
              clear T2 T3 HT3
              simp only [List.take_succ_cons, List.take_zero, List.drop_succ_cons, List.drop_zero]
              repeat still_step
              refine wpStill_nil ?_
              go_wp2_with fail
              go_roundw
              case rel => exact ⟨q, by go_num, by have := HQ1.out; omega, by have := HQ1.out; omega, HT4⟩
              case measure => have := HQ1.out; simp [intOf]; omega
            · have hgt' : ¬ (j : Int) < i := by omega
              obtain rfl : j = i := by omega
              have HE := Lib.hid (HEN.out j _ _ _ _ (by have := HN.out; omega) HLO.out HHI.out HNK.out (by have h := (HT.out.set1 j key).set2 j x; rw [shiftL_end (by have := HN.out; omega), shiftL_end (by have := HN.out; have := HVK.out; omega)] at h; exact h))
              have d1 := (HT.out.set1 j key).cell
              obtain ⟨z9, hz9⟩ : ∃ y, (shiftL V x j)[j]? = some y := get_some (by rw [shiftL_len (by have := HN.out; have := HVK.out; omega)]; have := HN.out; have := HVK.out; omega)
              obtain ⟨_, e9, vc3, vf3⟩ := (HT.out.set1 j key).num hz9
              injection e9 with e9
              injection e9 with e9 _
              subst e9
              clear HT hz9 hy0 hz0
              go_wp2_with fail
              exact HE.out
    · have hjn' : ¬ (j : Int) < n := by omega
      have hje : j = n := by omega
      have HHI : Hid (∀ (i : Nat) z, j ≤ i → K[i]? = some z → ltS z key = false) := Lib.hid (fun i z hi hz => by have := (List.getElem?_eq_some_iff.1 hz).1; have := HN.out; omega)
      have HNK : Hid (¬ K[j]? = some key) := Lib.hid (by rw [List.getElem?_eq_none (by have := HN.out; omega)]; simp)
      clear hje
      have T1 := HS4.out.alloc (.string key) 9
      have hx := T1.ex _ (List.mem_cons_self)
      go_upto_region 9 with (at_builtin; refine wpList_append_arr rfl _ _ 27 rfl Try.underlying27 siS szS s1S s2S rfl (by decide) _ _ _ (K.map Value.string) rfl T1.r1 (str_one _) (some ⟨u2.heap.size, 0, none⟩) 1 1 _ [.string key] rfl rfl (by simp [Value.oneCell']) (fun h => by cases h) (one_cell' hx.1) (by have := HN.out; simp; omega) ?_; intro b1 e1 u3 g1 g2 g3; have T2 := T1.app1 g1 g2 g3; clear g1 g2 g3 hx d0 T1; have d0 := T2.cell)
      have T3 := T2.put0 (.slice b1 (n + 1) e1)
      clear T2 d0 HS4
      generalize u3.setCell ⟨xb, 0, none⟩ (.slice b1 (n + 1) e1) = u5 at *
      have d0 := T3.cell
      have T4 := T3.alloc (.int .i64 x) 2
      have hx := T4.ex _ (List.mem_cons_self)
      clear T3
      go_upto_region 10 with (at_builtin; refine wpList_append_arr rfl _ _ 28 rfl Try.underlying28 siI szI s1I s2I rfl (by decide) _ _ _ (V.map numV) rfl T4.r2 (num_one _) (some ⟨u5.heap.size, 0, none⟩) 1 1 _ [.int .i64 x] rfl rfl (by simp [Value.oneCell']) (fun h => by cases h) (one_cell' hx.1) (by have := HN.out; have := HVK.out; simp; omega) ?_; intro b2 e2 u4 g1 g2 g3; have T5 := T4.app2 g1 g2 g3; clear g1 g2 g3 hx d0 T4; have d0 := T5.cell)
      have T6 := T5.put1 (.slice b2 (n + 1) e2)
      clear T5 d0
      generalize u4.setCell ⟨xb, 1, none⟩ (.slice b2 (n + 1) e2) = u6 at *
      have HT6 : Hid (Rs w F0 u6 xb (.slice b1 (n + 1) e1) (.slice b2 (n + 1) e2) (.slice a' (hc + 1) c') (.slice b1 (n + 1) e1) (.slice b2 (n + 1) e2) (.slice a' (hc + 1) c') (shiftL K key n) (shiftL V x n) (Hh ++ [key]) []) := Lib.hid (by
        have e1 := shiftL_full (K := K) (x := key)
        have e2 := shiftL_full (K := V) (x := x)
        rw [HN.out] at e1
        rw [HVK.out, HN.out] at e2
        rw [e1, e2]
        exact ⟨T6.blk, T6.r1, T6.r2, T6.r3, T6.fr, fun e he => by cases he⟩)
      have d0 := T6.cell
      clear T6
      have hwl : IntKind.i64.wrap ((n : Int) + 1 - 1) = (n : Int) := by rw [IntWalk.i64_in _ (by omega)]; omega
      have hwl2 : ((n : Int) + 1 - 1) = (n : Int) := by omega
      go_wp2_with fail
      clear hwl hwl2
      go_loopw [8] (fun iv wr => ∃ i : Nat, iv = .int .i64 i ∧ j ≤ i ∧ i ≤ n ∧ Hid (Rs w F0 wr xb (.slice b1 (n + 1) e1) (.slice b2 (n + 1) e2) (.slice a' (hc + 1) c') (.slice b1 (n + 1) e1) (.slice b2 (n + 1) e2) (.slice a' (hc + 1) c') (shiftL K key i) (shiftL V x i) (Hh ++ [key]) [])) (fun iv _ => (intOf iv).toNat)
      case atStart => exact ⟨n, rfl, by omega, Nat.le_refl _, HT6⟩
      case round =>
        clear HT6 d0
        obtain ⟨i, rfl, hji, hin, HT⟩ := hrel
        have d0 := HT.out.cell
        obtain ⟨y0, hy0⟩ : ∃ y, (shiftL K key i)[i]? = some y := get_some (by rw [shiftL_len (by have := HN.out; omega)]; have := HN.out; omega)
        obtain ⟨z0, hz0⟩ : ∃ y, (shiftL V x i)[i]? = some y := get_some (by rw [shiftL_len (by have := HN.out; have := HVK.out; omega)]; have := HN.out; have := HVK.out; omega)
        obtain ⟨gb, rfl, kc0, kf0⟩ := HT.out.key hy0
        obtain ⟨gv, rfl, vc0, vf0⟩ := HT.out.num hz0
        have hi0 : (0 : Int) ≤ i := by omega
        have hin' : (i : Int) < (n : Int) + 1 := by omega
        by_cases hgt : j < i
        · exact absurd hgt (by omega)
        · have hgt' : ¬ (j : Int) < i := by omega
          obtain rfl : j = i := by omega
          have HE := Lib.hid (HEN.out j _ _ _ _ (by have := HN.out; omega) HLO.out HHI.out HNK.out (by have h := (HT.out.set1 j key).set2 j x; rw [shiftL_end (by have := HN.out; omega), shiftL_end (by have := HN.out; have := HVK.out; omega)] at h; exact h))
          have d1 := (HT.out.set1 j key).cell
          obtain ⟨z9, hz9⟩ : ∃ y, (shiftL V x j)[j]? = some y := get_some (by rw [shiftL_len (by have := HN.out; have := HVK.out; omega)]; have := HN.out; have := HVK.out; omega)
          obtain ⟨_, e9, vc3, vf3⟩ := (HT.out.set1 j key).num hz9
          injection e9 with e9
          injection e9 with e9 _
          subst e9
          clear HT hz9 hy0 hz0
          go_wp2_with fail
          exact HE.out
end Go.Proofs.Ytjoopjmcnkiieaa

/- Plain laws of puts and deletes on lists of pairs. Conditions: none. -/
namespace Go.Proofs.Ytjoopjmcnkiieaa
open Go.RowKit Go.Lib
set_option linter.unusedSimpArgs false
set_option linter.unusedVariables false

theorem hasF_cons (key : ByteArray) (e : ByteArray × Int) (l : List (ByteArray × Int)) : hasF key (e :: l) = (decide (e.1 = key) || hasF key l) := by simp [hasF]
theorem hasF_above {key : ByteArray} {l : List (ByteArray × Int)} (h : ∀ e ∈ l, ltS key e.1 = true) : hasF key l = false := List.any_eq_false.2 (fun e he => by simpa using (ltS_ne (h e he)).symm)
/-- Where a key stands in a rising list. -/
theorem pairs_split {l : List (ByteArray × Int)} (h : l.Pairwise ltP) (key : ByteArray) : ∃ A M B, l = A ++ M ++ B ∧ (∀ e ∈ A, ltS e.1 key = true) ∧ (∀ e ∈ B, ltS key e.1 = true) ∧ (M = [] ∨ ∃ v, M = [(key, v)]) := by
  induction l with
  | nil => exact ⟨[], [], [], rfl, by simp, by simp, .inl rfl⟩
  | cons e r ih =>
    rw [List.pairwise_cons] at h
    obtain ⟨h1, h2⟩ := h
    rcases ltS_tri e.1 key with h3 | h3 | h3
    · obtain ⟨A, M, B, rfl, hA, hB, hM⟩ := ih h2
      exact ⟨e :: A, M, B, rfl, fun y hy => by rcases List.mem_cons.1 hy with rfl | hy; exact h3; exact hA y hy, hB, hM⟩
    · obtain ⟨k, v⟩ := e
      simp only at h3
      subst h3
      exact ⟨[], [(k, v)], r, rfl, by simp, h1, .inr ⟨v, rfl⟩⟩
    · exact ⟨[], [], e :: r, rfl, by simp, fun y hy => by rcases List.mem_cons.1 hy with rfl | hy; exact h3; exact ltS_trans h3 (h1 y hy), .inl rfl⟩
theorem insF_length (key : ByteArray) (x : Int) {l : List (ByteArray × Int)} (h : l.Pairwise ltP) : (insF key x l).length = if hasF key l then l.length else l.length + 1 := by
  obtain ⟨A, M, B, rfl, hA, hB, hM⟩ := pairs_split h key
  rw [insF_mid hA hB, hasF_mid hA hB]
  rcases hM with rfl | ⟨v, rfl⟩
  · simp [insF, hasF]; omega
  · simp [insF, hasF, ltS_irrefl]
theorem delF_length (key : ByteArray) {l : List (ByteArray × Int)} (h : l.Pairwise ltP) : (delF key l).length = if hasF key l then l.length - 1 else l.length := by
  obtain ⟨A, M, B, rfl, hA, hB, hM⟩ := pairs_split h key
  rw [delF_mid hA hB, hasF_mid hA hB]
  rcases hM with rfl | ⟨v, rfl⟩
  · simp [delF, hasF]
  · simp [delF, hasF]
theorem delF_none {key : ByteArray} {l : List (ByteArray × Int)} (h : hasF key l = false) : delF key l = l := by
  unfold delF
  refine filter_all fun e he => ?_
  have := List.any_eq_false.1 h e he
  simpa using this
end Go.Proofs.Ytjoopjmcnkiieaa

/- Does a key lie in a range? Both texts. Conditions: none. -/
namespace Go.Proofs.Ytjoopjmcnkiieaa
open Go.RowKit Go.Lib
set_option linter.unusedSimpArgs false
set_option linter.unusedVariables false

def withinS (k a b : ByteArray) : Bool := !ltS k a && (b.toList.isEmpty || ltS k b)
set_option maxHeartbeats 1000000 in
theorem within_any (k a b : ByteArray) (w : World) : Calls Try.prog 36 #[.string k, .string a, .string b] w fun e w' => e = .returned (.bool (withinS k a b)) ∧ w = w' := by
  unfold withinS ltS
  cases h1 : Op.bytesLess k.toList a.toList with
  | true =>
    go_enter Try.func36, Try.ntmps36
    go_wp2_with fail
    go_ret
    exact ⟨rfl, rfl⟩
  | false =>
    cases h2 : b.toList.isEmpty with
    | true =>
      have h3 : b.toList = [] := by simpa using h2
      go_enter Try.func36, Try.ntmps36
      go_wp2_with fail
      go_ret
      exact ⟨rfl, rfl⟩
    | false =>
      have h3 : ¬ b.toList = [] := by simpa using h2
      cases h4 : Op.bytesLess k.toList b.toList <;>
      (go_enter Try.func36, Try.ntmps36
       go_wp2_with fail
       go_ret
       exact ⟨rfl, rfl⟩)
set_option maxHeartbeats 1000000 in
theorem rwithin_any (k a b : ByteArray) (w : World) : Calls Try.prog 27 #[.string k, .string a, .string b] w fun e w' => e = .returned (.bool (withinS k a b)) ∧ w = w' := by
  unfold withinS ltS
  cases h1 : Op.bytesLess k.toList a.toList with
  | true =>
    go_enter Try.func27, Try.ntmps27
    go_wp2_with fail
    go_ret
    exact ⟨rfl, rfl⟩
  | false =>
    cases h2 : b.toList.isEmpty with
    | true =>
      have h3 : b.toList = [] := by simpa using h2
      go_enter Try.func27, Try.ntmps27
      go_wp2_with fail
      go_ret
      exact ⟨rfl, rfl⟩
    | false =>
      have h3 : ¬ b.toList = [] := by simpa using h2
      cases h4 : Op.bytesLess k.toList b.toList <;>
      (go_enter Try.func27, Try.ntmps27
       go_wp2_with fail
       go_ret
       exact ⟨rfl, rfl⟩)
end Go.Proofs.Ytjoopjmcnkiieaa

/- walk at a leaf: each pair of the range is handed on, in order, till one says no more. Conditions: the leaf is there. -/
namespace Go.Proofs.Ytjoopjmcnkiieaa
open Go.RowKit Go.Lib Go.Shelf
set_option linter.unusedSimpArgs false
set_option linter.unusedVariables false
attribute [local go_sem] Oper.semAt_some

theorem RoundIn.anyDepth {F : Fence} (hd : F.depth = none) {m m' : Nat} {P : Program} {l : Nat} {f : FuncId} {tmps : Array Value} {assign body : Code} {w : World} {R : Ending → World → Prop}
    (h : RoundIn F m P l f tmps assign body w R) : RoundIn F m' P l f tmps assign body w R := ⟨h.1, fun c cs _ => h.2 c cs (fun d h => by rw [hd] at h; cases h)⟩
theorem YieldAt.anyDepth {F : Fence} (hd : F.depth = none) {m : Nat} (m' : Nat) {P : Program} {l : Nat} {args : Array Value} {W : World} {R : Ending → World → Prop} (h : YieldAt F m P l args W R) : YieldAt F m' P l args W R := by
  obtain ⟨fn, tmps, assign, body, hy, hR⟩ := h
  exact ⟨fn, tmps, assign, body, hy, RoundIn.anyDepth hd hR⟩
/-- The pairs of a range. -/
def part (a b : ByteArray) (l : List (ByteArray × Int)) : List (ByteArray × Int) := l.filter (fun e => withinS e.1 a b)
theorem part_append (a b : ByteArray) (x y : List (ByteArray × Int)) : part a b (x ++ y) = part a b x ++ part a b y := List.filter_append ..
def encP (x : ByteArray × Int) : Array Value := #[.string x.1, .int .i64 x.2]
/-- What walk does with a list of pairs. -/
def WalkP (n₀ : Nat) (J Jx : List (ByteArray × Int) → World → Prop) (pre q : List (ByteArray × Int)) (W : World) (e : Ending) (W' : World) : Prop :=
  (e = .returned (.bool true) ∧ J (pre ++ q) W' ∧ Below n₀ W W') ∨ (e = .returned (.bool false) ∧ ∃ q', q' <+: q ∧ Jx (pre ++ q') W')
def Rounds (l n₀ N : Nat) (J Jx : List (ByteArray × Int) → World → Prop) : Prop :=
  ∀ m pre x W, J pre W → pre.length < N → YieldAt Fence.wide m Try.prog l (encP x) W fun e W' => (e = .returned (.bool true) ∧ J (pre ++ [x]) W' ∧ Below n₀ W W') ∨ (e = .returned (.bool false) ∧ Jx (pre ++ [x]) W')
structure WalkAt (n₀ : Nat) (J : List (ByteArray × Int) → World → Prop) (pre : List (ByteArray × Int)) (W wr : World) : Prop where
  j : J pre wr
  b : Below n₀ W wr
theorem NodeAt.below {n₀ : Nat} {w w' : World} {p : Nat} {v1 v2 v3 : Value} {K : List ByteArray} {V : List Int} {C : List Nat} (h : NodeAt w p v1 v2 v3 K V C) (hn : ∀ k, 0 < ow p v1 v2 v3 k → k < n₀) (hb : Below n₀ w w') : NodeAt w' p v1 v2 v3 K V C :=
  h.of_heap fun k hk => hb.block k (hn k hk)
theorem take_zip {K : List ByteArray} {V : List Int} {j : Nat} {k : ByteArray} {v : Int} (hk : K[j]? = some k) (hv : V[j]? = some v) : (K.zip V)[j]? = some (k, v) := by
  rw [List.getElem?_zip_eq_some]; exact ⟨hk, hv⟩
set_option maxRecDepth 100000 in
set_option maxHeartbeats 16000000 in
theorem walk_leaf {l n₀ N : Nat} {J Jx : List (ByteArray × Int) → World → Prop} (hY : Rounds l n₀ N J Jx) {n p : Nat} {v1 v2 v3 : Value} {K : List ByteArray} {V : List Int} (a b : ByteArray) (pre : List (ByteArray × Int)) {W : World} (h : NodeAt W p v1 v2 v3 K V [])
    (hn0 : ∀ k, 0 < ow p v1 v2 v3 k → k < n₀) (hKV : V.length = K.length) (hl : K.length ≤ 1000) (hJ : J pre W) (hN : pre.length + (part a b (K.zip V)).length ≤ N) :
    CallsIn Fence.wide n Try.prog 29 #[.pointer (some ⟨p, 0, none⟩), .string a, .string b, .func (.yield l) #[] #[]] W (WalkP n₀ J Jx pre (part a b (K.zip V)) W) := by
  obtain ⟨Q, hQ⟩ : ∃ Q, WalkP n₀ J Jx pre (part a b (K.zip V)) W = Q := ⟨_, rfl⟩
  have HQ := Lib.hid hQ
  rw [hQ]
  have HL0 := leaf_any h
  rw [show ([] : List Nat).isEmpty = true from rfl] at HL0
  have HL := Lib.hid HL0
  clear HL0
  obtain ⟨a1, c1, a2, c2, _, _, rfl, rfl, _, l1, l2, _, m1, m2, _⟩ := h.forms
  have HH := Lib.hid h
  have HN0 := Lib.hid hn0
  have HKV := Lib.hid hKV
  have HJ := Lib.hid hJ
  have HN := Lib.hid hN
  have HY := Lib.hid hY
  have d0 := h.cells.1
  obtain ⟨nn, hnn⟩ : ∃ nn, K.length = nn := ⟨_, rfl⟩
  have HNN := Lib.hid hnn
  rw [hnn] at d0 hl
  clear hQ h hn0 hKV hJ hN hY l1 l2 m1 m2 hnn
  refine callsIn_of_wp Try.func29 rfl trivial ?_ rfl
  simp only [Try.ntmps29, List.size_toArray, List.length_cons, List.length_nil, Nat.reduceAdd, Nat.reduceSub, Array.replicate_succ, Array.replicate_zero, List.push_toArray, List.append_toArray, List.nil_append, List.cons_append]
  gi_wp2_with ((try refine ⟨trivial, (fun h => by cases h), ?_⟩); gi_at_call 38; refine (callsIn_wide.2 HL.out).mono ?_; rintro e w' ⟨rfl, rfl⟩)
  gi_loopw [19] (fun iv wr => ∃ j : Nat, iv = .int .i64 j ∧ j ≤ nn ∧ Hid (WalkAt n₀ J (pre ++ part a b ((K.zip V).take j)) W wr)) (fun iv _ => nn - (intOf iv).toNat)
  case atStart => exact ⟨0, rfl, Nat.zero_le _, Lib.hid ⟨by simpa [part] using HJ.out, Below.refl _ _⟩⟩
  case round =>
    clear d0
    obtain ⟨j, rfl, hj, HR⟩ := hrel
    by_cases hjn : j < nn
    · have hjn' : (j : Int) < nn := by omega
      obtain ⟨k, hk⟩ : ∃ k, K[j]? = some k := get_some (by have := HNN.out; omega)
      obtain ⟨v, hv⟩ : ∃ v, V[j]? = some v := get_some (by have := HNN.out; have := HKV.out; omega)
      have hnr := HH.out.below HN0.out HR.out.b
      obtain ⟨g1, rfl, k1, _⟩ := hnr.key hk
      have HK := Lib.hid hk
      have HV := Lib.hid hv
      have HW := Lib.hid (within_any k a b wr)
      have HS : Hid ((K.zip V).take (j + 1) = (K.zip V).take j ++ [(k, v)]) := Lib.hid (take_succ_some (take_zip hk hv))
      have hj1 : IntKind.i64.wrap ((j : Int) + 1) = (j : Int) + 1 := IntWalk.i64_in _ (by omega)
      clear hk hv
      cases hw : withinS k a b with
      | true =>
        obtain ⟨g2, rfl, k2, _⟩ := hnr.num HV.out
        have d1 := hnr.cells.2.1
        have hjv : (j : Int) < V.length := by have := HKV.out; have := HNN.out; omega
        have HP : Hid (part a b ((K.zip V).take (j + 1)) = part a b ((K.zip V).take j) ++ [(k, v)]) := Lib.hid (by rw [HS.out, part_append]; simp [part, hw])
        rw [hw] at HW
        obtain ⟨fn, tmps, assign, body, hy, hR⟩ := HY.out (n - 1) _ (k, v) wr HR.out.j (by
          have h1 := HN.out
          have h2 : (part a b ((K.zip V).take (j + 1))).length ≤ (part a b (K.zip V)).length := (((List.take_sublist _ _).filter _)).length_le
          rw [HP.out] at h2
          simp at h2 ⊢; omega)
        unfold encP at hy
        dsimp only at hy
        clear hw hnr
        gi_wp2_with (first
          | ((try refine ⟨trivial, (fun h => by cases h), ?_⟩); gi_at_call 36; refine (callsIn_wide.2 HW.out).mono ?_; rintro e w' ⟨rfl, rfl⟩)
          | ((try refine ⟨(fun h => by cases h), ?_⟩); refine hR.mono ?_; clear hR; rintro e W' (⟨rfl, hJ', hb'⟩ | ⟨rfl, hx'⟩)))
        · have HJ' : Hid (WalkAt n₀ J (pre ++ part a b ((K.zip V).take (j + 1))) W W') := Lib.hid ⟨by rw [HP.out, ← List.append_assoc]; exact hJ', HR.out.b.trans hb'⟩
          go_roundw
          case rel => exact ⟨j + 1, by go_num, by omega, HJ'⟩
          case measure => simp [intOf]; omega
        · show Q (.returned (.bool false)) W'
          rw [← HQ.out]
          refine .inr ⟨rfl, part a b ((K.zip V).take (j + 1)), ((List.take_prefix _ _).filter _), ?_⟩
          rw [HP.out, ← List.append_assoc]; exact hx'
      | false =>
        rw [hw] at HW
        have HP : Hid (part a b ((K.zip V).take (j + 1)) = part a b ((K.zip V).take j)) := Lib.hid (by rw [HS.out, part_append]; simp [part, hw])
        clear hw hnr
        gi_wp2_with (
          ((try refine ⟨trivial, (fun h => by cases h), ?_⟩); gi_at_call 36; refine (callsIn_wide.2 HW.out).mono ?_; rintro e w' ⟨rfl, rfl⟩))
        refine ⟨fun _ h => (by cases h), ?_⟩
        gi_wp2
        have HJ' : Hid (WalkAt n₀ J (pre ++ part a b ((K.zip V).take (j + 1))) W wr) := Lib.hid (by rw [HP.out]; exact HR.out)
        go_roundw
        case rel => exact ⟨j + 1, by go_num, by omega, HJ'⟩
        case measure => simp [intOf]; omega
    · have hjn' : ¬ (j : Int) < nn := by omega
      gi_wp2
      rw [← HQ.out]
      have hr := HR.out
      rw [List.take_of_length_le (by rw [List.length_zip]; have := HNN.out; omega)] at hr
      exact .inl ⟨rfl, hr.j, hr.b⟩
end Go.Proofs.Ytjoopjmcnkiieaa

/- The reference's Del, Part, Get, Stamp. Conditions: its rows are there, the keys rise. -/
namespace Go.Proofs.Ytjoopjmcnkiieaa
open Go.RowKit Go.Lib
set_option linter.unusedSimpArgs false
set_option linter.unusedVariables false

/-- Two rows that grow beside the reference. -/
structure Two (w0 : World) (F0 : Nat → Nat) (u : World) (xb : Nat) (v1 v2 v3 : Value) (K : List ByteArray) (V : List Int) (C : List ByteArray) (kv vv : Value) (q : List (ByteArray × Int)) : Prop where
  st : RefAt u xb v1 v2 v3 K V C
  a : Arr u 9 kv ((q.map (·.1)).map Value.string)
  b : Arr u 2 vv ((q.map (·.2)).map numV)
  fr : Fr F0 (fun k => ow xb v1 v2 v3 k + (rb kv k + rb vv k)) w0 u
/-- Between two appends: the first row is ahead by one. -/
structure TwoH (w0 : World) (F0 : Nat → Nat) (u : World) (xb : Nat) (v1 v2 v3 : Value) (K : List ByteArray) (V : List Int) (C : List ByteArray) (kv vv : Value) (ks : List ByteArray) (vs : List Int) : Prop where
  st : RefAt u xb v1 v2 v3 K V C
  a : Arr u 9 kv (ks.map Value.string)
  b : Arr u 2 vv (vs.map numV)
  fr : Fr F0 (fun k => ow xb v1 v2 v3 k + (rb kv k + rb vv k)) w0 u
theorem Rs.noE {w0 u : World} {F0 : Nat → Nat} {p : Nat} {c1 c2 c3 v1 v2 v3 : Value} {K : List ByteArray} {V : List Int} {C : List ByteArray} {E : List (Nat × Value × TypeId)} (h : Rs w0 F0 u p c1 c2 c3 v1 v2 v3 K V C E) : Rs w0 F0 u p c1 c2 c3 v1 v2 v3 K V C [] :=
  ⟨h.blk, h.r1, h.r2, h.r3, h.fr, fun e he => by cases he⟩
section
variable {w0 u u' : World} {F0 : Nat → Nat} {xb : Nat} {v1 v2 v3 kv vv kv' vv' : Value} {K C ks ks' : List ByteArray} {V vs vs' : List Int} {q : List (ByteArray × Int)}
theorem TwoH.alloc (h : TwoH w0 F0 u xb v1 v2 v3 K V C kv vv ks vs) (o : Obj) : TwoH w0 F0 (u.alloc o) xb v1 v2 v3 K V C kv vv ks vs := by
  have hk : ∀ k, k < u.heap.size → (u.alloc o).heap[k]? = u.heap[k]? := fun k hk => Below.heap_alloc _ _ _ hk
  have hz := h.fr.hi
  refine ⟨h.st.of_heap fun k e => hk k ?_, h.a.of_heap fun k e => hk k (h.a.lt k e), h.b.of_heap fun k e => hk k (h.b.lt k e), h.fr.alloc _⟩
  rcases Nat.lt_or_ge k u.heap.size with h1 | h1
  · exact h1
  · have := hz k h1; omega
theorem TwoH.app1 (h : TwoH w0 F0 u xb v1 v2 v3 K V C kv vv ks vs) (hg : u.grownBy u' kv.ownBlock) (hn : NewB u kv kv') (h' : Arr u' 9 kv' (ks'.map Value.string)) : TwoH w0 F0 u' xb v1 v2 v3 K V C kv' vv ks' vs := by
  have hone := h.fr.one
  have hhi := h.fr.hi
  have f0 := Fr.row hg hn h'
  have f1 := f0.frame (fun k => ow xb v1 v2 v3 k + rb vv k) (fun k => by have := hone k; omega) (fun k hk => by have := hhi k hk; omega)
  exact ⟨h.st.frame f0 (fun k => by have := hone k; omega), h', h.b.of_heap (fun k e => hg.block k (h.b.lt k e) (fun e2 => by have := hone k; rw [rb_some e, rb_some e2.symm] at this; omega)), h.fr.trans (f1.congr (fun k => by omega) (fun k => by omega))⟩
theorem TwoH.app2 (h : TwoH w0 F0 u xb v1 v2 v3 K V C kv vv ks vs) (hg : u.grownBy u' vv.ownBlock) (hn : NewB u vv vv') (h' : Arr u' 2 vv' (vs'.map numV)) : TwoH w0 F0 u' xb v1 v2 v3 K V C kv vv' ks vs' := by
  have hone := h.fr.one
  have hhi := h.fr.hi
  have f0 := Fr.row hg hn h'
  have f1 := f0.frame (fun k => ow xb v1 v2 v3 k + rb kv k) (fun k => by have := hone k; omega) (fun k hk => by have := hhi k hk; omega)
  exact ⟨h.st.frame f0 (fun k => by have := hone k; omega), h.a.of_heap (fun k e => hg.block k (h.a.lt k e) (fun e2 => by have := hone k; rw [rb_some e, rb_some e2.symm] at this; omega)), h', h.fr.trans (f1.congr (fun k => by omega) (fun k => by omega))⟩
theorem TwoH.toRs (h : TwoH w0 F0 u xb v1 v2 v3 K V C kv vv ks vs) : Rs w0 F0 u xb v1 v2 v3 kv vv v3 ks vs C [] :=
  ⟨h.st.blk, h.a, h.b, h.st.r3, h.fr.less (fun k => by unfold ow; omega), fun e he => by cases he⟩
theorem TwoH.key {a : Option Addr} {n c i : Nat} {x : ByteArray} (h : TwoH w0 F0 u xb (.slice a n c) v2 v3 K V C kv vv ks vs) (hx : K[i]? = some x) : ∃ g, a = some ⟨g, 0, none⟩ ∧ u.cell? ⟨g, i, none⟩ = some (.string x) := by
  obtain ⟨g, h1, _, h2, h3⟩ := h.st.r1.cell (i := i) (x := .string x) (by rw [List.getElem?_map, hx]; rfl)
  exact ⟨g, h1, h2⟩
theorem TwoH.num {a : Option Addr} {n c i : Nat} {x : Int} (h : TwoH w0 F0 u xb v1 (.slice a n c) v3 K V C kv vv ks vs) (hx : V[i]? = some x) : ∃ g, a = some ⟨g, 0, none⟩ ∧ u.cell? ⟨g, i, none⟩ = some (.int .i64 x) := by
  obtain ⟨g, h1, _, h2, h3⟩ := h.st.r2.cell (i := i) (x := numV x) (by rw [List.getElem?_map, hx]; rfl)
  exact ⟨g, h1, h2⟩
theorem TwoH.cell (h : TwoH w0 F0 u xb v1 v2 v3 K V C kv vv ks vs) : u.cell? ⟨xb, 0, none⟩ = some v1 ∧ u.cell? ⟨xb, 1, none⟩ = some v2 ∧ u.cell? ⟨xb, 2, none⟩ = some v3 ∧ ∀ q, u.frozen? ⟨xb, q, none⟩ = false :=
  ⟨h.st.blk.cell rfl, h.st.blk.cell rfl, h.st.blk.cell rfl, fun q => h.st.blk.free q⟩
theorem TwoH.start (h : RefAt u xb v1 v2 v3 K V C) (h1 : ∀ k, ow xb v1 v2 v3 k ≤ 1) : TwoH u (ow xb v1 v2 v3) u xb v1 v2 v3 K V C (.slice none 0 0) (.slice none 0 0) [] [] :=
  ⟨h, Arr.nil, Arr.nil, (Fr.refl h1 h.hi).congr (fun _ => rfl) (fun k => by rw [rb_nil]; omega)⟩
end
def RDelP (xb : Nat) (G : Nat → Nat) (l : List (ByteArray × Int)) (Hh : List ByteArray) (key : ByteArray) (w : World) (e : Ending) (w' : World) : Prop :=
  e = .returned (.bool (hasF key l)) ∧ ∃ G', Fr G G' w w' ∧ IsRef w' xb G' (delF key l) (if hasF key l then Hh ++ [key] else Hh)
set_option maxRecDepth 100000 in
set_option maxHeartbeats 16000000 in
theorem rdel_any {xb : Nat} {G : Nat → Nat} {l : List (ByteArray × Int)} {Hh : List ByteArray} {key : ByteArray} {w : World} (h : IsRef w xb G l Hh) (hp : l.Pairwise ltP) (hl : l.length ≤ 1000000) (hH : Hh.length ≤ 1000000) :
    Calls Try.prog 34 #[.pointer (some ⟨xb, 0, none⟩), .string key] w (RDelP xb G l Hh key w) := by
  obtain ⟨v1, v2, v3, hr, rfl, h1⟩ := h
  obtain ⟨K, hK⟩ : ∃ K, l.map (·.1) = K := ⟨_, rfl⟩
  obtain ⟨V, hV⟩ : ∃ V, l.map (·.2) = V := ⟨_, rfl⟩
  have hlz : l = K.zip V := by rw [← hK, ← hV, zip_maps]
  have hVK : V.length = K.length := by rw [← hK, ← hV]; simp
  rw [hK, hV] at hr
  obtain ⟨n, hn⟩ : ∃ n, K.length = n := ⟨_, rfl⟩
  have hn6 : n ≤ 1000000 := by rw [← hn, ← hK]; simpa using hl
  have hln : l.length = n := by rw [← hn, ← hK]; simp
  have HST0 := Rs.start hr h1
  obtain ⟨a1, k1, a2, k2, a3, k3, rfl, rfl, rfl, l1, l2, l3, m1, m2, m3⟩ := HST0.forms
  have hT0 := TwoH.start hr h1
  obtain ⟨hc, hhc⟩ : ∃ hc, Hh.length = hc := ⟨_, rfl⟩
  obtain ⟨F0, hF0⟩ : ∃ F0, ow xb (.slice a1 K.length k1) (.slice a2 V.length k2) (.slice a3 Hh.length k3) = F0 := ⟨_, rfl⟩
  rw [hF0] at hT0
  rw [hVK, hn, hhc] at hT0
  have HT0 := Lib.hid hT0
  have d0 := hT0.cell
  have HVK := Lib.hid hVK
  have HN := Lib.hid hn
  have HLZ := Lib.hid hlz
  have HLN := Lib.hid hln
  have HHC := Lib.hid hhc
  have HF0 := Lib.hid hF0
  obtain ⟨iS, siS, szS, s1S, s2S⟩ := info_parts Try.infoS
  obtain ⟨iI, siI, szI, s1I, s2I⟩ := info_parts Try.infoI
  obtain ⟨Q, hQ⟩ : ∃ Q, RDelP xb (ow xb (.slice a1 K.length k1) (.slice a2 V.length k2) (.slice a3 Hh.length k3)) l Hh key w = Q := ⟨_, rfl⟩
  have HQ := Lib.hid hQ
  rw [hQ]
  have HPW := Lib.hid hp
  have HHL := Lib.hid hH
  have HEND : Hid (∀ (u : World) (kv vv v3' : Value) (H' : List ByteArray) (was : Bool), hasF key l = was → (if was then Hh ++ [key] else Hh) = H' → Rs w F0 u xb kv vv v3' kv vv v3' ((delF key l).map (·.1)) ((delF key l).map (·.2)) H' [] → Q (.returned (.bool was)) u) := Lib.hid (by
    intro u kv vv v3' H' was hw hH' hst
    rw [← HQ.out]
    refine ⟨by rw [hw], _, ?_, kv, vv, v3', ?_, rfl, hst.fr.one⟩
    · rw [HF0.out]; exact hst.fr
    · rw [hw, hH']; exact hst.end)
  clear hr h1 hK hV hlz hVK hn hl hln HST0 l1 l2 l3 m1 m2 m3 hT0 hhc hF0 hQ hp hH
  go_enter Try.func34, Try.ntmps34
  go_wp2_with fail
  go_loopw [5, 6, 7] (fun kv vv iv wr => ∃ (j m : Nat) (ka : Option Addr) (kc : Nat) (va : Option Addr) (vc : Nat), kv = .slice ka m kc ∧ vv = .slice va m vc ∧ iv = .int .i64 j ∧ j ≤ n ∧ Hid (TwoH w F0 wr xb (.slice a1 n k1) (.slice a2 n k2) (.slice a3 hc k3) K V Hh (.slice ka m kc) (.slice va m vc) ((delF key (l.take j)).map (·.1)) ((delF key (l.take j)).map (·.2)) ∧ (delF key (l.take j)).length = m)) (fun _ _ iv _ => n - (intOf iv).toNat)
  case atStart => exact ⟨0, 0, none, 0, none, 0, rfl, rfl, rfl, Nat.zero_le _, Lib.hid ⟨HT0.out, rfl⟩⟩
  case round =>
    clear HT0 d0
    obtain ⟨j, m, ka, kc, va, vc, rfl, rfl, rfl, hj, HT⟩ := hrel
    have hj0 : (0 : Int) ≤ j := by omega
    have d0 := HT.out.1.cell
    by_cases hjn : j < n
    · have hjn' : (j : Int) < n := by omega
      obtain ⟨y, hy⟩ : ∃ y, K[j]? = some y := get_some (by have := HN.out; omega)
      obtain ⟨z, hz⟩ : ∃ z, V[j]? = some z := get_some (by have := HN.out; have := HVK.out; omega)
      obtain ⟨g1, rfl, kc1⟩ := HT.out.1.key hy
      obtain ⟨g2, rfl, vc1⟩ := HT.out.1.num hz
      have hj1 : IntKind.i64.wrap ((j : Int) + 1) = (j : Int) + 1 := IntWalk.i64_in _ (by omega)
      have HS : Hid (l.take (j + 1) = l.take j ++ [(y, z)]) := Lib.hid (take_succ_some (by rw [HLZ.out]; exact take_zip hy hz))
      have HM : Hid (m ≤ n) := Lib.hid (by
        have h2 := HT.out.2
        have h3 : (delF key (l.take j)).length ≤ (l.take j).length := List.length_filter_le _ _
        rw [List.length_take] at h3
        omega)
      have HZ : Hid (V[j]? = some z) := Lib.hid hz
      clear hy hz
      have hbe := ba_beq y key
      by_cases hyk : y = key
      · have h4 : (y.toList == key.toList) = true := by rw [hbe]; simpa using hyk
        have h5 : (y.toList != key.toList) = false := by rw [bne, h4]; rfl
        have HP : Hid (delF key (l.take (j + 1)) = delF key (l.take j)) := Lib.hid (by rw [HS.out]; simp [delF, hyk])
        clear hbe hyk
        go_wp2_with fail
        go_roundw
        case rel => exact ⟨j + 1, m, ka, kc, va, vc, rfl, rfl, by go_num, by omega, Lib.hid (by rw [HP.out]; exact HT.out)⟩
        case measure => simp [intOf]; omega
      · have h4 : (y.toList == key.toList) = false := by rw [hbe]; simpa using hyk
        have h5 : (y.toList != key.toList) = true := by rw [bne, h4]; rfl
        have HP : Hid (delF key (l.take (j + 1)) = delF key (l.take j) ++ [(y, z)]) := Lib.hid (by rw [HS.out]; simp [delF, hyk])
        clear hbe hyk
        have T1 := HT.out.1.alloc (.cells #[.string y] 9)
        have hx := Block.new wr [.string y] 9
        go_upto_region 8 with ((at_builtin; refine wpList_append_arr rfl _ _ 27 rfl Try.underlying27 siS szS s1S s2S rfl (by decide) _ _ _ (((delF key (l.take j)).map (·.1)).map Value.string) rfl T1.a (str_one _) (some ⟨wr.heap.size, 0, none⟩) 1 1 _ [.string y] rfl rfl (by simp [Value.oneCell']) (fun h => by cases h) (one_cell' hx) (by have h2 := HT.out.2; have h3 := HM.out; simp; omega) ?_; intro b1 e1 u3 g1 g2 g3; have T2 := T1.app1 (ks' := (delF key (l.take (j + 1))).map (·.1)) g2 g3 (by rw [HP.out]; simp only [List.map_append, List.map_cons, List.map_nil] at g1 ⊢; exact g1); clear g1 g2 g3 hx d0 T1 kc1 vc1; have d0 := T2.cell; obtain ⟨_, e9, vc1⟩ := T2.num HZ.out; injection e9 with e9; injection e9 with e9 _; subst e9))
        have T3 := T2.alloc (.cells #[.int .i64 z] 2)
        have hx := Block.new u3 [.int .i64 z] 2
        clear T2
        go_wp2_with (at_builtin; refine wpList_append_arr rfl _ _ 28 rfl Try.underlying28 siI szI s1I s2I rfl (by decide) _ _ _ (((delF key (l.take j)).map (·.2)).map numV) rfl T3.b (num_one _) (some ⟨u3.heap.size, 0, none⟩) 1 1 _ [.int .i64 z] rfl rfl (by simp [Value.oneCell']) (fun h => by cases h) (one_cell' hx) (by have h2 := HT.out.2; have h3 := HM.out; simp; omega) ?_; intro b2 e2 u4 g1 g2 g3; have T4 := T3.app2 (vs' := (delF key (l.take (j + 1))).map (·.2)) g2 g3 (by rw [HP.out]; simp only [List.map_append, List.map_cons, List.map_nil] at g1 ⊢; exact g1); clear g1 g2 g3 hx d0 T3 vc1; have d0 := T4.cell)
        have HT4 := Lib.hid T4
        clear T4
        go_roundw
        case rel => exact ⟨j + 1, m + 1, b1, e1, b2, e2, rfl, rfl, by go_num, by omega, Lib.hid ⟨HT4.out, by rw [HP.out, List.length_append, HT.out.2]; rfl⟩⟩
        case measure => simp [intOf]; omega
    · have hjn' : ¬ (j : Int) < n := by omega
      have hje : j = n := by omega
      have hft : l.take j = l := List.take_of_length_le (by have := HLN.out; omega)
      have HTE := HT.out
      rw [hft] at HTE
      have HTE := Lib.hid HTE
      clear hft hje HT hj
      have HLT := HTE.out.2
      have HHAS : Hid (hasF key l = decide (m < n)) := Lib.hid (by
        have h2 := delF_length key HPW.out
        rw [HLT] at h2
        cases h3 : hasF key l with
        | true =>
          rw [h3, if_pos rfl] at h2
          have h4 : 0 < l.length := by cases l with | nil => cases h3 | cons _ _ => simp
          rw [decide_eq_true (by have := HLN.out; omega)]
        | false =>
          rw [h3, if_neg (by simp)] at h2
          rw [decide_eq_false (by have := HLN.out; omega)])
      clear HLT
      have HR := HTE.out.1.toRs
      by_cases hmn : m < n
      · have hmn' : (m : Int) < n := by omega
        have T1 := HR.alloc (.string key) 9
        have hx := T1.ex _ (List.mem_cons_self)
        have HHT : Hid (hasF key l = true) := Lib.hid (by rw [HHAS.out, decide_eq_true hmn])
        go_upto_region 12 with (at_builtin; refine wpList_append_arr rfl _ _ 27 rfl Try.underlying27 siS szS s1S s2S rfl (by decide) _ _ _ (Hh.map Value.string) rfl T1.r3 (str_one _) (some ⟨wr.heap.size, 0, none⟩) 1 1 _ [.string key] rfl rfl (by simp [Value.oneCell']) (fun h => by cases h) (one_cell' hx.1) (by have := HHC.out; have := HHL.out; simp; omega) ?_; intro b1 e1 u3 g1 g2 g3; have T2 := T1.app3 g1 g2 g3; clear g1 g2 g3 hx d0 T1; have d0 := T2.cell)
        have T3 := T2.put2 (.slice b1 (hc + 1) e1)
        clear T2 d0
        generalize u3.setCell ⟨xb, 2, none⟩ (.slice b1 (hc + 1) e1) = u5 at *
        have d0 := T3.cell
        have T4 := T3.put0 (.slice ka m kc)
        have d1 := T4.cell
        have T5 := T4.put1 (.slice va m vc)
        have HE := Lib.hid (HEND.out _ _ _ _ (Hh ++ [key]) true HHT.out (by rw [if_pos rfl]) T5.noE)
        clear T3 T4 T5 HR
        go_wp2_with fail
        exact HE.out
      · have hmn' : ¬ (m : Int) < n := by omega
        have HHT : Hid (hasF key l = false) := Lib.hid (by rw [HHAS.out, decide_eq_false hmn])
        have T4 := HR.put0 (.slice ka m kc)
        have d1 := T4.cell
        have T5 := T4.put1 (.slice va m vc)
        have HE := Lib.hid (HEND.out _ _ _ _ Hh false HHT.out (by rw [if_neg (by simp)]) T5)
        clear T4 T5 HR
        go_wp2_with fail
        exact HE.out
/-- Two rows of their own. -/
structure PartP (xb : Nat) (G : Nat → Nat) (l : List (ByteArray × Int)) (Hh : List ByteArray) (q : List (ByteArray × Int)) (w : World) (kv vv : Value) (w' : World) : Prop where
  rf : IsRef w' xb G l Hh
  a : Arr w' 9 kv ((q.map (·.1)).map Value.string)
  b : Arr w' 2 vv ((q.map (·.2)).map numV)
  fr : Fr G (fun k => G k + (rb kv k + rb vv k)) w w'
def RPartP (xb : Nat) (G : Nat → Nat) (l : List (ByteArray × Int)) (Hh : List ByteArray) (a b : ByteArray) (w : World) (e : Ending) (w' : World) : Prop :=
  ∃ kv vv, e = .returned (.tuple #[kv, vv]) ∧ PartP xb G l Hh (part a b l) w kv vv w'
set_option maxRecDepth 100000 in
set_option maxHeartbeats 16000000 in
theorem rpart_any {xb : Nat} {G : Nat → Nat} {l : List (ByteArray × Int)} {Hh : List ByteArray} {a b : ByteArray} {w : World} (h : IsRef w xb G l Hh) (hl : l.length ≤ 1000000) :
    Calls Try.prog 10 #[.pointer (some ⟨xb, 0, none⟩), .string a, .string b] w (RPartP xb G l Hh a b w) := by
  obtain ⟨v1, v2, v3, hr, rfl, h1⟩ := h
  obtain ⟨K, hK⟩ : ∃ K, l.map (·.1) = K := ⟨_, rfl⟩
  obtain ⟨V, hV⟩ : ∃ V, l.map (·.2) = V := ⟨_, rfl⟩
  have hlz : l = K.zip V := by rw [← hK, ← hV, zip_maps]
  have hVK : V.length = K.length := by rw [← hK, ← hV]; simp
  rw [hK, hV] at hr
  obtain ⟨n, hn⟩ : ∃ n, K.length = n := ⟨_, rfl⟩
  have hn6 : n ≤ 1000000 := by rw [← hn, ← hK]; simpa using hl
  have hln : l.length = n := by rw [← hn, ← hK]; simp
  have HST0 := Rs.start hr h1
  obtain ⟨a1, k1, a2, k2, a3, k3, rfl, rfl, rfl, l1, l2, l3, m1, m2, m3⟩ := HST0.forms
  have hT0 := TwoH.start hr h1
  obtain ⟨hc, hhc⟩ : ∃ hc, Hh.length = hc := ⟨_, rfl⟩
  obtain ⟨F0, hF0⟩ : ∃ F0, ow xb (.slice a1 K.length k1) (.slice a2 V.length k2) (.slice a3 Hh.length k3) = F0 := ⟨_, rfl⟩
  rw [hF0] at hT0
  rw [hVK, hn, hhc] at hT0
  have HT0 := Lib.hid hT0
  have d0 := hT0.cell
  have HVK := Lib.hid hVK
  have HN := Lib.hid hn
  have HLZ := Lib.hid hlz
  have HLN := Lib.hid hln
  have HHC := Lib.hid hhc
  have HF0 := Lib.hid hF0
  obtain ⟨iS, siS, szS, s1S, s2S⟩ := info_parts Try.infoS
  obtain ⟨iI, siI, szI, s1I, s2I⟩ := info_parts Try.infoI
  obtain ⟨Q, hQ⟩ : ∃ Q, RPartP xb (ow xb (.slice a1 K.length k1) (.slice a2 V.length k2) (.slice a3 Hh.length k3)) l Hh a b w = Q := ⟨_, rfl⟩
  have HQ := Lib.hid hQ
  rw [hQ]
  have HEND : Hid (∀ (u : World) (kv vv : Value), TwoH w F0 u xb (.slice a1 n k1) (.slice a2 n k2) (.slice a3 hc k3) K V Hh kv vv ((part a b l).map (·.1)) ((part a b l).map (·.2)) → Q (.returned (.tuple #[kv, vv])) u) := Lib.hid (by
    intro u kv vv hst
    rw [← HQ.out]
    obtain ⟨s1, s2, s3, s4⟩ := hst
    have hv : ow xb (.slice a1 n k1) (.slice a2 n k2) (.slice a3 hc k3) = F0 := by rw [← hF0, hVK, hn, hhc]
    rw [hv] at s4
    refine ⟨kv, vv, rfl, ⟨_, _, _, by rw [hK, hV]; exact s1, by rw [hv]; exact hF0, fun k => by rw [hF0]; have := s4.one k; omega⟩, s2, s3, by rw [HF0.out]; exact s4⟩)
  clear hr h1 hK hV hlz hVK hn hl hln HST0 l1 l2 l3 m1 m2 m3 hT0 hhc hF0 hQ
  go_enter Try.func10, Try.ntmps10
  go_wp2_with fail
  go_loopw [8, 9, 10] (fun kv vv iv wr => ∃ (j m : Nat) (ka : Option Addr) (kc : Nat) (va : Option Addr) (vc : Nat), kv = .slice ka m kc ∧ vv = .slice va m vc ∧ iv = .int .i64 j ∧ j ≤ n ∧ Hid (TwoH w F0 wr xb (.slice a1 n k1) (.slice a2 n k2) (.slice a3 hc k3) K V Hh (.slice ka m kc) (.slice va m vc) ((part a b (l.take j)).map (·.1)) ((part a b (l.take j)).map (·.2)) ∧ (part a b (l.take j)).length = m)) (fun _ _ iv _ => n - (intOf iv).toNat)
  case atStart => exact ⟨0, 0, none, 0, none, 0, rfl, rfl, rfl, Nat.zero_le _, Lib.hid ⟨HT0.out, rfl⟩⟩
  case round =>
    clear HT0 d0
    obtain ⟨j, m, ka, kc, va, vc, rfl, rfl, rfl, hj, HT⟩ := hrel
    have hj0 : (0 : Int) ≤ j := by omega
    have d0 := HT.out.1.cell
    by_cases hjn : j < n
    · have hjn' : (j : Int) < n := by omega
      obtain ⟨y, hy⟩ : ∃ y, K[j]? = some y := get_some (by have := HN.out; omega)
      obtain ⟨z, hz⟩ : ∃ z, V[j]? = some z := get_some (by have := HN.out; have := HVK.out; omega)
      obtain ⟨g1, rfl, kc1⟩ := HT.out.1.key hy
      obtain ⟨g2, rfl, vc1⟩ := HT.out.1.num hz
      have hj1 : IntKind.i64.wrap ((j : Int) + 1) = (j : Int) + 1 := IntWalk.i64_in _ (by omega)
      have HS : Hid (l.take (j + 1) = l.take j ++ [(y, z)]) := Lib.hid (take_succ_some (by rw [HLZ.out]; exact take_zip hy hz))
      have HM : Hid (m ≤ n) := Lib.hid (by
        have h2 := HT.out.2
        have h3 : (part a b (l.take j)).length ≤ (l.take j).length := List.length_filter_le _ _
        rw [List.length_take] at h3
        omega)
      have HZ : Hid (V[j]? = some z) := Lib.hid hz
      clear hy hz
      have HW := Lib.hid (rwithin_any y a b wr)
      cases hw : withinS y a b with
      | false =>
        rw [hw] at HW
        have HP : Hid (part a b (l.take (j + 1)) = part a b (l.take j)) := Lib.hid (by rw [HS.out]; rw [part_append]; simp [part, hw])
        clear hw
        go_wp2_with ((go_at_call 27; refine HW.out.mono ?_; clear HW; rintro e w' ⟨rfl, rfl⟩))
        go_roundw
        case rel => exact ⟨j + 1, m, ka, kc, va, vc, rfl, rfl, by go_num, by omega, Lib.hid (by rw [HP.out]; exact HT.out)⟩
        case measure => simp [intOf]; omega
      | true =>
        rw [hw] at HW
        have HP : Hid (part a b (l.take (j + 1)) = part a b (l.take j) ++ [(y, z)]) := Lib.hid (by rw [HS.out]; rw [part_append]; simp [part, hw])
        clear hw
        have T1 := HT.out.1.alloc (.cells #[.string y] 9)
        have hx := Block.new wr [.string y] 9
        go_upto_region 8 with ((first | (go_at_call 27; refine HW.out.mono ?_; clear HW; rintro e w' ⟨rfl, rfl⟩) | (at_builtin; refine wpList_append_arr rfl _ _ 27 rfl Try.underlying27 siS szS s1S s2S rfl (by decide) _ _ _ (((part a b (l.take j)).map (·.1)).map Value.string) rfl T1.a (str_one _) (some ⟨wr.heap.size, 0, none⟩) 1 1 _ [.string y] rfl rfl (by simp [Value.oneCell']) (fun h => by cases h) (one_cell' hx) (by have h2 := HT.out.2; have h3 := HM.out; simp; omega) ?_; intro b1 e1 u3 g1 g2 g3; have T2 := T1.app1 (ks' := (part a b (l.take (j + 1))).map (·.1)) g2 g3 (by rw [HP.out]; simp only [List.map_append, List.map_cons, List.map_nil] at g1 ⊢; exact g1); clear g1 g2 g3 hx d0 T1 kc1 vc1; have d0 := T2.cell; obtain ⟨_, e9, vc1⟩ := T2.num HZ.out; injection e9 with e9; injection e9 with e9 _; subst e9)))
        have T3 := T2.alloc (.cells #[.int .i64 z] 2)
        have hx := Block.new u3 [.int .i64 z] 2
        clear T2
        go_wp2_with (at_builtin; refine wpList_append_arr rfl _ _ 28 rfl Try.underlying28 siI szI s1I s2I rfl (by decide) _ _ _ (((part a b (l.take j)).map (·.2)).map numV) rfl T3.b (num_one _) (some ⟨u3.heap.size, 0, none⟩) 1 1 _ [.int .i64 z] rfl rfl (by simp [Value.oneCell']) (fun h => by cases h) (one_cell' hx) (by have h2 := HT.out.2; have h3 := HM.out; simp; omega) ?_; intro b2 e2 u4 g1 g2 g3; have T4 := T3.app2 (vs' := (part a b (l.take (j + 1))).map (·.2)) g2 g3 (by rw [HP.out]; simp only [List.map_append, List.map_cons, List.map_nil] at g1 ⊢; exact g1); clear g1 g2 g3 hx d0 T3 vc1; have d0 := T4.cell)
        have HT4 := Lib.hid T4
        clear T4
        go_roundw
        case rel => exact ⟨j + 1, m + 1, b1, e1, b2, e2, rfl, rfl, by go_num, by omega, Lib.hid ⟨HT4.out, by rw [HP.out, List.length_append, HT.out.2]; rfl⟩⟩
        case measure => simp [intOf]; omega
    · have hjn' : ¬ (j : Int) < n := by omega
      have hje : j = n := by omega
      have hft : l.take j = l := List.take_of_length_le (by have := HLN.out; omega)
      have HTE := HT.out
      rw [hft] at HTE
      have HTE := Lib.hid HTE
      clear hft hje HT hj
      have HE := Lib.hid (HEND.out _ _ _ HTE.out.1)
      go_wp2_with fail
      exact HE.out
end Go.Proofs.Ytjoopjmcnkiieaa

/- mend, whatever the kid lacks: all its cases. Conditions: the tree is there. -/
namespace Go.Proofs.Ytjoopjmcnkiieaa
open Go.RowKit Go.Lib
set_option linter.unusedSimpArgs false
set_option linter.unusedVariables false

theorem MendAny.from {o d : Nat} {lo hi : Option ByteArray} {T : Tr} {w W w' : World} (hs : Same4 w W) (hm : mem (d + 1) w T) (h1 : ∀ k, fp (d + 1) T k ≤ 1) (h : MendAny o d lo hi T W w') : MendAny o d lo hi T w w' := by
  obtain ⟨T', e, hm', hf, h2⟩ := h
  exact ⟨T', e, hm', (Fr.same hs h1 (fun k hk => mem_hi hm k hk)).trans hf, h2⟩
theorem mend_any {o d tb : Nat} (ho3 : 3 ≤ o) (ho2 : o ≤ 64) {lo hi lo' hi' : Option ByteArray} {w : World} {T c : Tr} {L : List (Tr × ByteArray)} {R : List (ByteArray × Tr)} (hm : mem (d + 1) w T) (h1 : ∀ k, fp (d + 1) T k ≤ 1)
    (hks : T.ks = L.map (·.2) ++ R.map (·.1)) (hcs : T.cs = L.map (·.1) ++ c :: R.map (·.2)) (hl : seg (fun lo hi c => inv o d (lst o d) o lo hi c) lo L lo') (hc : inv o d (lst o d - 1) o lo' hi' c) (hr : rseg (fun lo hi c => inv o d (lst o d) o lo hi c) hi' R hi)
    (hK : 1 ≤ T.ks.length ∧ T.ks.length ≤ o) (ho : w.cell? ⟨tb, 0, none⟩ = some (.int .i64 o)) :
    Calls Try.prog 54 #[.pointer (some ⟨tb, 0, none⟩), .pointer (some ⟨T.p, 0, none⟩), .int .i64 L.length] w fun e w' => e = .returned (.tuple #[]) ∧ MendAny o d lo hi T w w' := by
  have hcm : c ∈ T.cs := by rw [hcs]; simp
  have hmc := hm.2.2 c hcm
  have hcl : T.cs.length = T.ks.length + 1 := by rw [hcs, hks]; simp; omega
  have h1c : ∀ y ∈ T.cs, ∀ k, fp d y k ≤ 1 := fun y hy k => by have := h1 k; have h2 := fpL_mem (f := fp d) hy k; simp only [fp] at this; omega
  have hl1 : 1 ≤ lst o d := by cases d <;> simp only [lst] <;> omega
  have HL := least_tree ho2 hmc (h1c c hcm) hc ho
  obtain ⟨ak, ck, dk⟩ := keys_cell hmc
  obtain ⟨a1, c1, a2, c2, a3, c3, e1, e2, e3, _⟩ := hm.1.forms
  have hn := hm.1
  rw [e3] at hn
  have hlen : (T.cs.map Tr.p).length = T.cs.length := List.length_map _
  have kid : ∀ (i : Nat) (y : Tr), T.cs[i]? = some y → (T.cs.map Tr.p)[i]? = some y.p := fun i y h => by rw [List.getElem?_map, h]; rfl
  have hci : T.cs[L.length]? = some c := by rw [hcs, List.getElem?_append_right (by simp)]; simp
  obtain ⟨g3, rfl, ki, _⟩ := hn.kid (kid _ _ hci)
  have dn := hn.cells.2.2.1
  have cellk : ∀ (i : Nat) (y : Tr), T.cs[i]? = some y → w.cell? ⟨g3, i, none⟩ = some (.pointer (some ⟨y.p, 0, none⟩)) := fun i y h => by
    obtain ⟨g, e, h2, _⟩ := hn.kid (kid i y h)
    injection e with e
    injection e with e _
    subst e
    exact h2
  have hil : L.length < (T.cs.map Tr.p).length := by rw [hlen]; exact (List.getElem?_eq_some_iff.1 hci).1
  have hm1000 : (T.cs.map Tr.p).length ≤ 1000 := by omega
  have hTs : T.ks.length ≤ 64 ∧ T.cs.length ≤ 65 := by omega
  have hcln := inv_len hc
  by_cases hen : lst o d ≤ c.ks.length
  · exact mend_enough (j := 0) (pl := 0) (pr := 0) (ll := 0) (lr := 0) (cl := 0) (cr := 0) (al := none) (ar := none) dn hil hm1000 ki dk HL hen (Q := fun w' => MendAny o d lo hi T w w') (fun W hs => MendAny.from hs hm h1 ⟨T, rfl, mem_same hs hm h1, Fr.refl h1 (fun k hk => mem_hi (mem_same hs hm h1) k hk), Foc.back (L := L) (c := c) (R := R) ⟨hks, hcs, hl, inv_size hc hen hcln.2, hr⟩, by omega, Nat.le_refl _, rfl⟩)
  · have hlt : c.ks.length < lst o d := by omega
    have hW : ∀ W, Same4 w W → mem (d + 1) W T := fun W hs => mem_same hs hm h1
    have hall : 2 * lst o d ≤ o + 1 := by cases d <;> simp only [lst] <;> omega
    rcases List.eq_nil_or_concat L with rfl | ⟨L0, ⟨a, k⟩, rfl⟩
    · cases R with
      | nil => rw [hks] at hK; simp at hK
      | cons z R =>
        obtain ⟨rfl, h', hb, hr'⟩ := hr
        have hbi : T.cs[0 + 1]? = some z.2 := by rw [hcs]; rfl
        have hbm : z.2 ∈ T.cs := List.mem_of_getElem? hbi
        obtain ⟨ab, cb, db⟩ := keys_cell (hm.2.2 _ hbm)
        have hks' : T.ks = ([] : List (Tr × ByteArray)).map (·.2) ++ z.1 :: R.map (·.1) := hks
        have hcs' : T.cs = ([] : List (Tr × ByteArray)).map (·.1) ++ c :: z.2 :: R.map (·.2) := hcs
        have hk0 : T.ks[(([] : List (Tr × ByteArray)).map (·.1)).length]? = some z.1 := by rw [hks]; rfl
        have him : 0 + 1 < (T.cs.map Tr.p).length := by rw [hlen]; exact (List.getElem?_eq_some_iff.1 hbi).1
        by_cases hg : lst o d < z.2.ks.length
        · refine mend_right0 (j := 0) (pl := 0) (ll := 0) (cl := 0) (al := none) dn hil hm1000 ki dk HL hlt rfl him (cellk _ _ hbi) db hg (Q := fun w' => MendAny o d lo hi T w w') (fun W hs => ?_)
          refine (shift_l ho3 ho2 (hW W hs) hcs' h1 hk0 hTs hc hb hlt hg).mono ?_
          rintro e w' ⟨rfl, h⟩
          exact ⟨rfl, MendAny.from hs hm h1 (shift_mend hks' hcs' hl hr' h)⟩
        · refine mend_join0 (j := 0) (pl := 0) (ll := 0) (cl := 0) (al := none) dn hil hm1000 ki dk HL hlt rfl him (cellk _ _ hbi) db (by omega) (Q := fun w' => MendAny o d lo hi T w w') (fun W hs => ?_)
          have hbl := inv_len hb
          refine (joint ho3 ho2 (hW W hs) hcs' h1 hk0 hTs hc hb (by omega) (by omega)).mono ?_
          rintro e w' ⟨rfl, h⟩
          exact ⟨rfl, MendAny.from hs hm h1 (joint_mend hks' hcs' hl hr' h)⟩
    · rw [List.concat_eq_append] at *
      obtain ⟨l0, hl0, ha, rfl⟩ := seg_snoc.1 hl
      have hks' : T.ks = L0.map (·.2) ++ k :: R.map (·.1) := by rw [hks]; simp
      have hcs' : T.cs = L0.map (·.1) ++ a :: c :: R.map (·.2) := by rw [hcs]; simp
      have hai : T.cs[L0.length]? = some a := by rw [hcs', List.getElem?_append_right (by simp)]; simp
      have ham : a ∈ T.cs := List.mem_of_getElem? hai
      obtain ⟨aa, ca, da⟩ := keys_cell (hm.2.2 _ ham)
      have hk0 : T.ks[(L0.map (·.1)).length]? = some k := by rw [hks', List.getElem?_append_right (by simp)]; simp
      have hL : (L0 ++ [(a, k)]).length = L0.length + 1 := by simp
      have hL0 : (L0.map (·.1)).length = L0.length := List.length_map _
      have hal := inv_len ha
      have hJ : ∀ W, Same4 w W → a.ks.length ≤ lst o d → Calls Try.prog 63 #[.pointer (some ⟨T.p, 0, none⟩), .int .i64 L0.length] W fun e w' => e = .returned (.tuple #[]) ∧ MendAny o d lo hi T w w' := fun W hs hg => by
        have := joint ho3 ho2 (hW W hs) hcs' h1 hk0 hTs ha hc (by omega) (by omega)
        rw [hL0] at this
        refine this.mono ?_
        rintro e w' ⟨rfl, h⟩
        exact ⟨rfl, MendAny.from hs hm h1 (joint_mend hks' hcs' hl0 hr (by rw [hL0]; exact h))⟩
      by_cases hg : lst o d < a.ks.length
      · refine mend_left (pr := 0) (lr := 0) (cr := 0) (ar := none) dn hil hm1000 ki dk HL hlt hL (cellk _ _ hai) da hg (Q := fun w' => MendAny o d lo hi T w w') (fun W hs => ?_)
        have := shift_r ho3 ho2 (hW W hs) hcs' h1 hk0 hTs ha hc hg hlt
        rw [hL0] at this
        rw [hL]
        refine this.mono ?_
        rintro e w' ⟨rfl, h⟩
        exact ⟨rfl, MendAny.from hs hm h1 (shift_mend hks' hcs' hl0 hr (by rw [hL0]; exact h))⟩
      · cases R with
        | nil =>
          refine mend_joinz (pr := 0) (lr := 0) (cr := 0) (ar := none) dn hil hm1000 ki dk HL hlt hL (cellk _ _ hai) da (by omega) (by rw [hlen, hcs]; simp) (Q := fun w' => MendAny o d lo hi T w w') (fun W hs => hJ W hs (by omega))
        | cons z R =>
          have hr0 := hr
          obtain ⟨rfl, h', hb, hr'⟩ := hr
          have hbi : T.cs[(L0 ++ [(a, k)]).length + 1]? = some z.2 := by rw [hcs, List.getElem?_append_right (by simp)]; simp
          have hbm : z.2 ∈ T.cs := List.mem_of_getElem? hbi
          obtain ⟨ab, cb, db⟩ := keys_cell (hm.2.2 _ hbm)
          have him : (L0 ++ [(a, k)]).length + 1 < (T.cs.map Tr.p).length := by rw [hlen]; exact (List.getElem?_eq_some_iff.1 hbi).1
          by_cases hg2 : lst o d < z.2.ks.length
          · refine mend_right1 dn hil hm1000 ki dk HL hlt hL (cellk _ _ hai) da (by omega) him (cellk _ _ hbi) db hg2 (Q := fun w' => MendAny o d lo hi T w w') (fun W hs => ?_)
            have hk1 : T.ks[((L0 ++ [(a, k)]).map (·.1)).length]? = some z.1 := by rw [hks, List.getElem?_append_right (by simp)]; simp
            have hL1 : ((L0 ++ [(a, k)]).map (·.1)).length = (L0 ++ [(a, k)]).length := List.length_map _
            have := shift_l ho3 ho2 (hW W hs) hcs h1 hk1 hTs hc hb hlt hg2
            rw [hL1] at this
            refine this.mono ?_
            rintro e w' ⟨rfl, h⟩
            exact ⟨rfl, MendAny.from hs hm h1 (shift_mend hks hcs hl hr' (by rw [hL1]; exact h))⟩
          · refine mend_join1 dn hil hm1000 ki dk HL hlt hL (cellk _ _ hai) da (by omega) him (cellk _ _ hbi) db (by omega) (Q := fun w' => MendAny o d lo hi T w w') (fun W hs => hJ W hs (by omega))
end Go.Proofs.Ytjoopjmcnkiieaa

/- del below a tree's node. Conditions: the tree is there and as it must be. -/
namespace Go.Proofs.Ytjoopjmcnkiieaa
open Go.RowKit Go.Lib
set_option linter.unusedSimpArgs false
set_option linter.unusedVariables false

/-- What del makes of a tree. -/
def DelAny (o d a b : Nat) (lo hi : Option ByteArray) (t : Tr) (key : ByteArray) (w : World) (w' : World) : Prop :=
  ∃ t', t'.p = t.p ∧ mem d w' t' ∧ Fr (fp d t) (fp d t') w w' ∧ inv o d (a - 1) b lo hi t' ∧ flat d t' = delF key (flat d t)
theorem del_any {o tb : Nat} (ho3 : 3 ≤ o) (ho2 : o ≤ 64) {key : ByteArray} : ∀ {d a b : Nat} {lo hi : Option ByteArray} {w : World} {t : Tr}, mem d w t → (∀ k, fp d t k ≤ 1) → fp d t tb = 0 → inv o d a b lo hi t → b ≤ o → (0 < d → 1 ≤ a) → inR lo hi key → w.cell? ⟨tb, 0, none⟩ = some (.int .i64 o) →
    Calls Try.prog 41 #[.pointer (some ⟨tb, 0, none⟩), .pointer (some ⟨t.p, 0, none⟩), .string key] w fun e w' => e = .returned (.bool (hasF key (flat d t))) ∧ DelAny o d a b lo hi t key w w' := by
  intro d
  induction d with
  | zero =>
    intro a b lo hi w t hm h1 htb hv hbo _ hin ho
    obtain ⟨hvs, hso, hks, hlh, ha, hb⟩ := hv
    refine (del_leaf hm.1 h1 hso (by omega) hvs key).mono ?_
    rintro e w' ⟨r, v1', v2', hr, hlo, hhi, rfl, hf, hn⟩
    refine ⟨by rw [show flat 0 t = t.ks.zip t.vs from rfl, zip_has hso hr hlo hhi hvs], ?_⟩
    by_cases h : t.ks[r]? = some key
    · rw [if_pos h] at hn
      have hl := (List.getElem?_eq_some_iff.1 h).1
      refine ⟨.mk t.p v1' v2' t.v3 (t.ks.eraseIdx r) (t.vs.eraseIdx r) [], rfl, ⟨hn, rfl⟩, hf, ⟨?_, sorted_sub hso (List.eraseIdx_sublist _ _), fun k hk => hks k (List.mem_of_mem_eraseIdx hk), hlh, ?_, ?_⟩, (zip_del hso hr hlo hhi hvs h).symm⟩
      · simp only [Tr.mk_ks, Tr.mk_vs]; rw [List.length_eraseIdx_of_lt hl, List.length_eraseIdx_of_lt (by omega), hvs]
      · simp only [Tr.mk_ks]; rw [List.length_eraseIdx_of_lt hl]; omega
      · simp only [Tr.mk_ks]; rw [List.length_eraseIdx_of_lt hl]; omega
    · rw [if_neg h] at hn
      exact ⟨.mk t.p v1' v2' t.v3 t.ks t.vs [], rfl, ⟨hn, rfl⟩, hf, ⟨hvs, hso, hks, hlh, by simp; omega, hb⟩, (zip_keep hso hr hlo hhi hvs h).symm⟩
  | succ d ih =>
    intro a b lo hi w t hm h1 htb hv hbo ha1 hin ho
    have hsz := inv_len hv
    have hfr := hv.1
    have ha := ha1 (by omega)
    refine (del_fork (R := fun ok w' => ok = hasF key (flat (d + 1) t) ∧ DelAny o (d + 1) a b lo hi t key w w') hm.1 (inv_sorted hv) (by omega) (by rw [List.length_map]; exact hfr.len) (fun i hcp => ?_)).mono ?_
    · obtain ⟨L, c, R, lo', hi', hL, hF⟩ := hfr.focus i hcp.1
      subst hL
      have hcs := hF.cs
      have hin' := hF.child hcp hin
      have hcm : c ∈ t.cs := by rw [hcs]; simp
      have h2 : ∀ k, t.ow k + fp d c k ≤ 1 := fun k => by have h3 := h1 k; have h4 := fpL_mem (f := fp d) hcm k; simp only [fp] at h3; omega
      have hctb : fp d c tb = 0 := by have := fpL_mem (f := fp d) hcm tb; simp only [fp] at htb; omega
      have hbB : ∀ lo hi c, inv o d (lst o d) o lo hi c → ltB lo hi := fun _ _ _ h => inv_ltB h
      have hgG : ∀ lo hi c, inv o d (lst o d) o lo hi c → ∀ e ∈ flat d c, inR lo hi e.1 := fun _ _ _ h => (flat_facts h).1
      have hA : ∀ e ∈ (L.map (·.1)).flatMap (flat d), ltS e.1 key = true := fun e he => by
        obtain ⟨y, rfl, hy⟩ := seg_below hbB hgG hF.l e he
        exact ltS_lt_le hy (hin'.1 y rfl)
      have hBb : ∀ e ∈ (R.map (·.2)).flatMap (flat d), ltS key e.1 = true := fun e he => by
        obtain ⟨y, rfl, hy⟩ := rseg_above hbB hgG hF.r e he
        exact ltS_lt_le (hin'.2 y rfl) hy
      have hfl : flat (d + 1) t = (L.map (·.1)).flatMap (flat d) ++ flat d c ++ (R.map (·.2)).flatMap (flat d) := by
        show t.cs.flatMap (flat d) = _
        rw [hcs]; simp
      have hl1 : 1 ≤ lst o d := by cases d <;> simp only [lst] <;> omega
      refine ⟨c.p, by rw [List.getElem?_map, hF.kid]; rfl, (ih (hm.2.2 c hcm) (fun k => by have := h2 k; omega) hctb hF.c (Nat.le_refl _) (fun _ => hl1) hin' ho).mono ?_⟩
      rintro e w1 ⟨rfl, c1, hp1, hm1, hf1, hi1, hfl1⟩
      obtain ⟨hn1, hk1, hfr1⟩ := swap (M := [c1]) hm hcs h1 (hf1.congr (fun _ => rfl) (fun k => by simp [fpL])) (fun y hy => by rw [List.mem_singleton.1 hy]; exact hm1)
      have e1 : t.cs.map Tr.p = ((L.map fun y : Tr × ByteArray => y.1) ++ c1 :: (R.map fun y : ByteArray × Tr => y.2)).map Tr.p := by rw [hcs]; simp [hp1]
      rw [e1] at hn1
      have e2 : ∀ (x : List Tr) y z, x ++ [y] ++ z = x ++ y :: z := fun x y z => by simp
      rw [e2] at hk1
      have hfr1' : Fr (fp (d + 1) t) (fp (d + 1) (.mk t.p t.v1 t.v2 t.v3 t.ks [] ((L.map fun y : Tr × ByteArray => y.1) ++ c1 :: (R.map fun y : ByteArray × Tr => y.2)))) w w1 := hfr1.congr (fun _ => rfl) (fun k => by rw [e2]; rfl)
      refine ⟨_, rfl, (mend_any (d := d) (T := .mk t.p t.v1 t.v2 t.v3 t.ks [] ((L.map fun y : Tr × ByteArray => y.1) ++ c1 :: (R.map fun y : ByteArray × Tr => y.2))) ho3 ho2 ⟨hn1, rfl, hk1⟩ hfr1'.one hF.ks rfl hF.l hi1 hF.r ⟨by simp; omega, by simp; omega⟩ (hf1.cell ho hctb)).mono ?_⟩
      rintro e w2 ⟨rfl, T', hp, hm2, hf2, hF2, hs1, hs2, hfl2⟩
      refine ⟨rfl, by rw [hfl, hasF_mid hA hBb], T', hp, hm2, hfr1'.trans hf2, ⟨hF2, ?_, ?_⟩, ?_⟩
      · simp only [Tr.mk_ks] at hs1; omega
      · simp only [Tr.mk_ks] at hs2; omega
      · rw [hfl2, hfl, delF_mid hA hBb, ← hfl1]
        show ((L.map (·.1)) ++ c1 :: (R.map (·.2))).flatMap (flat d) = _
        simp
    · rintro e w' ⟨was, rfl, rfl, h⟩
      exact ⟨rfl, h⟩
end Go.Proofs.Ytjoopjmcnkiieaa

/- Maps whose elements are whatever values, as functions from keys; made, asked, written, gone over. Conditions: none. -/
namespace Go.Proofs.Ytjoopjmcnkiieaa
open Go.RowKit Go.ChangeMaps Go.Maps

/-- A kind of keys: what they are in Go, what they are read as, which there are. -/
structure KeyKind (P : Program) (k : TypeId) (α : Type) where
  val : α → Value
  lit : α → Lit
  ok : α → Prop
  law : Keyed P k
  key : ∀ x, ok x → keyOf P k (val x) = some (lit x)
  inj : ∀ x y, lit x = lit y → x = y
  inv : ∀ v kl, keyOf P k v = some kl → ∃ x, ok x ∧ v = val x ∧ kl = lit x
def intKind {P : Program} {k : TypeId} {q : IntKind} (hk : P.underlying k = some (.int q)) : KeyKind P k Int where
  val := .int q
  lit := .int q
  ok x := (Lit.int q x).wf = true
  law := int_keyed hk
  key _ h := keyOf_int_mk hk h
  inj _ _ h := by injection h
  inv v kl h := by
    obtain ⟨x, h1, h2, h3⟩ := Maps.keyOf_int_inv hk h
    exact ⟨x, h3, h1, h2⟩

def rawElem (v : Value) : Option (DataW Value × List MemPlace) := some (.held v, [])

/-- What a reading of a map says, as a function from its keys. -/
def Agrees {P : Program} {k : TypeId} {α : Type} (K : KeyKind P k α) (D : DataW Value) (g : α → Option Value) : Prop :=
  ∀ x, K.ok x → Maps.has D (K.lit x) = (g x).isSome ∧ ∀ v, g x = some v → ∀ z, D.atKey (K.lit x) z = .held v

/-- Block b is a map of at most n entries; at each key it holds what g says. -/
def MapIs (w : World) {P : Program} {k : TypeId} {α : Type} (K : KeyKind P k α) (b n : Nat) (g : α → Option Value) : Prop :=
  ∃ D : DataW Value, w.ownsMap P k rawElem b n D ∧ Agrees K D g

section
variable {P : Program} {k : TypeId} {α : Type} {K : KeyKind P k α} {w : World} {b n : Nat} {g : α → Option Value}

theorem MapIs.lt (h : MapIs w K b n g) : b < w.heap.size := by obtain ⟨D, h1, _⟩ := h; exact h1.lt
theorem MapIs.of_heap {w' : World} (h : MapIs w K b n g) (hh : w'.heap[b]? = w.heap[b]?) : MapIs w' K b n g := by
  obtain ⟨D, ⟨es, clock, hb, r⟩, h2⟩ := h
  exact ⟨D, ⟨es, clock, hh.trans hb, r⟩, h2⟩
theorem MapIs.mono {n' : Nat} (h : MapIs w K b n g) (hn : n ≤ n') : MapIs w K b n' g := by obtain ⟨D, h1, h2⟩ := h; exact ⟨D, h1.mono hn, h2⟩
theorem MapIs.congr {g' : α → Option Value} (h : MapIs w K b n g) (hg : ∀ x, K.ok x → g' x = g x) : MapIs w K b n g' := by
  obtain ⟨D, h1, h2⟩ := h
  exact ⟨D, h1, fun x hx => by rw [hg x hx]; exact h2 x hx⟩
theorem MapIs.made (w : World) (K : KeyKind P k α) : MapIs (w.alloc (.map #[] 0)) K w.heap.size 0 (fun _ => none) :=
  ⟨.map [], World.ownsMap_made w P k rawElem, fun x _ => ⟨rfl, fun v h => by cases h⟩⟩

/-- 'm[k]'. -/
theorem MapIs.lookup {t e : TypeId} (h : MapIs w K b n g) (ht : P.underlying t = some (.map k e)) {z : Value} (hz : (zeroValue e).run P w = .ok z w) {x : α} (hx : K.ok x) :
    (Instr.lookup t (.map (some b)) (K.val x) false).run P w = .ok ((g x).getD z) w := by
  obtain ⟨D, h1, h2⟩ := h
  obtain ⟨v, ps, hrun, hv⟩ := h1.lookup K.law ht hz (zd := .held z) (zp := []) rfl (K.key x hx)
  obtain ⟨h3, h4⟩ := h2 x hx
  simp only [rawElem, Option.some.injEq, Prod.mk.injEq] at hv
  rw [hrun]
  cases hg : g x with
  | none =>
    rw [hg] at h3
    rw [Maps.atKey_of_not_has h3] at hv
    injection hv.1 with hv1; rw [hv1]; rfl
  | some u =>
    rw [h4 u hg] at hv
    injection hv.1 with hv1; rw [hv1]; rfl
/-- 'v, ok := m[k]'. -/
theorem MapIs.lookup_ok {t e : TypeId} (h : MapIs w K b n g) (ht : P.underlying t = some (.map k e)) {z : Value} (hz : (zeroValue e).run P w = .ok z w) {x : α} (hx : K.ok x) :
    (Instr.lookup t (.map (some b)) (K.val x) true).run P w = .ok (.tuple #[(g x).getD z, .bool (g x).isSome]) w := by
  obtain ⟨D, h1, h2⟩ := h
  obtain ⟨v, ps, hrun, hv⟩ := h1.look_ok K.law ht hz (zd := .held z) (zp := []) rfl (K.key x hx)
  obtain ⟨h3, h4⟩ := h2 x hx
  simp only [rawElem, Option.some.injEq, Prod.mk.injEq] at hv
  rw [hrun, h3]
  cases hg : g x with
  | none =>
    rw [hg] at h3
    rw [Maps.atKey_of_not_has h3] at hv
    injection hv.1 with hv1; rw [hv1]; rfl
  | some u =>
    rw [h4 u hg] at hv
    injection hv.1 with hv1; rw [hv1]; rfl

theorem Agrees.put {D : DataW Value} (hD : IsMap D) (h : Agrees K D g) [DecidableEq α] {x : α} (hx : K.ok x) (v : Value) : Agrees K (D.put (K.lit x) (.held v)) (fun y => if y = x then some v else g y) := by
  have hkl : WideAt.IsKeyLit (K.lit x) := K.law.key (K.key x hx)
  intro y hy
  by_cases e : y = x
  · subst e
    refine ⟨by rw [has_put_same hD hkl]; simp, fun u hu z => ?_⟩
    simp at hu; subst hu
    exact atKey_put_same hD hkl _ z
  · have hne : K.lit y ≠ K.lit x := fun h => e (K.inj _ _ h)
    simp only [e, if_false]
    obtain ⟨h1, h2⟩ := h y hy
    exact ⟨by rw [has_put_other hne]; exact h1, fun u hu z => by rw [atKey_put_other hne]; exact h2 u hu z⟩
theorem Agrees.del {D : DataW Value} (h : Agrees K D g) [DecidableEq α] {x : α} : Agrees K (D.del (K.lit x)) (fun y => if y = x then none else g y) := by
  intro y hy
  by_cases e : y = x
  · subst e
    refine ⟨by rw [has_del_same]; simp, fun u hu z => ?_⟩
    simp at hu
  · have hne : K.lit y ≠ K.lit x := fun h => e (K.inj _ _ h)
    simp only [e, if_false]
    obtain ⟨h1, h2⟩ := h y hy
    exact ⟨by rw [has_del_other hne]; exact h1, fun u hu z => by rw [atKey_del_other hne]; exact h2 u hu z⟩

/-- 'm[k] = v'. -/
theorem MapIs.update [DecidableEq α] {t e : TypeId} (h : MapIs w K b n g) (ht : P.underlying t = some (.map k e)) (hn : n < maxLen) {x : α} (hx : K.ok x) (v : Value) :
    ∃ w', (Instr.mapUpdate t (.map (some b)) (K.val x) v).run P w = .ok () w' ∧ MapIs w' K b (n + 1) (fun y => if y = x then some v else g y) ∧ w.grownBy w' (some b) ∧ w'.heap.size = w.heap.size := by
  obtain ⟨D, h1, h2⟩ := h
  obtain ⟨w', hrun, h3, h4⟩ := h1.store K.law ht hn (K.key x hx) (val := v) (d := .held v) (ps := []) rfl
  refine ⟨w', hrun, ⟨_, h3, h2.put h1.isMap hx v⟩, h4.grown, ?_⟩
  obtain ⟨_, _, _, _, _, rfl⟩ := h4
  simp [setBlock]
/-- 'delete(m, k)'. -/
theorem MapIs.delete [DecidableEq α] {t e : TypeId} (h : MapIs w K b n g) (ht : P.underlying t = some (.map k e)) {x : α} (hx : K.ok x) (ty : TypeId) :
    ∃ w', (Builtin.delete_ #[t, k] ty #[.map (some b), K.val x]).run P w = .ok (.tuple #[]) w' ∧ MapIs w' K b n (fun y => if y = x then none else g y) ∧ w.grownBy w' (some b) ∧ w'.heap.size = w.heap.size := by
  obtain ⟨D, h1, h2⟩ := h
  obtain ⟨w', hrun, h3, h4⟩ := h1.drop K.law ht (K.key x hx) ty
  refine ⟨w', hrun, ⟨_, h3, h2.del⟩, h4.grown, ?_⟩
  obtain ⟨_, _, _, _, _, rfl⟩ := h4
  simp [setBlock]

/-- A loop over the map is under way: left says which keys are still to come, cnt how many. -/
def MapGoes (w : World) {P : Program} {k : TypeId} {α : Type} (K : KeyKind P k α) (b r n : Nat) (g : α → Option Value) (left : α → Bool) (cnt : Nat) : Prop :=
  ∃ (D : DataW Value) (l : Lit → Bool), w.ranges P k rawElem b r n D l cnt ∧ Agrees K D g ∧ ∀ x, K.ok x → l (K.lit x) = left x
theorem MapGoes.is {r : Nat} {left : α → Bool} {cnt : Nat} (h : MapGoes w K b r n g left cnt) : MapIs w K b n g := by
  obtain ⟨D, l, h1, h2, _⟩ := h; exact ⟨D, h1.owns, h2⟩
theorem MapGoes.left_eq {r : Nat} {left : α → Bool} {cnt : Nat} (h : MapGoes w K b r n g left cnt) : w.rangeLeft b r = cnt := by
  obtain ⟨D, l, h1, h2, _⟩ := h; exact h1.left_eq
theorem MapGoes.ne {r : Nat} {left : α → Bool} {cnt : Nat} (h : MapGoes w K b r n g left cnt) : r ≠ b := by
  obtain ⟨D, l, h1, h2, _⟩ := h; exact h1.ne
theorem MapGoes.lt {r : Nat} {left : α → Bool} {cnt : Nat} (h : MapGoes w K b r n g left cnt) : r < w.heap.size := by
  obtain ⟨D, l, h1, h2, _⟩ := h; exact h1.lt
theorem MapGoes.kept {r : Nat} {left : α → Bool} {cnt : Nat} {w' : World} {row : Option Nat} (h : MapGoes w K b r n g left cnt) (hg : w.grownBy w' row) (hb : some b ≠ row) (hr : some r ≠ row) : MapGoes w' K b r n g left cnt := by
  obtain ⟨D, l, h1, h2, h3⟩ := h; exact ⟨D, l, h1.kept hg hb hr, h2, h3⟩
theorem MapGoes.drewN {r : Nat} {left : α → Bool} {cnt : Nat} (h : MapGoes w K b r n g left cnt) (m : Nat) : MapGoes (w.drewN m) K b r n g left cnt := by
  obtain ⟨D, l, h1, h2, h3⟩ := h; exact ⟨D, l, h1, h2, h3⟩

theorem agrees_at {D : DataW Value} (h : Agrees K D g) {x : α} (hx : K.ok x) {c : Value} (hat : ∀ z, D.atKey (K.lit x) z = .held c) : g x = some c := by
  obtain ⟨h1, h2⟩ := h x hx
  rw [has_true_of_atKey hat] at h1
  cases hg : g x with
  | none => rw [hg] at h1; cases h1
  | some u =>
    have := h2 u hg .nil
    rw [hat .nil] at this
    injection this with this; rw [this]

end
section
variable {P : Program} (w : World) {ops : Array Oper} {rest : List Oper} {o : Oper} {a : Act} {Q : Exit → Act → World → Prop} {α : Type}

theorem wpList_mapUpdate_is [DecidableEq α] (hg : o.guard = none) (m x v : Operand) (t : TypeId) (hop : o.op = Op.mapUpdate t m x v)
    (k e : TypeId) (K : KeyKind P k α) (ht : P.underlying t = some (.map k e)) (b n : Nat) (g : α → Option Value)
    (hm : a.eval m = .map (some b)) (hown : MapIs w K b n g) (hn : n < maxLen) (key : α) (val : Value) (hx : a.eval x = K.val key) (hv : a.eval v = val) (hkey : K.ok key)
    (hK : ∀ w', MapIs w' K b (n + 1) (fun y => if y = key then some val else g y) → w.grownBy w' (some b) → w'.heap.size = w.heap.size → wpList P ops Q rest (a.put o.dst undef) w') :
    wpList P ops Q (o :: rest) a w := by
  refine wpList_plain hg fun K' hK' => ?_
  obtain ⟨w', hrun, r1, r2, r3⟩ := hown.update ht hn hkey val
  unfold Oper.wp
  simp [execOp, hop, hm, hx, hv, hrun, Result.andThen]
  exact hK' _ _ (hK w' r1 r2 r3)

theorem wpList_delete_is [DecidableEq α] (hg : o.guard = none) (m x : Operand) (t k : TypeId) (hop : o.op = Op.call { callee := Callee.builtin Builtin.delete, args := #[m, x], argTypes := #[t, k] })
    (e : TypeId) (K : KeyKind P k α) (ht : P.underlying t = some (.map k e)) (b n : Nat) (g : α → Option Value)
    (hm : a.eval m = .map (some b)) (hown : MapIs w K b n g) (key : α) (hx : a.eval x = K.val key) (hkey : K.ok key)
    (hK : ∀ w', MapIs w' K b n (fun y => if y = key then none else g y) → w.grownBy w' (some b) → w'.heap.size = w.heap.size → wpList P ops Q rest (a.put o.dst (.tuple #[])) w') :
    wpList P ops Q (o :: rest) a w := by
  refine wpList_plain hg fun K' hK' => ?_
  obtain ⟨w', hrun, r1, r2, r3⟩ := hown.delete ht hkey o.type
  unfold Oper.wp
  simp [execOp, hop, resolve, invoke, builtin, hm, hx, hrun, Result.andThen]
  exact hK' _ _ (hK w' r1 r2 r3)

theorem wpList_lookup_is (hg : o.guard = none) (m x : Operand) (t : TypeId) (hop : o.op = Op.lookup t m x false)
    (k e : TypeId) (K : KeyKind P k α) (ht : P.underlying t = some (.map k e)) {z : Value} (hz : (zeroValue e).run P w = .ok z w) (b n : Nat) (g : α → Option Value)
    (hm : a.eval m = .map (some b)) (hown : MapIs w K b n g) (key : α) (hx : a.eval x = K.val key) (hkey : K.ok key) (v : Value) (hv : (g key).getD z = v)
    (hK : wpList P ops Q rest (a.put o.dst v) w) : wpList P ops Q (o :: rest) a w := by
  refine wpList_plain hg fun K' hK' => ?_
  have hrun := hown.lookup ht hz hkey
  rw [hv] at hrun
  unfold Oper.wp
  simp [execOp, hop, hm, hx, hrun, Result.andThen]
  exact hK' _ _ hK

theorem wpList_range_is (hg : o.guard = none) (m : Operand) (t : TypeId) (hop : o.op = Op.range t m) (k e : TypeId) (K : KeyKind P k α) (ht : P.underlying t = some (.map k e)) (b n : Nat) (g : α → Option Value)
    (hm : a.eval m = .map (some b)) (hown : MapIs w K b n g)
    (hK : ∀ w' cnt, MapGoes w' K b w.heap.size n g (fun x => (g x).isSome) cnt → w.grownBy w' none → w'.heap.size = w.heap.size + 1 → wpList P ops Q rest (a.put o.dst (.pointer (some ⟨w.heap.size, 0, none⟩))) w') :
    wpList P ops Q (o :: rest) a w := by
  obtain ⟨D, h1, h2⟩ := hown
  exact wpList_range_own w hg m t hop k e K.law ht rawElem b n D hm h1 fun w' r1 r2 r3 => hK w' _ ⟨D, _, r1, h2, fun x hx => (h2 x hx).1⟩ r2 r3

theorem wpList_next_is [DecidableEq α] (hg : o.guard = none) (it : Operand) (hop : o.op = Op.next it false) (k : TypeId) (K : KeyKind P k α) (b r n : Nat) (g : α → Option Value) (left : α → Bool) (cnt : Nat)
    (hit : a.eval it = .pointer (some ⟨r, 0, none⟩)) (h : MapGoes w K b r n g left cnt)
    (hDone : (∀ x, K.ok x → left x = false) → wpList P ops Q rest (a.put o.dst (.tuple #[.bool false])) w)
    (hMore : ∀ (x : α) (c : Value) (w' : World) (cnt' : Nat), K.ok x → left x = true → g x = some c → MapGoes w' K b r n g (fun y => left y && !decide (y = x)) cnt' → cnt' < cnt →
      w.grownBy w' (some r) → w'.heap.size = w.heap.size → (Instr.entry (.pointer (some ⟨r, 0, none⟩))).run P w' = .ok (.tuple #[K.val x, c]) w' → wpList P ops Q rest (a.put o.dst (.tuple #[.bool true, K.val x, c])) w') :
    wpList P ops Q (o :: rest) a w := by
  obtain ⟨D, l, h1, h2, h3⟩ := h
  refine wpList_next_ranges w hg it hop k K.law rawElem K.val (id : Value → Value) (fun key kl hkey => by obtain ⟨x, _, rfl, _⟩ := K.inv key kl hkey; exact ⟨x, rfl⟩) (fun v y _ => ⟨v, rfl⟩)
    b r n D l cnt hit h1 (fun _ hl => hDone fun x hx => by rw [← h3 x hx]; exact hl _) (fun x c kl y w' cnt' hkey hlk hv hat hrg hlt hgr hsz hen => ?_)
  obtain ⟨x', hok, hmk, rfl⟩ := K.inv _ _ hkey
  have hkx := K.key x' hok
  simp only [rawElem, Option.some.injEq] at hv
  subst hv
  rw [hmk] at hen ⊢
  refine hMore x' c w' cnt' hok (by rw [← h3 x' hok]; exact hlk) (agrees_at h2 hok hat) ⟨D, _, hrg, h2, fun u hu => ?_⟩ hlt hgr hsz hen
  rw [h3 u hu]
  congr 2
  by_cases e : u = x'
  · subst e; simp [WideAt.sameKey_self (K.law.key hkx)]
  · have : (K.lit u).sameKey (K.lit x') = false := Maps.sameKey_ne (fun h => e (K.inj _ _ h))
    rw [this]; simp [e]
end
end Go.Proofs.Ytjoopjmcnkiieaa

/- The tree as an object; its stamps. Conditions: none. -/
namespace Go.Proofs.Ytjoopjmcnkiieaa
open Go.RowKit Go.Lib Go.Maps
set_option linter.unusedSimpArgs false
set_option linter.unusedVariables false

/-- Strings as keys. -/
noncomputable def strKind {P : Program} {k : TypeId} (hk : P.underlying k = some .string) : KeyKind P k ByteArray where
  val := .string
  lit s := .string s.data.toList
  ok s := s.size ≤ maxLen
  law := string_keyed hk
  key _ h := WideMaps.keyOf_string_mk hk h
  inj x y h := by
    injection h with h
    cases x; cases y
    simp only [Array.toList_inj] at h
    rw [h]
  inv v kl h := by
    obtain ⟨s, h1, h2, h3⟩ := WideMaps.string_of_keyOf hk h
    exact ⟨s, h3, h1, h2⟩
/-- The number of the last change of a key; H: the changes' keys, the newest ahead. -/
def lastAt : List ByteArray → ByteArray → Option Nat
  | [], _ => none
  | c :: r, y => if y = c then some (r.length + 1) else lastAt r y
def rt : Nat → Nat
  | 0 => 0
  | _ + 1 => 1
theorem Try.strU : Try.prog.underlying 9 = some .string := by kernel_rfl
noncomputable def KS : KeyKind Try.prog 9 ByteArray := strKind Try.strU
/-- A tree, what it holds, its changes. -/
def IsTree (w : World) (o tb : Nat) (F : Nat → Nat) (l : List (ByteArray × Int)) (H : List ByteArray) : Prop :=
  ∃ (d : Nat) (t : Tr) (mb : Nat), Block w tb [.int .i64 o, .pointer (some ⟨t.p, 0, none⟩), .int .i64 l.length, .int .i64 H.length, .map (some mb)] 64 ∧
    mem d w t ∧ inv o d (rt d) o none none t ∧ flat d t = l ∧ MapIs w KS mb H.length (fun y => (lastAt H y).map fun n => numV n) ∧
    (∀ k, F k = fp d t k + ((if k = tb then 1 else 0) + (if k = mb then 1 else 0))) ∧ ∀ k, F k ≤ 1
theorem IsTree.hi {w : World} {o tb : Nat} {F : Nat → Nat} {l : List (ByteArray × Int)} {H : List ByteArray} (h : IsTree w o tb F l H) (k : Nat) (hk : w.heap.size ≤ k) : F k = 0 := by
  obtain ⟨d, t, mb, hb, hm, _, _, hmap, hF, _⟩ := h
  have h1 := hb.lt
  have h2 := hmap.lt
  rw [hF, mem_hi hm k hk, if_neg (by omega), if_neg (by omega)]
theorem IsTree.frame {w w' : World} {o tb : Nat} {F G G' : Nat → Nat} {l : List (ByteArray × Int)} {H : List ByteArray} (h : IsTree w o tb F l H) (hf : Fr G G' w w') (hd : ∀ k, G k + F k ≤ 1) : IsTree w' o tb F l H := by
  obtain ⟨d, t, mb, hb, hm, hv, hl, hmap, hF, h1⟩ := h
  have hblk : ∀ k, k < w.heap.size → 0 < F k → w'.heap[k]? = w.heap[k]? := fun k hk hp => hf.block k hk (by have := hd k; omega)
  refine ⟨d, t, mb, hb.of_heap (hblk tb hb.lt (by rw [hF, if_pos rfl]; omega)), mem_frame hm hf (fun k => by have := hd k; rw [hF] at this; omega), hv, hl, hmap.of_heap (hblk mb hmap.lt (by rw [hF, if_pos (rfl : mb = mb)]; omega)), hF, h1⟩
end Go.Proofs.Ytjoopjmcnkiieaa

/- walk at a fork, over what walk does at its kids. Conditions: the fork is there, its keys rise. -/
namespace Go.Proofs.Ytjoopjmcnkiieaa
open Go.RowKit Go.Lib Go.Shelf
set_option linter.unusedSimpArgs false
set_option linter.unusedVariables false
attribute [local go_sem] Oper.semAt_some

section
variable {α : Type} {q : Nat → List α}
def cat (q : Nat → List α) (i : Nat) : List α := (List.range i).flatMap q
theorem cat_succ (i : Nat) : cat q (i + 1) = cat q i ++ q i := by simp [cat, List.range_succ]
theorem cat_prefix {i m : Nat} (h : i ≤ m) : cat q i <+: cat q m := by
  induction m with
  | zero => have : i = 0 := by omega
            subst this; exact List.prefix_rfl
  | succ m ih =>
    rcases Nat.lt_or_ge i (m + 1) with h1 | h1
    · rw [cat_succ]; exact (ih (by omega)).trans (List.prefix_append _ _)
    · have : i = m + 1 := by omega
      subst this; exact List.prefix_rfl
theorem cat_none {i : Nat} (h : ∀ j, j < i → q j = []) : cat q i = [] := by
  induction i with
  | zero => rfl
  | succ i ih => rw [cat_succ, ih (fun j hj => h j (by omega)), h i (by omega)]; rfl
theorem cat_tail {i m : Nat} (h : i ≤ m) (h0 : ∀ j, i ≤ j → q j = []) : cat q m = cat q i := by
  induction m with
  | zero => have : i = 0 := by omega
            subst this; rfl
  | succ m ih =>
    rcases Nat.lt_or_ge i (m + 1) with h1 | h1
    · rw [cat_succ, ih (by omega), h0 m (by omega), List.append_nil]
    · have : i = m + 1 := by omega
      subst this; rfl
end
set_option maxRecDepth 100000 in
set_option maxHeartbeats 16000000 in
theorem walk_fork {l n₀ N : Nat} {J Jx : List (ByteArray × Int) → World → Prop} {n p : Nat} {v1 v2 v3 : Value} {K : List ByteArray} {C : List Nat} (a b : ByteArray) (pre : List (ByteArray × Int)) {W : World} (h : NodeAt W p v1 v2 v3 K [] C)
    (hn0 : ∀ k, 0 < ow p v1 v2 v3 k → k < n₀) (hs : SortedS K) (hl : K.length ≤ 1000) (hC : C.length = K.length + 1) (q : Nat → List (ByteArray × Int))
    (hlow : ∀ c, ChildP K a c → ∀ i, i < c → q i = []) (hhigh : ∀ (j : Nat) k, b.toList.isEmpty = false → K[j]? = some k → ltS k b = false → ∀ i, j < i → q i = [])
    (hkid : ∀ m (i : Nat) pk W' pre', C[i]? = some pk → Below n₀ W W' → J pre' W' → pre'.length + (q i).length ≤ N → CallsIn Fence.wide m Try.prog 29 #[.pointer (some ⟨pk, 0, none⟩), .string a, .string b, .func (.yield l) #[] #[]] W' (WalkP n₀ J Jx pre' (q i) W'))
    (hJ : J pre W) (hN : pre.length + (cat q C.length).length ≤ N) :
    CallsIn Fence.wide n Try.prog 29 #[.pointer (some ⟨p, 0, none⟩), .string a, .string b, .func (.yield l) #[] #[]] W (WalkP n₀ J Jx pre (cat q C.length) W) := by
  obtain ⟨Q, hQ⟩ : ∃ Q, WalkP n₀ J Jx pre (cat q C.length) W = Q := ⟨_, rfl⟩
  have HQ := Lib.hid hQ
  rw [hQ]
  have HL0 := leaf_any h
  rw [show C.isEmpty = false from by cases C with | nil => simp at hC | cons _ _ => rfl] at HL0
  have HL := Lib.hid HL0
  have HCH := Lib.hid (child_any h a hs (by omega))
  obtain ⟨a1, c1, _, _, a3, c3, rfl, _, rfl, l1, _, l3, m1, _, m3⟩ := h.forms
  have HH := Lib.hid h
  have HN0 := Lib.hid hn0
  have HLO := Lib.hid hlow
  have HHI := Lib.hid hhigh
  have HK := Lib.hid hkid
  have HJ := Lib.hid hJ
  have HN := Lib.hid hN
  obtain ⟨m, hm⟩ : ∃ m, C.length = m := ⟨_, rfl⟩
  have HM := Lib.hid hm
  rw [hm] at HN HQ
  have HKM : Hid (K.length + 1 = m) := Lib.hid (by omega)
  have hm64 : m ≤ 1001 := by omega
  clear hQ h hn0 hs hl hC hlow hhigh hkid hJ hN l1 l3 m1 m3 hm HL0
  refine callsIn_of_wp Try.func29 rfl trivial ?_ rfl
  simp only [Try.ntmps29, List.size_toArray, List.length_cons, List.length_nil, Nat.reduceAdd, Nat.reduceSub, Array.replicate_succ, Array.replicate_zero, List.push_toArray, List.append_toArray, List.nil_append, List.cons_append]
  gi_wp2_with (first
    | ((try refine ⟨trivial, (fun h => by cases h), ?_⟩); gi_at_call 38; refine (callsIn_wide.2 HL.out).mono ?_; clear HL; rintro e w' ⟨rfl, rfl⟩)
    | ((try refine ⟨trivial, (fun h => by cases h), ?_⟩); gi_at_call 39; refine (callsIn_wide.2 HCH.out).mono ?_; clear HCH; rintro e w' ⟨c, rfl, hcp, rfl⟩))
  have HCP := Lib.hid hcp
  have hcm : c < m := by have := hcp.1; have := HKM.out; omega
  clear hcp
  gi_loopw [11] (fun iv wr => ∃ i : Nat, iv = .int .i64 i ∧ i ≤ m ∧ Hid (WalkAt n₀ J (pre ++ cat q i) W wr)) (fun iv _ => m - (intOf iv).toNat)
  case atStart => exact ⟨c, rfl, by omega, Lib.hid ⟨by rw [cat_none (HLO.out c HCP.out), List.append_nil]; exact HJ.out, Below.refl _ _⟩⟩
  case round =>
    clear hcm HCP
    obtain ⟨i, rfl, hi, HR⟩ := hrel
    have hnr := HH.out.below HN0.out HR.out.b
    have d2 := hnr.cells.2.2.1
    rw [HM.out] at d2
    by_cases him : i < m
    · have him' : (i : Int) < m := by omega
      have hi0 : (0 : Int) ≤ i := by omega
      obtain ⟨pk, hk⟩ : ∃ pk, C[i]? = some pk := get_some (by have := HM.out; omega)
      obtain ⟨g3, rfl, ki, _⟩ := hnr.kid hk
      have hj1 : IntKind.i64.wrap ((i : Int) + 1) = (i : Int) + 1 := IntWalk.i64_in _ (by omega)
      have HC1 := Lib.hid (HK.out (n - 1) i pk wr (pre ++ cat q i) hk HR.out.b HR.out.j (by
        have h1 := HN.out
        have h2 := (cat_prefix (q := q) (i := i + 1) (m := m) (by omega)).length_le
        rw [cat_succ] at h2
        simp at h1 h2 ⊢; omega))
      have HNX : Hid (∀ W', J (pre ++ cat q i ++ q i) W' → Below n₀ wr W' → WalkAt n₀ J (pre ++ cat q (i + 1)) W W') := Lib.hid (fun W' hj hb => ⟨by rw [cat_succ, ← List.append_assoc]; exact hj, HR.out.b.trans hb⟩)
      have HEX : Hid (∀ W' q', q' <+: q i → Jx (pre ++ cat q i ++ q') W' → Q (.returned (.bool false)) W') := Lib.hid (fun W' q' hp hx => by
        rw [← HQ.out]
        refine .inr ⟨rfl, cat q i ++ q', ?_, by rw [← List.append_assoc]; exact hx⟩
        refine List.IsPrefix.trans ?_ (cat_prefix (q := q) (i := i + 1) (m := m) (by omega))
        rw [cat_succ]
        exact (List.prefix_append_right_inj _).2 hp)
      have HST : Hid (∀ j k, i = j + 1 → b.toList.isEmpty = false → K[j]? = some k → ltS k b = false → Q (.returned (.bool true)) wr) := Lib.hid (fun j k hij hb hk hlt => by
        rw [← HQ.out]
        refine .inl ⟨rfl, ?_, HR.out.b⟩
        rw [cat_tail (q := q) (i := i) (m := m) (by omega) (fun x hx => HHI.out j k hb hk hlt x (by omega))]
        exact HR.out.j)
      clear hk hi
      rcases Nat.eq_zero_or_pos i with hz | hz
      · subst hz
        clear hnr HST
        gi_wp2_with ((try refine ⟨trivial, (fun h => by cases h), ?_⟩); gi_at_call 29; refine HC1.out.mono ?_; clear HC1; rintro e W' (⟨rfl, hJ', hb'⟩ | ⟨rfl, q', hp, hx'⟩))
        · have HW := Lib.hid (HNX.out W' hJ' hb')
          go_roundw
          case rel => exact ⟨1, rfl, by omega, Lib.hid HW.out⟩
          case measure => simp [intOf]; omega
        · exact HEX.out W' q' hp hx'
      · obtain ⟨j, hij⟩ : ∃ j, i = j + 1 := ⟨i - 1, by omega⟩
        have HIJ := Lib.hid hij
        have hi0' : 0 < i := hz
        have hj0 : (0 : Int) ≤ j := by omega
        have hwm : IntKind.i64.wrap ((i : Int) - 1) = (j : Int) := by rw [IntWalk.i64_in _ (by omega)]; omega
        cases hb : b.toList.isEmpty with
        | true =>
          have h3 : b.toList = [] := by simpa using hb
          clear hnr HST hij hz hwm
          gi_wp2_with ((try refine ⟨trivial, (fun h => by cases h), ?_⟩); gi_at_call 29; refine HC1.out.mono ?_; clear HC1; rintro e W' (⟨rfl, hJ', hb'⟩ | ⟨rfl, q', hp, hx'⟩))
          · have HW := Lib.hid (HNX.out W' hJ' hb')
            go_roundw
            case rel => exact ⟨i + 1, by go_num, by omega, Lib.hid HW.out⟩
            case measure => simp [intOf]; omega
          · exact HEX.out W' q' hp hx'
        | false =>
          have h3 : ¬ b.toList = [] := by simpa using hb
          obtain ⟨k, hkk⟩ : ∃ k, K[j]? = some k := get_some (by have := HKM.out; omega)
          have HKK := Lib.hid hkk
          have hjK : (j : Int) < K.length := by have := HKM.out; omega
          obtain ⟨g1, rfl, k1, _⟩ := hnr.key hkk
          have d0 := hnr.cells.1
          have HB := Lib.hid hb
          clear hnr hij hz hkk
          cases hlt : ltS k b with
          | true =>
            unfold ltS at hlt
            clear HST
            gi_wp2_with ((try refine ⟨trivial, (fun h => by cases h), ?_⟩); gi_at_call 29; refine HC1.out.mono ?_; clear HC1; rintro e W' (⟨rfl, hJ', hb'⟩ | ⟨rfl, q', hp, hx'⟩))
            · have HW := Lib.hid (HNX.out W' hJ' hb')
              go_roundw
              case rel => exact ⟨i + 1, by go_num, by omega, Lib.hid HW.out⟩
              case measure => simp [intOf]; omega
            · exact HEX.out W' q' hp hx'
          | false =>
            have HFIN := Lib.hid (HST.out j k HIJ.out HB.out HKK.out hlt)
            unfold ltS at hlt
            clear HST
            gi_wp2
            exact HFIN.out
    · have him' : ¬ (i : Int) < m := by omega
      have hie : i = m := by omega
      have HFIN : Hid (Q (.returned (.bool true)) wr) := Lib.hid (by
        rw [← HQ.out]
        have hr := HR.out
        rw [hie] at hr
        exact .inl ⟨rfl, hr.j, hr.b⟩)
      clear hie hnr
      gi_wp2
      exact HFIN.out
end Go.Proofs.Ytjoopjmcnkiieaa

/- Scan: the pairs of a range, in order, handed on one by one. Conditions: the tree is there and as it must be. -/
namespace Go.Proofs.Ytjoopjmcnkiieaa
open Go.RowKit Go.Lib Go.Shelf
set_option linter.unusedSimpArgs false
set_option linter.unusedVariables false

theorem mem_below {d : Nat} : ∀ {n₀ : Nat} {w w' : World} {t : Tr}, mem d w t → (∀ k, 0 < fp d t k → k < n₀) → Below n₀ w w' → mem d w' t := by
  induction d with
  | zero => intro n₀ w w' t h hn hb; exact ⟨h.1.below (fun k hk => hn k hk) hb, h.2⟩
  | succ d ih =>
    intro n₀ w w' t h hn hb
    refine ⟨h.1.below (fun k hk => hn k (by simp only [fp, Tr.ow]; omega)) hb, h.2.1, fun c hc => ih (h.2.2 c hc) (fun k hk => hn k ?_) hb⟩
    have := fpL_mem (f := fp d) hc k
    simp only [fp]; omega
def kidQ {α β : Type} (f : α → List β) (l : List α) (i : Nat) : List β := match l[i]? with | some c => f c | none => []
theorem kidQ_some {α β : Type} {f : α → List β} {l : List α} {i : Nat} {c : α} (h : l[i]? = some c) : kidQ f l i = f c := by unfold kidQ; rw [h]
theorem cat_kids {α β : Type} (f : α → List β) (l : List α) : cat (kidQ f l) l.length = l.flatMap f := by
  have h : ∀ i, i ≤ l.length → cat (kidQ f l) i = (l.take i).flatMap f := by
    intro i
    induction i with
    | zero => intro _; rfl
    | succ i ih =>
      intro hi
      obtain ⟨c, hc⟩ : ∃ c, l[i]? = some c := get_some (by omega)
      rw [cat_succ, ih (by omega), kidQ_some hc, take_succ_some hc, List.flatMap_append]
      simp
  rw [h _ (Nat.le_refl _), List.take_length]
theorem part_flatMap {α : Type} (a b : ByteArray) (f : α → List (ByteArray × Int)) (l : List α) : part a b (l.flatMap f) = l.flatMap (fun c => part a b (f c)) := by
  unfold part
  rw [List.filter_flatMap]
theorem part_none {a b : ByteArray} {l : List (ByteArray × Int)} (h : ∀ e ∈ l, withinS e.1 a b = false) : part a b l = [] := filter_none h
theorem walk_any {o l n₀ N : Nat} {J Jx : List (ByteArray × Int) → World → Prop} (hY : Rounds l n₀ N J Jx) (ho2 : o ≤ 64) (a b : ByteArray) : ∀ {d x y : Nat} {lo hi : Option ByteArray} {t : Tr} (n : Nat) (pre : List (ByteArray × Int)) {W : World}, mem d W t → inv o d x y lo hi t → y ≤ o → (∀ k, 0 < fp d t k → k < n₀) → J pre W → pre.length + (part a b (flat d t)).length ≤ N →
    CallsIn Fence.wide n Try.prog 29 #[.pointer (some ⟨t.p, 0, none⟩), .string a, .string b, .func (.yield l) #[] #[]] W (WalkP n₀ J Jx pre (part a b (flat d t)) W) := by
  intro d
  induction d with
  | zero =>
    intro x y lo hi t n pre W hm hv hy hn hJ hN
    obtain ⟨hvs, hso, hks, hlh, _, hle⟩ := hv
    exact walk_leaf hY a b pre hm.1 (fun k hk => hn k hk) hvs (by omega) hJ hN
  | succ d ih =>
    intro x y lo hi t n pre W hm hv hy hn hJ hN
    have hfr := hv.1
    have hsz := inv_len hv
    have hlen := hfr.len
    have hfl : part a b (flat (d + 1) t) = cat (kidQ (fun c => part a b (flat d c)) t.cs) (t.cs.map Tr.p).length := by
      rw [List.length_map, cat_kids]
      exact part_flatMap a b (flat d) t.cs
    rw [hfl] at hN ⊢
    have hbB : ∀ lo hi c, inv o d (lst o d) o lo hi c → ltB lo hi := fun _ _ _ h => inv_ltB h
    have hgG : ∀ lo hi c, inv o d (lst o d) o lo hi c → ∀ e ∈ flat d c, inR lo hi e.1 := fun _ _ _ h => (flat_facts h).1
    refine walk_fork a b pre hm.1 (fun k hk => hn k (by simp only [fp, Tr.ow]; omega)) (inv_sorted hv) (by omega) (by rw [List.length_map]; exact hlen) _ ?_ ?_ ?_ hJ hN
    · intro c hcp i hic
      obtain ⟨L, c1, R, lo', hi', hL, hF⟩ := hfr.focus i (by have := hcp.1; omega)
      subst hL
      rw [kidQ_some hF.kid]
      refine part_none fun e he => ?_
      have h1 := (hgG _ _ _ hF.c e he).2
      have hks := hF.ks
      have hr := hF.r
      cases R with
      | nil =>
        have := hcp.1
        rw [hks] at this
        simp at this; omega
      | cons z r =>
        obtain ⟨rfl, _⟩ := hr
        have h2 := h1 _ rfl
        have h3 := hcp.2.1 L.length z.1 hic (by rw [hks, List.getElem?_append_right (by simp)]; simp)
        unfold withinS
        rw [show ltS e.1 a = true from ltS_lt_le h2 h3]
        rfl
    · intro j k hb hk hkb i hji
      obtain ⟨L, c1, R, lo', hi', hL, hF⟩ := hfr.focus (j + 1) (by have := (List.getElem?_eq_some_iff.1 hk).1; omega)
      have hlo : lo' = some k := by
        rcases List.eq_nil_or_concat L with rfl | ⟨L0, z, rfl⟩
        · simp at hL
        · rw [List.concat_eq_append] at hF hL
          obtain ⟨_, _, _, h3⟩ := seg_snoc.1 hF.l
          have hks := hF.ks
          rw [hks] at hk
          simp at hL
          rw [List.map_append, List.append_assoc, List.getElem?_append_right (by simp; omega)] at hk
          simp [hL] at hk
          rw [h3, hk]
      subst hlo
      unfold kidQ
      split
      · next c hc =>
        refine part_none fun e he => ?_
        have h1 : e ∈ flat d c1 ++ (R.map (·.2)).flatMap (flat d) := by
          rw [hF.cs, List.getElem?_append_right (by simp; omega)] at hc
          have h2 : c ∈ c1 :: R.map (·.2) := List.mem_of_getElem? hc
          have h3 : e ∈ (c1 :: R.map (·.2)).flatMap (flat d) := List.mem_flatMap.2 ⟨c, h2, he⟩
          rwa [List.flatMap_cons] at h3
        have h2 := (rseg_inR hbB hgG hF.c hF.r e h1).1 _ rfl
        unfold withinS
        rw [hb, show ltS e.1 b = false from (by
          cases h3 : ltS e.1 b with
          | false => rfl
          | true => have := ltS_lt_le h3 hkb; rw [this] at h2; cases h2)]
        simp
      · rfl
    · intro m i pk W' pre' hpk hbw hJ' hN'
      rw [List.getElem?_map, Option.map_eq_some_iff] at hpk
      obtain ⟨c, hc, rfl⟩ := hpk
      rw [kidQ_some hc] at hN' ⊢
      have hcm : c ∈ t.cs := List.mem_of_getElem? hc
      have hil : i < t.cs.length := (List.getElem?_eq_some_iff.1 hc).1
      obtain ⟨L, c1, R, lo', hi', hL, hF⟩ := hfr.focus i (by omega)
      subst hL
      have hck := hF.kid
      rw [hc] at hck
      injection hck with hck
      subst hck
      have hnc : ∀ k, 0 < fp d c k → k < n₀ := fun k hk => hn k (by have := fpL_mem (f := fp d) hcm k; simp only [fp]; omega)
      exact ih m pre' (mem_below (hm.2.2 c hcm) hnc hbw) hF.c (Nat.le_refl _) hnc hJ' hN'
/-- Scan's closure. -/
def ScanP (J Jx : List (ByteArray × Int) → World → Prop) (q : List (ByteArray × Int)) (e : Ending) (W' : World) : Prop := (∃ v, e = .returned v) ∧ ((∃ xs, xs = q ∧ J xs W') ∨ (∃ pre, pre <+: q ∧ Jx pre W'))
set_option maxRecDepth 100000 in
set_option maxHeartbeats 16000000 in
theorem scan1_any {o l n₀ tb Bt Ba Bb : Nat} {J Jx : List (ByteArray × Int) → World → Prop} (ho2 : o ≤ 64) (a b : ByteArray) {d x y : Nat} {lo hi : Option ByteArray} {t : Tr} {W : World} (hY : Rounds l n₀ (part a b (flat d t)).length J Jx) (hm : mem d W t) (hv : inv o d x y lo hi t) (hy : y ≤ o) (hn : ∀ k, 0 < fp d t k → k < n₀)
    (hJ : J [] W.drew) (ct : W.cell? ⟨Bt, 0, none⟩ = some (.pointer (some ⟨tb, 0, none⟩))) (ca : W.cell? ⟨Ba, 0, none⟩ = some (.string a)) (cb : W.cell? ⟨Bb, 0, none⟩ = some (.string b)) (cr : W.cell? ⟨tb, 1, none⟩ = some (.pointer (some ⟨t.p, 0, none⟩))) :
    Calls Try.prog 28 #[.func (.yield l) #[] #[], .pointer (some ⟨Bt, 0, none⟩), .pointer (some ⟨Ba, 0, none⟩), .pointer (some ⟨Bb, 0, none⟩)] W (ScanP J Jx (part a b (flat d t))) := by
  have HC := Lib.hid (callsIn_wide.1 (walk_any hY ho2 a b 0 [] (W := W.drew) (mem_heap hm rfl) hv hy hn hJ (by simp)))
  obtain ⟨Q, hQ⟩ : ∃ Q, ScanP J Jx (part a b (flat d t)) = Q := ⟨_, rfl⟩
  have HQ := Lib.hid hQ
  rw [hQ]
  obtain ⟨p, hp⟩ : ∃ p, t.p = p := ⟨_, rfl⟩
  rw [hp] at cr HC
  clear hY hm hv hy hn hJ hQ hp
  go_enter Try.func28, Try.ntmps28
  go_wp2_with fail
  refine wp_region_still_tail 7 (by kernel_rfl) (by kernel_rfl) ?_
  have ct' : W.drew.cell? ⟨Bt, 0, none⟩ = some (.pointer (some ⟨tb, 0, none⟩)) := ct
  have ca' : W.drew.cell? ⟨Ba, 0, none⟩ = some (.string a) := ca
  have cb' : W.drew.cell? ⟨Bb, 0, none⟩ = some (.string b) := cb
  have cr' : W.drew.cell? ⟨tb, 1, none⟩ = some (.pointer (some ⟨p, 0, none⟩)) := cr
  simp only [List.take_succ_cons, List.take_zero, List.drop_succ_cons, List.drop_zero]
  repeat still_step
  refine wpStill_nil ?_
  go_wp2_with fail
  refine HC.out.mono ?_
  rintro e u1 (⟨rfl, hJ1, _⟩ | ⟨rfl, q', hq, hx⟩)
  · go_wp2_with fail
    refine ⟨rfl, _, results_none rfl _ _ _, ?_⟩
    rw [← HQ.out]
    exact ⟨⟨_, rfl⟩, .inl ⟨_, rfl, by simpa using hJ1⟩⟩
  · go_wp2_with fail
    refine ⟨rfl, _, results_none rfl _ _ _, ?_⟩
    rw [← HQ.out]
    exact ⟨⟨_, rfl⟩, .inr ⟨q', hq, by simpa using hx⟩⟩
/-- Scan: the receiver and the bounds are boxed. -/
theorem scan_any (tb : Nat) (a b : ByteArray) (w : World) :
    Calls Try.prog 11 #[.pointer (some ⟨tb, 0, none⟩), .string a, .string b] w fun e w' => e = .returned (.func (.func 28) #[] #[.pointer (some ⟨w.heap.size, 0, none⟩), .pointer (some ⟨w.heap.size + 1, 0, none⟩), .pointer (some ⟨w.heap.size + 1 + 1, 0, none⟩)]) ∧
      w' = ((w.alloc (.cells #[.pointer (some ⟨tb, 0, none⟩)] 23)).alloc (.cells #[.string a] 9)).alloc (.cells #[.string b] 9) := by
  go_enter Try.func11, Try.ntmps11
  go_wp2_with fail
  go_ret
  exact ⟨rfl, rfl⟩
theorem scan_stops {o n₀ tb Bt Ba Bb : Nat} (n : Nat) (ho2 : o ≤ 64) (a b : ByteArray) {d x y : Nat} {lo hi : Option ByteArray} {t : Tr} {w : World} (hm : mem d w t) (hv : inv o d x y lo hi t) (hy : y ≤ o) (hn : ∀ k, 0 < fp d t k → k < n₀) (hnw : n₀ ≤ w.heap.size) (htb : tb < n₀)
    (ct : w.cell? ⟨Bt, 0, none⟩ = some (.pointer (some ⟨tb, 0, none⟩))) (ca : w.cell? ⟨Ba, 0, none⟩ = some (.string a)) (cb : w.cell? ⟨Bb, 0, none⟩ = some (.string b)) (cr : w.cell? ⟨tb, 1, none⟩ = some (.pointer (some ⟨t.p, 0, none⟩))) :
    SeqStopsK Fence.wide n Try.prog 28 #[.pointer (some ⟨Bt, 0, none⟩), .pointer (some ⟨Ba, 0, none⟩), .pointer (some ⟨Bb, 0, none⟩)] encP (Below n₀) (fun ys => ys = part a b (flat d t)) (fun pre => pre <+: part a b (flat d t)) (part a b (flat d t)).length w := by
  intro l J Jx W hW hJ hJx hY h0
  have hc : ∀ {q : Addr} {v : Value}, w.cell? q = some v → W.cell? q = some v := fun {q v} h => (hW.cell (World.block_lt_of_cell? w q h)).trans h
  exact callsIn_wide.2 (scan1_any ho2 a b (fun m pre x W h1 h2 => YieldAt.anyDepth rfl m (hY pre x W h1 h2)) (mem_below hm (fun k hk => by have := hn k hk; omega) hW) hv hy hn
    (hJ [] W W.drew none h0 ⟨rfl, rfl, rfl, Nat.le_refl _, fun _ _ _ => rfl⟩ (fun r e => by cases e)) (hc ct) (hc ca) (hc cb) (hc cr))
end Go.Proofs.Ytjoopjmcnkiieaa

/- A change is noted: the tree's counter and the key's stamp. Conditions: the tree's own blocks are there. -/
namespace Go.Proofs.Ytjoopjmcnkiieaa
open Go.RowKit Go.Lib Go.Maps
set_option linter.unusedSimpArgs false
set_option linter.unusedVariables false

theorem step_mapUpdate_is {P : Program} {w : World} {ops : Array Oper} {o : Oper} {a : Act} {K' : Act → World → Prop} {Q : Exit → Act → World → Prop} {E : Prop} {α : Type} [DecidableEq α] (hg : o.guard = none) (m x v : Operand) (t : TypeId) (hop : o.op = Op.mapUpdate t m x v)
    (k e : TypeId) (K : KeyKind P k α) (ht : P.underlying t = some (.map k e)) (b n : Nat) (g : α → Option Value)
    (hm : a.eval m = .map (some b)) (hown : MapIs w K b n g) (hn : n < maxLen) (key : α) (val : Value) (hx : a.eval x = K.val key) (hv : a.eval v = val) (hkey : K.ok key)
    (hK : ∀ w', MapIs w' K b (n + 1) (fun y => if y = key then some val else g y) → w.grownBy w' (some b) → w'.heap.size = w.heap.size → K' (a.put o.dst undef) w') :
    if Region.wanted o (yielded ops a.tmps) = true then Oper.wp P o a w K' Q else E := by
  have hw : Region.wanted o (yielded ops a.tmps) = true := by simp [Region.wanted, hg]
  rw [if_pos hw]
  obtain ⟨w', hrun, r1, r2, r3⟩ := hown.update ht hn hkey val
  unfold Oper.wp
  simp [execOp, hop, hm, hx, hv, hrun, Result.andThen]
  exact hK w' r1 r2 r3
theorem Fr.grown {F F' : Nat → Nat} {a w w' : World} {b : Nat} (h : Fr F F' a w) (hg : w.grownBy w' (some b)) (hz : w'.heap.size = w.heap.size) (hb : 0 < F' b) : Fr F F' a w' where
  os := hg.os.trans h.os
  tape := hg.tape.trans h.tape
  output := hg.output.trans h.output
  size := by rw [hz]; exact h.size
  block k hk h0 := by
    have h1 := h.le k hk
    rw [hg.block k (Nat.lt_of_lt_of_le hk h.size) (fun e => by injection e with e; subst e; omega), h.block k hk h0]
  le := h.le
  one := h.one
  hi k hk := h.hi k (by omega)
def tbmb (tb mb k : Nat) : Nat := (if k = tb then 1 else 0) + (if k = mb then 1 else 0)
/-- What stamp leaves. -/
def Stamped (tb mb m : Nat) (o p n : Value) (g : ByteArray → Option Value) (key : ByteArray) (w : World) (e : Ending) (w' : World) : Prop :=
  e = .returned (.tuple #[]) ∧ Block w' tb [o, p, n, .int .i64 ((m : Int) + 1), .map (some mb)] 64 ∧ MapIs w' KS mb (m + 1) (fun y => if y = key then some (numV ((m : Int) + 1)) else g y) ∧ Fr (tbmb tb mb) (tbmb tb mb) w w'
set_option maxRecDepth 100000 in
set_option maxHeartbeats 4000000 in
theorem stamp_any {w : World} {tb mb m : Nat} {o p n : Value} {g : ByteArray → Option Value} {key : ByteArray} (hb : Block w tb [o, p, n, .int .i64 m, .map (some mb)] 64) (hM : MapIs w KS mb m g) (hm : m ≤ 1000000) (hkey : key.size ≤ maxLen) (hne : tb ≠ mb) :
    Calls Try.prog 32 #[.pointer (some ⟨tb, 0, none⟩), .string key] w (Stamped tb mb m o p n g key w) := by
  obtain ⟨Q, hQ⟩ : ∃ Q, Stamped tb mb m o p n g key w = Q := ⟨_, rfl⟩
  have HQ := Lib.hid hQ
  rw [hQ]
  have d3 := hb.cell (i := 3) rfl
  have d4 := hb.cell (i := 4) rfl
  have f3 := hb.free 3
  have hw1 : IntKind.i64.wrap ((m : Int) + 1) = (m : Int) + 1 := IntWalk.i64_in _ (by omega)
  have hF1 : ∀ k, tbmb tb mb k ≤ 1 := fun k => by unfold tbmb; split <;> split <;> omega
  have hF0 : Fr (tbmb tb mb) (tbmb tb mb) w w := Fr.refl hF1 (fun k hk => by
    have h1 := hb.lt
    have h2 := hM.lt
    unfold tbmb
    rw [if_neg (by omega), if_neg (by omega)])
  have HB := Lib.hid (hb.set 3 (.int .i64 ((m : Int) + 1)))
  have HM := Lib.hid (hM.of_heap (w' := w.setCell ⟨tb, 3, none⟩ (.int .i64 ((m : Int) + 1))) (Below.heap_setCell _ _ _ _ (Ne.symm hne)))
  have HF := Lib.hid (hF0.setCell (p := ⟨tb, 3, none⟩) (by unfold tbmb; rw [if_pos rfl]; omega) (.int .i64 ((m : Int) + 1)))
  have HNE := Lib.hid hne
  have HK := Lib.hid hkey
  clear hQ hb hM hkey hne hF1 hF0
  go_enter Try.func32, Try.ntmps32
  go_wp2_with fail
  generalize w.setCell ⟨tb, 3, none⟩ (.int .i64 ((m : Int) + 1)) = W at *
  have e3 : W.drew.cell? ⟨tb, 3, none⟩ = some (.int .i64 ((m : Int) + 1)) := HB.out.cell (i := 3) rfl
  have e4 : W.drew.cell? ⟨tb, 4, none⟩ = some (.map (some mb)) := HB.out.cell (i := 4) rfl
  have HB1 : Hid (Block W.drew tb [o, p, n, .int .i64 ((m : Int) + 1), .map (some mb)] 64) := Lib.hid HB.out
  have HM1 : Hid (MapIs W.drew KS mb m g) := Lib.hid (HM.out.of_heap rfl)
  have HF1 := Lib.hid HF.out.drew
  clear HB HM HF d3 d4 f3
  refine wp_region_noPanic ?_
  refine wp_region_J (S := fun u : World => u.cell? ⟨tb, 3, none⟩ = some (.int .i64 ((m : Int) + 1)) ∧ u.cell? ⟨tb, 4, none⟩ = some (.map (some mb))) (fun j => j == 9) (by kernel_rfl) ?_
  generalize W.drew = W1 at *
  have hHeld : (fun u : World => u.cell? ⟨tb, 3, none⟩ = some (.int .i64 ((m : Int) + 1)) ∧ u.cell? ⟨tb, 4, none⟩ = some (.map (some mb))) W1 := ⟨e3, e4⟩
  refine wpAnyJ_take0 (i := 0) (v := ?_) rfl (by kernel_rfl) (by kernel_rfl) (by kernel_rfl) (fun _ _ _ h => h) (Or.inl ⟨by rfl, ?_⟩) ?_
  rotate_left
  focus ((intro w hSw; clear hSw; go_simp); try with_reducible rfl)
  (try simp only [Act.put, List.getElem_toArray, List.getElem_cons_zero, List.getElem_cons_succ, List.setIfInBounds_toArray, List.set_cons_zero, List.set_cons_succ])
  refine wpAnyJ_take0 (i := 1) (v := ?_) rfl (by kernel_rfl) (by kernel_rfl) (by kernel_rfl) (fun _ _ _ h => h) (Or.inl ⟨by rfl, ?_⟩) ?_
  rotate_left
  focus ((intro w hSw; clear hSw; go_simp); try with_reducible rfl)
  (try simp only [Act.put, List.getElem_toArray, List.getElem_cons_zero, List.getElem_cons_succ, List.setIfInBounds_toArray, List.set_cons_zero, List.set_cons_succ])
  refine wpAnyJ_take0 (i := 2) (v := ?_) rfl (by kernel_rfl) (by kernel_rfl) (by kernel_rfl) (fun _ _ _ h => h) (Or.inl ⟨by rfl, ?_⟩) ?_
  rotate_left
  focus ((intro w hSw; clear hSw; go_simp); try with_reducible rfl)
  (try simp only [Act.put, List.getElem_toArray, List.getElem_cons_zero, List.getElem_cons_succ, List.setIfInBounds_toArray, List.set_cons_zero, List.set_cons_succ])
  refine wpAnyJ_take (i := 3) (v := ?_) rfl (by kernel_rfl) (by kernel_rfl) (by kernel_rfl) (by kernel_rfl) (fun _ _ _ h => h) (Or.inl ⟨by rfl, ?_⟩) (by assumption) ?_
  rotate_left
  focus ((intro w hSw; (try dsimp only at hSw); go_simp); try with_reducible rfl)
  (try simp only [Act.put, List.getElem_toArray, List.getElem_cons_zero, List.getElem_cons_succ, List.setIfInBounds_toArray, List.set_cons_zero, List.set_cons_succ])
  refine wpAnyJ_take0 (i := 4) (v := ?_) rfl (by kernel_rfl) (by kernel_rfl) (by kernel_rfl) (fun _ _ _ h => h) (Or.inl ⟨by rfl, ?_⟩) ?_
  rotate_left
  focus ((intro w hSw; clear hSw; go_simp); try with_reducible rfl)
  (try simp only [Act.put, List.getElem_toArray, List.getElem_cons_zero, List.getElem_cons_succ, List.setIfInBounds_toArray, List.set_cons_zero, List.set_cons_succ])
  refine wpAnyJ_take0 (i := 5) (v := ?_) rfl (by kernel_rfl) (by kernel_rfl) (by kernel_rfl) (fun _ _ _ h => h) (Or.inl ⟨by rfl, ?_⟩) ?_
  rotate_left
  focus ((intro w hSw; clear hSw; go_simp); try with_reducible rfl)
  (try simp only [Act.put, List.getElem_toArray, List.getElem_cons_zero, List.getElem_cons_succ, List.setIfInBounds_toArray, List.set_cons_zero, List.set_cons_succ])
  refine wpAnyJ_take0 (i := 6) (v := ?_) rfl (by kernel_rfl) (by kernel_rfl) (by kernel_rfl) (fun _ _ _ h => h) (Or.inl ⟨by rfl, ?_⟩) ?_
  rotate_left
  focus ((intro w hSw; clear hSw; go_simp); try with_reducible rfl)
  (try simp only [Act.put, List.getElem_toArray, List.getElem_cons_zero, List.getElem_cons_succ, List.setIfInBounds_toArray, List.set_cons_zero, List.set_cons_succ])
  refine wpAnyJ_take0 (i := 7) (v := ?_) rfl (by kernel_rfl) (by kernel_rfl) (by kernel_rfl) (fun _ _ _ h => h) (Or.inl ⟨by rfl, ?_⟩) ?_
  rotate_left
  focus ((intro w hSw; clear hSw; go_simp); try with_reducible rfl)
  (try simp only [Act.put, List.getElem_toArray, List.getElem_cons_zero, List.getElem_cons_succ, List.setIfInBounds_toArray, List.set_cons_zero, List.set_cons_succ])
  refine wpAnyJ_take (i := 8) (v := ?_) rfl (by kernel_rfl) (by kernel_rfl) (by kernel_rfl) (by kernel_rfl) (fun _ _ _ h => h) (Or.inl ⟨by rfl, ?_⟩) (by assumption) ?_
  rotate_left
  focus ((intro w hSw; (try dsimp only at hSw); go_simp); try with_reducible rfl)
  (try simp only [Act.put, List.getElem_toArray, List.getElem_cons_zero, List.getElem_cons_succ, List.setIfInBounds_toArray, List.set_cons_zero, List.set_cons_succ])
  refine wpAnyJ_ready (rs := [9]) (by kernel_rfl) (by simp) ?_
  refine AllReadyJ.cons rfl (fun KK hKK => ?_) AllReadyJ.nil
  refine step_mapUpdate_is (by rfl) _ _ _ 62 (by rfl) 9 2 KS Try.underlying62 mb m g (by rfl) HM1.out (by unfold maxLen; omega) key (.int .i64 ((m : Int) + 1)) (by rfl) (by rfl) HK.out ?_
  intro w' h1 h2 h3
  have HR := Lib.hid (show MapIs w' KS mb (m + 1) _ from h1)
  have HG := Lib.hid h2
  have HZ := Lib.hid h3
  clear h1 h2 h3
  refine hKK.out _ _ (fun h => absurd h (by decide)) ?_
  clear hKK KK
  (try simp only [Act.put, List.getElem_toArray, List.getElem_cons_zero, List.getElem_cons_succ, List.setIfInBounds_toArray, List.set_cons_zero, List.set_cons_succ])
  refine wpAnyJ_done (by kernel_rfl) ?_ _
  refine NoPanic.normal ?_
  go_wp2_with fail
  rw [← HQ.out]
  refine ⟨rfl, _, results_none rfl _ _ _, rfl, HB1.out.of_heap (HG.out.block tb HB1.out.lt (fun e => HNE.out (by injection e))), HR.out, HF1.out.grown HG.out HZ.out (by unfold tbmb; rw [if_pos (rfl : mb = mb)]; omega)⟩
end Go.Proofs.Ytjoopjmcnkiieaa

/- Put on a tree. Conditions: the tree is there and as it must be. -/
namespace Go.Proofs.Ytjoopjmcnkiieaa
open Go.RowKit Go.Lib Go.Maps
set_option linter.unusedSimpArgs false
set_option linter.unusedVariables false

theorem tbmb_tb (tb mb : Nat) : 1 ≤ tbmb tb mb tb := by unfold tbmb; rw [if_pos rfl]; omega
theorem tbmb_mb (tb mb : Nat) : 1 ≤ tbmb tb mb mb := by unfold tbmb; rw [if_pos (rfl : mb = mb)]; omega
theorem tbmb_two {tb mb : Nat} (e : tb = mb) : tbmb tb mb tb = 2 := by unfold tbmb; rw [if_pos rfl, if_pos e]
/-- A tree under way: its own cells, its nodes, its stamps. -/
structure TM (F0 : Nat → Nat) (w0 : World) (o tb mb d : Nat) (t : Tr) (n m : Int) (k : Nat) (g : ByteArray → Option Value) (W : World) : Prop where
  blk : Block W tb [.int .i64 o, .pointer (some ⟨t.p, 0, none⟩), .int .i64 n, .int .i64 m, .map (some mb)] 64
  mm : mem d W t
  map : MapIs W KS mb k g
  fr : Fr F0 (fun q => fp d t q + tbmb tb mb q) w0 W
section
variable {F0 : Nat → Nat} {w0 W : World} {o tb mb d k : Nat} {t : Tr} {n m : Int} {g : ByteArray → Option Value}
theorem TM.ne (h : TM F0 w0 o tb mb d t n m k g W) : tb ≠ mb := fun e => by
  have h1 := h.fr.one tb
  have h2 := tbmb_two e
  omega
theorem TM.apart (h : TM F0 w0 o tb mb d t n m k g W) : fp d t tb = 0 ∧ fp d t mb = 0 := by
  have h1 := h.fr.one tb
  have h2 := h.fr.one mb
  have h3 := tbmb_tb tb mb
  have h4 := tbmb_mb tb mb
  omega
theorem TM.cells (h : TM F0 w0 o tb mb d t n m k g W) : W.cell? ⟨tb, 0, none⟩ = some (.int .i64 o) ∧ W.cell? ⟨tb, 1, none⟩ = some (.pointer (some ⟨t.p, 0, none⟩)) ∧ W.cell? ⟨tb, 2, none⟩ = some (.int .i64 n) ∧ W.cell? ⟨tb, 3, none⟩ = some (.int .i64 m) ∧ W.cell? ⟨tb, 4, none⟩ = some (.map (some mb)) ∧ ∀ q, W.frozen? ⟨tb, q, none⟩ = false :=
  ⟨h.blk.cell rfl, h.blk.cell rfl, h.blk.cell rfl, h.blk.cell rfl, h.blk.cell rfl, h.blk.free⟩
theorem TM.setn (h : TM F0 w0 o tb mb d t n m k g W) (n' : Int) : TM F0 w0 o tb mb d t n' m k g (W.setCell ⟨tb, 2, none⟩ (.int .i64 n')) where
  blk := h.blk.set 2 _
  mm := mem_frame (F := fun q => if q = tb then 1 else 0) (F' := fun q => if q = tb then 1 else 0) h.mm
    ((Fr.refl (fun q => by split <;> omega) (fun q hq => by have := h.blk.lt; rw [if_neg (by omega)])).setCell (p := ⟨tb, 2, none⟩) (by simp) _) (fun q => by have := h.fr.one q; simp only [tbmb] at this; split <;> simp_all <;> omega)
  map := h.map.of_heap (Below.heap_setCell _ _ _ _ (Ne.symm h.ne))
  fr := h.fr.setCell (p := ⟨tb, 2, none⟩) (by have := tbmb_tb tb mb; simp only; omega) _
/-- The nodes have turned, and nothing else. -/
theorem TM.nodes (h : TM F0 w0 o tb mb d t n m k g W) {W' : World} {t' : Tr} (hp : t'.p = t.p) (hm : mem d W' t') (hf : Fr (fp d t) (fp d t') W W') : TM F0 w0 o tb mb d t' n m k g W' where
  blk := by rw [hp]; exact h.blk.of_heap (hf.block tb h.blk.lt h.apart.1)
  mm := hm
  map := h.map.of_heap (hf.block mb h.map.lt h.apart.2)
  fr := h.fr.trans (hf.frame _ h.fr.one (fun q hq => by have := h.fr.hi q hq; omega))
theorem TM.stamped (h : TM F0 w0 o tb mb d t n m k g W) {e : Ending} {W' : World} {j : Nat} (hj : m = j) (hjk : k = j) {key : ByteArray} (hs : Stamped tb mb j (.int .i64 o) (.pointer (some ⟨t.p, 0, none⟩)) (.int .i64 n) g key W e W') :
    TM F0 w0 o tb mb d t n (m + 1) (k + 1) (fun y => if y = key then some (numV (m + 1)) else g y) W' := by
  subst hj hjk
  obtain ⟨_, hb, hM, hf⟩ := hs
  exact ⟨hb, mem_frame h.mm hf (fun q => by have := h.fr.one q; omega), hM, h.fr.trans ((hf.frame (fp d t) (fun q => by have := h.fr.one q; omega) (fun q hq => by have := h.fr.hi q hq; omega)).congr (fun q => by omega) (fun q => by omega))⟩
end
/-- A new root over both halves. -/
theorem new_root {d : Nat} {W : World} {c2 c3 : Tr} {key : ByteArray} {F0 G : Nat → Nat} {w0 : World} (h2 : mem d W c2) (h3 : mem d W c3) (hf : Fr F0 (fun q => (fp d c2 q + fp d c3 q) + G q) w0 W) :
    let W3 := ((W.alloc (.cells #[.string key] 9)).alloc (.cells #[.pointer (some ⟨c2.p, 0, none⟩), .pointer (some ⟨c3.p, 0, none⟩)] 61)).alloc (.cells #[.slice (some ⟨W.heap.size, 0, none⟩) 1 1, .slice none 0 0, .slice (some ⟨W.heap.size + 1, 0, none⟩) 2 2] 69)
    let T := Tr.mk (W.heap.size + 1 + 1) (.slice (some ⟨W.heap.size, 0, none⟩) 1 1) (.slice none 0 0) (.slice (some ⟨W.heap.size + 1, 0, none⟩) 2 2) [key] [] [c2, c3]
    mem (d + 1) W3 T ∧ Fr F0 (fun q => fp (d + 1) T q + G q) w0 W3 ∧ Below W.heap.size W W3 := by
  intro W3 T
  have hB : Below W.heap.size W W3 := (((Below.refl _ _).alloc (Nat.le_refl _) _).alloc (by simp) _).alloc (by simp; omega) _
  have hone := hf.one
  have hz := hf.hi
  have hk1 : Block W3 W.heap.size [.string key] 9 := ((Block.new W [.string key] 9).alloc _).alloc _
  have hk2 : Block W3 (W.heap.size + 1) [.pointer (some ⟨c2.p, 0, none⟩), .pointer (some ⟨c3.p, 0, none⟩)] 61 := by
    have := (Block.new (W.alloc (.cells #[.string key] 9)) [.pointer (some ⟨c2.p, 0, none⟩), .pointer (some ⟨c3.p, 0, none⟩)] 61).alloc (.cells #[.slice (some ⟨W.heap.size, 0, none⟩) 1 1, .slice none 0 0, .slice (some ⟨W.heap.size + 1, 0, none⟩) 2 2] 69)
    rwa [World.size_alloc] at this
  have hk3 : Block W3 (W.heap.size + 1 + 1) [.slice (some ⟨W.heap.size, 0, none⟩) 1 1, .slice none 0 0, .slice (some ⟨W.heap.size + 1, 0, none⟩) 2 2] 69 := by
    have := Block.new ((W.alloc (.cells #[.string key] 9)).alloc (.cells #[.pointer (some ⟨c2.p, 0, none⟩), .pointer (some ⟨c3.p, 0, none⟩)] 61)) [.slice (some ⟨W.heap.size, 0, none⟩) 1 1, .slice none 0 0, .slice (some ⟨W.heap.size + 1, 0, none⟩) 2 2] 69
    rwa [World.size_alloc, World.size_alloc] at this
  have hlt2 : ∀ q, 0 < fp d c2 q → q < W.heap.size := fun q hq => by
    rcases Nat.lt_or_ge q W.heap.size with h | h
    · exact h
    · have := hz q h; omega
  have hlt3 : ∀ q, 0 < fp d c3 q → q < W.heap.size := fun q hq => by
    rcases Nat.lt_or_ge q W.heap.size with h | h
    · exact h
    · have := hz q h; omega
  refine ⟨⟨⟨hk3, ?_, ?_, ?_⟩, rfl, ?_⟩, ?_, hB⟩
  · exact Arr.mk (xs := [.string key]) hk1 (by simp) (by simp) (by simp [maxLen]) (fun q hq => rfl)
  · exact Arr.nil
  · exact Arr.mk (xs := [ptrV c2.p, ptrV c3.p]) hk2 (by simp) (by simp) (by simp [maxLen]) (fun q hq => rfl)
  · intro y hy
    rcases List.mem_cons.1 hy with rfl | hy
    · exact mem_below h2 hlt2 hB
    · rw [List.mem_singleton.1 hy]; exact mem_below h3 hlt3 hB
  · refine (((hf.new (.cells #[.string key] 9)).new (.cells #[.pointer (some ⟨c2.p, 0, none⟩), .pointer (some ⟨c3.p, 0, none⟩)] 61)).new (.cells #[.slice (some ⟨W.heap.size, 0, none⟩) 1 1, .slice none 0 0, .slice (some ⟨W.heap.size + 1, 0, none⟩) 2 2] 69)).congr (fun _ => rfl) (fun q => ?_)
    simp only [fp, fpL, Tr.ow, ow, T, Tr.mk_p, Tr.mk_v1, Tr.mk_v2, Tr.mk_v3, Tr.mk_cs, rb, Value.ownBlock, World.size_alloc, Option.some.injEq, eq_comm (a := q)]
    simp only [reduceCtorEq, if_false]
    omega

def PutT (o tb : Nat) (F : Nat → Nat) (l : List (ByteArray × Int)) (Hh : List ByteArray) (key : ByteArray) (x : Int) (w : World) (e : Ending) (w' : World) : Prop :=
  e = .returned (.bool (hasF key l)) ∧ ∃ F', Fr F F' w w' ∧ IsTree w' o tb F' (insF key x l) (key :: Hh)
set_option maxRecDepth 100000 in
set_option maxHeartbeats 16000000 in
theorem tput_any {o tb : Nat} (ho3 : 3 ≤ o) (ho2 : o ≤ 64) {F : Nat → Nat} {l : List (ByteArray × Int)} {Hh : List ByteArray} {key : ByteArray} {x : Int} {w : World} (h : IsTree w o tb F l Hh) (hl : l.length ≤ 1000000) (hH : Hh.length ≤ 1000000) (hkey : key.size ≤ maxLen) :
    Calls Try.prog 15 #[.pointer (some ⟨tb, 0, none⟩), .string key, .int .i64 x] w (PutT o tb F l Hh key x w) := by
  obtain ⟨d, t, mb, hb, hm, hv, hfl, hM, hF, h1⟩ := h
  have hF' : F = fun q => fp d t q + tbmb tb mb q := funext hF
  have hhi : ∀ k, w.heap.size ≤ k → F k = 0 := fun k hk => IsTree.hi (F := F) ⟨d, t, mb, hb, hm, hv, hfl, hM, hF, h1⟩ k hk
  have T0 : TM F w o tb mb d t l.length Hh.length Hh.length (fun y => (lastAt Hh y).map fun n => numV n) w := ⟨hb, hm, hM, (Fr.refl h1 hhi).congr (fun _ => rfl) (fun q => hF q)⟩
  have hpf := (flat_facts hv).2
  rw [hfl] at hpf
  have HLEN := Lib.hid (insF_length key x hpf)
  have c1 := T0.cells.2.1
  have HPUT := Lib.hid (put_any ho3 ho2 (tb := tb) (key := key) (x := x) hm (fun q => by have := T0.fr.one q; omega) T0.apart.1 hv (Nat.le_refl _) ⟨fun _ e => (by cases e), fun _ e => (by cases e)⟩ T0.cells.1)
  rw [hfl] at HPUT
  obtain ⟨Q, hQ⟩ : ∃ Q, PutT o tb F l Hh key x w = Q := ⟨_, rfl⟩
  have HQ := Lib.hid hQ
  rw [hQ]
  have HT0 := Lib.hid T0
  have HFL := Lib.hid hfl
  have HKEY := Lib.hid hkey
  obtain ⟨was, hwas⟩ : ∃ was, hasF key l = was := ⟨_, rfl⟩
  rw [hwas] at HPUT
  have HW := Lib.hid hwas
  obtain ⟨m, hmm⟩ : ∃ m, Hh.length = m := ⟨_, rfl⟩
  have HMM := Lib.hid hmm
  obtain ⟨n, hnn⟩ : ∃ n, l.length = n := ⟨_, rfl⟩
  have HNN := Lib.hid hnn
  have hwm : IntKind.i64.wrap ((m : Int) + 1) = (m : Int) + 1 := IntWalk.i64_in _ (by omega)
  have hwn : IntKind.i64.wrap ((n : Int) + 1) = (n : Int) + 1 := IntWalk.i64_in _ (by omega)
  have HE : Hid (∀ (d' : Nat) (t' : Tr) (W' : World), TM F w o tb mb d' t' (insF key x l).length ((m : Int) + 1) (m + 1) (fun y => if y = key then some (numV ((m : Int) + 1)) else (lastAt Hh y).map fun n => numV n) W' → inv o d' (rt d') o none none t' → flat d' t' = insF key x l → Q (.returned (.bool was)) W') := Lib.hid (by
    intro d' t' W' hT hi hf
    rw [← HQ.out, ← HW.out]
    refine ⟨rfl, _, hT.fr, d', t', mb, ?_, hT.mm, hi, hf, ?_, fun _ => rfl, hT.fr.one⟩
    · have := hT.blk
      rw [show ((m : Int) + 1) = (((key :: Hh).length : Nat) : Int) from by rw [List.length_cons, HMM.out]; rfl] at this
      exact this
    · rw [List.length_cons, HMM.out]
      refine hT.map.congr (fun y _ => ?_)
      simp only [lastAt]
      rw [HMM.out]
      split <;> rfl)
  have hm6 : m ≤ 1000000 := by omega
  have hn6 : n ≤ 1000000 := by omega
  clear hb hm hv hfl hM hF hhi h1 T0 hF' hpf hQ hkey hwas hmm hnn hl hH
  go_enter Try.func15, Try.ntmps15
  go_wp2_with fail
  refine HPUT.out.mono ?_; rintro e w1 ⟨rfl, t1, hp1, hm1, hf1, hi1, hfl1⟩
  have HT1 := Lib.hid ((by have h0 := HT0.out; rw [HNN.out, HMM.out] at h0; exact h0 : TM F w o tb mb d t n m m (fun y => (lastAt Hh y).map fun n => numV n) w).nodes hp1 hm1 hf1)
  have HSP := Lib.hid (split_any (tb := tb) ho3 ho2 hm1 hf1.one hi1 HT1.out.cells.1)
  have e1 := HT1.out.cells.2.1
  have HI1 := Lib.hid hi1
  have HFL1 := Lib.hid hfl1
  clear HPUT HT0 hp1 hm1 hf1 hi1 hfl1 c1
  go_wp2_with fail
  refine HSP.out.mono ?_; rintro e w2 (⟨hsm, rfl, hbel⟩ | ⟨hlen, q, key', c2, c3, rfl, hm2, hm3, hp2, hq, hf2, hi2, hi3, hfl2⟩)
  · have HT2 := Lib.hid (HT1.out.nodes (t' := t1) rfl (mem_below HT1.out.mm (fun q hq => by
      rcases Nat.lt_or_ge q w1.heap.size with h | h
      · exact h
      · have := HT1.out.fr.hi q h; omega) hbel) (Fr.of_below hbel (fun q => by have := HT1.out.fr.one q; omega) (fun q h => by have := HT1.out.fr.hi q h; omega)))
    have HI2 : Hid (inv o d (rt d) o none none t1) := Lib.hid (inv_size HI1.out (inv_len HI1.out).1 hsm)
    clear hsm hbel HSP HT1 HI1 e1
    generalize t1 = t3 at *
    generalize w2 = w3 at *
    have f2 := HT2.out.cells.2.2.2.2.2 2
    have e2 := HT2.out.cells.2.2.1
    cases was with
    | true =>
      have HST := Lib.hid (stamp_any (key := key) HT2.out.blk HT2.out.map (by omega) HKEY.out HT2.out.ne)
      have HN2 : Hid ((insF key x l).length = n) := Lib.hid (by rw [HLEN.out, HW.out, HNN.out]; rfl)
      go_wp2_with fail
      refine HST.out.mono ?_
      rintro e w4 hs
      have he := hs.1
      subst he
      have HT4 := Lib.hid (HT2.out.stamped rfl rfl hs)
      clear hs HST
      go_wp2_with fail
      exact HE.out d t3 w4 (by rw [HN2.out]; exact HT4.out) HI2.out (by rw [HFL1.out, HFL.out])
    | false =>
      have HT3 := Lib.hid (HT2.out.setn ((n : Int) + 1))
      have HST := Lib.hid (stamp_any (key := key) HT3.out.blk HT3.out.map (by omega) HKEY.out HT3.out.ne)
      have HN2 : Hid ((insF key x l).length = n + 1) := Lib.hid (by rw [HLEN.out, HW.out, HNN.out]; rfl)
      go_wp2_with fail
      refine HST.out.mono ?_
      rintro e w4 hs
      have he := hs.1
      subst he
      have HT4 := Lib.hid (HT3.out.stamped rfl rfl hs)
      clear hs HST
      go_wp2_with fail
      exact HE.out d t3 w4 (by rw [HN2.out]; exact HT4.out) HI2.out (by rw [HFL1.out, HFL.out])
  · have HI2 : Hid (inv o (d + 1) 1 o none none (Tr.mk (w2.heap.size + 1 + 1) (.slice (some ⟨w2.heap.size, 0, none⟩) 1 1) (.slice none 0 0) (.slice (some ⟨w2.heap.size + 1, 0, none⟩) 2 2) [key'] [] [c2, c3])) := Lib.hid ⟨⟨c2, [(key', c3)], some key', rfl, rfl, hi2, rfl, none, hi3, rfl⟩, by simp, by simp; omega⟩
    have HFL2 : Hid (flat (d + 1) (Tr.mk (w2.heap.size + 1 + 1) (.slice (some ⟨w2.heap.size, 0, none⟩) 1 1) (.slice none 0 0) (.slice (some ⟨w2.heap.size + 1, 0, none⟩) 2 2) [key'] [] [c2, c3]) = insF key x l) := Lib.hid (by
      show [c2, c3].flatMap (flat d) = _
      rw [← HFL.out, ← HFL1.out, ← hfl2]
      simp)
    have h2 := HT1.out
    have hfr2 := h2.fr.trans (hf2.frame (tbmb tb mb) h2.fr.one (fun q hq => by have := h2.fr.hi q hq; omega))
    obtain ⟨hmT, hfT, hbT⟩ := new_root (key := key') hm2 hm3 hfr2
    have hb2 : Block w2 tb _ _ := h2.blk.of_heap (hf2.block tb h2.blk.lt h2.apart.1)
    have e3 : w2.cell? ⟨tb, 2, none⟩ = some (.int .i64 n) := hb2.cell (i := 2) rfl
    have e2 : w2.cell? ⟨tb, 1, none⟩ = some (.pointer (some ⟨c2.p, 0, none⟩)) := by rw [hp2]; exact hb2.cell (i := 1) rfl
    have hT : TM F w o tb mb (d + 1) (Tr.mk (w2.heap.size + 1 + 1) (.slice (some ⟨w2.heap.size, 0, none⟩) 1 1) (.slice none 0 0) (.slice (some ⟨w2.heap.size + 1, 0, none⟩) 2 2) [key'] [] [c2, c3]) n m m (fun y => (lastAt Hh y).map fun n => numV n)
        ((((w2.alloc (.cells #[.string key'] 9)).alloc (.cells #[.pointer (some ⟨c2.p, 0, none⟩), .pointer (some ⟨c3.p, 0, none⟩)] 61)).alloc (.cells #[.slice (some ⟨w2.heap.size, 0, none⟩) 1 1, .slice none 0 0, .slice (some ⟨w2.heap.size + 1, 0, none⟩) 2 2] 69)).setCell ⟨tb, 1, none⟩ (.pointer (some ⟨w2.heap.size + 1 + 1, 0, none⟩))) := by
      have hbl := hb2.lt
      have hne := h2.ne
      have hfo := hfT.one
      refine ⟨(hb2.below hbT hbl).set 1 _, ?_, ?_, hfT.setCell (p := ⟨tb, 1, none⟩) (by have := tbmb_tb tb mb; simp only; omega) _⟩
      · refine mem_frame (F := fun q => if q = tb then 1 else 0) (F' := fun q => if q = tb then 1 else 0) hmT ((Fr.refl (fun q => by split <;> omega) (fun q hq => by rw [if_neg (by simp at hq; omega)])).setCell (p := ⟨tb, 1, none⟩) (by simp) _) (fun q => ?_)
        have := hfo q
        simp only [tbmb] at this
        split <;> simp_all <;> omega
      · exact (h2.map.of_heap ((hbT.block mb (by have := h2.map.lt; have := hf2.size; omega)).trans (hf2.block mb h2.map.lt h2.apart.2))).of_heap (Below.heap_setCell _ _ _ _ (Ne.symm hne))
    have HT3 := Lib.hid hT
    have f1 := hb2.free 1
    have f2 := hb2.free 2
    have g1 := (hb2.below hbT hb2.lt).free 1
    have g0 := (hb2.below hbT hb2.lt).cell (i := 1) rfl
    have htbl : tb < w2.heap.size := hb2.lt
    rw [← hq]
    clear hlen hm2 hm3 hp2 hq hf2 hi2 hi3 hfl2 HSP HT1 HI1 e1 h2 hfr2 hmT hfT hbT hb2 hT
    cases was with
    | true =>
      have HST := Lib.hid (stamp_any (key := key) HT3.out.blk HT3.out.map (by omega) HKEY.out HT3.out.ne)
      have HN2 : Hid ((insF key x l).length = n) := Lib.hid (by rw [HLEN.out, HW.out, HNN.out]; rfl)
      go_wp2_with fail
      refine HST.out.mono ?_
      rintro e w4 hs
      have he := hs.1
      subst he
      have HT5 := Lib.hid (HT3.out.stamped rfl rfl hs)
      clear hs HST
      go_wp2_with fail
      exact HE.out (d + 1) _ w4 (by rw [HN2.out]; exact HT5.out) HI2.out HFL2.out
    | false =>
      have j2 := HT3.out.cells.2.2.1
      have j3 := HT3.out.cells.2.2.2.2.2 2
      have HT4 := Lib.hid (HT3.out.setn ((n : Int) + 1))
      have HST := Lib.hid (stamp_any (key := key) HT4.out.blk HT4.out.map (by omega) HKEY.out HT4.out.ne)
      have HN2 : Hid ((insF key x l).length = n + 1) := Lib.hid (by rw [HLEN.out, HW.out, HNN.out]; rfl)
      go_wp2_with fail
      refine HST.out.mono ?_
      rintro e w4 hs
      have he := hs.1
      subst he
      have HT5 := Lib.hid (HT4.out.stamped rfl rfl hs)
      clear hs HST
      go_wp2_with fail
      exact HE.out (d + 1) _ w4 (by rw [HN2.out]; exact HT5.out) HI2.out HFL2.out
end Go.Proofs.Ytjoopjmcnkiieaa

/- Del on a tree. Conditions: the tree is there and as it must be. -/
namespace Go.Proofs.Ytjoopjmcnkiieaa
open Go.RowKit Go.Lib Go.Maps
set_option linter.unusedSimpArgs false
set_option linter.unusedVariables false

theorem TM.root {F0 : Nat → Nat} {w0 W : World} {o tb mb d k : Nat} {t c : Tr} {n m : Int} {g : ByteArray → Option Value} (h : TM F0 w0 o tb mb (d + 1) t n m k g W) (hc : c ∈ t.cs) : TM F0 w0 o tb mb d c n m k g (W.setCell ⟨tb, 1, none⟩ (.pointer (some ⟨c.p, 0, none⟩))) where
  blk := h.blk.set 1 _
  mm := mem_frame (F := fun q => if q = tb then 1 else 0) (F' := fun q => if q = tb then 1 else 0) (h.mm.2.2 c hc)
    ((Fr.refl (fun q => by split <;> omega) (fun q hq => by have := h.blk.lt; rw [if_neg (by omega)])).setCell (p := ⟨tb, 1, none⟩) (by simp) _) (fun q => by have := h.fr.one q; have h2 := fpL_mem (f := fp d) hc q; simp only [tbmb, fp] at this; split <;> simp_all <;> omega)
  map := h.map.of_heap (Below.heap_setCell _ _ _ _ (Ne.symm h.ne))
  fr := (h.fr.setCell (p := ⟨tb, 1, none⟩) (by have := tbmb_tb tb mb; simp only; omega) _).less (fun q => by have h2 := fpL_mem (f := fp d) hc q; simp only [fp]; omega)
def DelT (o tb : Nat) (F : Nat → Nat) (l : List (ByteArray × Int)) (Hh : List ByteArray) (key : ByteArray) (w : World) (e : Ending) (w' : World) : Prop :=
  e = .returned (.bool (hasF key l)) ∧ ∃ F', Fr F F' w w' ∧ IsTree w' o tb F' (delF key l) (if hasF key l then key :: Hh else Hh)
theorem rt_le (d : Nat) : rt d ≤ 1 := by cases d <;> simp [rt]
set_option maxRecDepth 100000 in
set_option maxHeartbeats 16000000 in
theorem tdel_any {o tb : Nat} (ho3 : 3 ≤ o) (ho2 : o ≤ 64) {F : Nat → Nat} {l : List (ByteArray × Int)} {Hh : List ByteArray} {key : ByteArray} {w : World} (h : IsTree w o tb F l Hh) (hl : l.length ≤ 1000000) (hH : Hh.length ≤ 1000000) (hkey : key.size ≤ maxLen) :
    Calls Try.prog 26 #[.pointer (some ⟨tb, 0, none⟩), .string key] w (DelT o tb F l Hh key w) := by
  obtain ⟨d, t, mb, hb, hm, hv, hfl, hM, hF, h1⟩ := h
  have hhi : ∀ k, w.heap.size ≤ k → F k = 0 := fun k hk => IsTree.hi (F := F) ⟨d, t, mb, hb, hm, hv, hfl, hM, hF, h1⟩ k hk
  have T0 : TM F w o tb mb d t l.length Hh.length Hh.length (fun y => (lastAt Hh y).map fun n => numV n) w := ⟨hb, hm, hM, (Fr.refl h1 hhi).congr (fun _ => rfl) (fun q => hF q)⟩
  have hpf := (flat_facts hv).2
  rw [hfl] at hpf
  have HLEN := Lib.hid (delF_length key hpf)
  have c1 := T0.cells.2.1
  have HDEL := Lib.hid (del_any ho3 ho2 (tb := tb) (key := key) hm (fun q => by have := T0.fr.one q; omega) T0.apart.1 hv (Nat.le_refl _) (fun hd => by cases d with | zero => omega | succ d => exact Nat.le_refl _) ⟨fun _ e => (by cases e), fun _ e => (by cases e)⟩ T0.cells.1)
  rw [hfl] at HDEL
  obtain ⟨Q, hQ⟩ : ∃ Q, DelT o tb F l Hh key w = Q := ⟨_, rfl⟩
  have HQ := Lib.hid hQ
  rw [hQ]
  have HT0 := Lib.hid T0
  have HFL := Lib.hid hfl
  have HKEY := Lib.hid hkey
  obtain ⟨was, hwas⟩ : ∃ was, hasF key l = was := ⟨_, rfl⟩
  rw [hwas] at HDEL
  have HW := Lib.hid hwas
  obtain ⟨m, hmm⟩ : ∃ m, Hh.length = m := ⟨_, rfl⟩
  have HMM := Lib.hid hmm
  obtain ⟨n, hnn⟩ : ∃ n, l.length = n := ⟨_, rfl⟩
  have HNN := Lib.hid hnn
  have hwm : IntKind.i64.wrap ((m : Int) + 1) = (m : Int) + 1 := IntWalk.i64_in _ (by omega)
  have hwn : IntKind.i64.wrap ((n : Int) - 1) = (n : Int) - 1 := IntWalk.i64_in _ (by omega)
  have HE1 : Hid (∀ (d' : Nat) (t' : Tr) (W' : World), was = true → TM F w o tb mb d' t' ((n : Int) - 1) ((m : Int) + 1) (m + 1) (fun y => if y = key then some (numV ((m : Int) + 1)) else (lastAt Hh y).map fun n => numV n) W' → inv o d' (rt d') o none none t' → flat d' t' = delF key l → Q (.returned (.bool true)) W') := Lib.hid (by
    intro d' t' W' hw hT hi hf
    have hn1 : ((n : Int) - 1) = (((delF key l).length : Nat) : Int) := by
      rw [HLEN.out, HW.out, if_pos hw, HNN.out]
      have : 0 < n := by
        rw [← HNN.out]
        have h2 := HW.out
        rw [hw] at h2
        cases hl2 : l with
        | nil => rw [hl2] at h2; cases h2
        | cons _ _ => simp
      omega
    rw [← HQ.out]
    refine ⟨by rw [HW.out, hw], _, hT.fr, ?_⟩
    rw [HW.out, if_pos hw]
    refine ⟨d', t', mb, ?_, hT.mm, hi, hf, ?_, fun _ => rfl, hT.fr.one⟩
    · have := hT.blk
      rw [show ((m : Int) + 1) = (((key :: Hh).length : Nat) : Int) from by rw [List.length_cons, HMM.out]; rfl, hn1] at this
      exact this
    · rw [List.length_cons, HMM.out]
      refine hT.map.congr (fun y _ => ?_)
      simp only [lastAt]
      rw [HMM.out]
      split <;> rfl)
  have HE0 : Hid (∀ (d' : Nat) (t' : Tr) (W' : World), was = false → TM F w o tb mb d' t' n m m (fun y => (lastAt Hh y).map fun n => numV n) W' → inv o d' (rt d') o none none t' → flat d' t' = delF key l → Q (.returned (.bool false)) W') := Lib.hid (by
    intro d' t' W' hw hT hi hf
    rw [← HQ.out]
    refine ⟨by rw [HW.out, hw], _, hT.fr, ?_⟩
    rw [HW.out, hw, if_neg (by simp)]
    refine ⟨d', t', mb, ?_, hT.mm, hi, hf, by rw [HMM.out]; exact hT.map, fun _ => rfl, hT.fr.one⟩
    have hn1 : (delF key l).length = n := by rw [HLEN.out, HW.out, hw, if_neg (by simp), HNN.out]
    rw [hn1, HMM.out]
    exact hT.blk)
  have hm6 : m ≤ 1000000 := by omega
  have hn6 : n ≤ 1000000 := by omega
  clear hb hm hv hfl hM hF hhi h1 T0 hpf hQ hkey hwas hmm hnn hl hH
  go_enter Try.func26, Try.ntmps26
  go_wp2_with fail
  refine HDEL.out.mono ?_; rintro e w1 ⟨rfl, t1, hp1, hm1, hf1, hi1, hfl1⟩
  have HT1 := Lib.hid ((by have h0 := HT0.out; rw [HNN.out, HMM.out] at h0; exact h0 : TM F w o tb mb d t n m m (fun y => (lastAt Hh y).map fun n => numV n) w).nodes hp1 hm1 hf1)
  have e1 := HT1.out.cells.2.1
  have HI1 := Lib.hid hi1
  have HFL1 : Hid (flat d t1 = delF key l) := Lib.hid (by rw [hfl1, HFL.out])
  obtain ⟨p1, hp⟩ : ∃ p1, t1.p = p1 := ⟨_, rfl⟩
  have HP := Lib.hid hp
  rw [hp] at e1
  clear HDEL HT0 hp1 hm1 hf1 hi1 hfl1 c1 hp
  cases d with
  | zero =>
    have HL := leaf_any HT1.out.mm.1
    rw [HP.out, show ([] : List Nat).isEmpty = true from rfl] at HL
    have HL := Lib.hid HL
    have HI2 : Hid (inv o 0 (rt 0) o none none t1) := Lib.hid HI1.out
    have HT2 := Lib.hid HT1.out
    have HFL2 := Lib.hid HFL1.out
    have f2 := HT2.out.cells.2.2.2.2.2 2
    have e2 := HT2.out.cells.2.2.1
    have HP2 := Lib.hid HP.out
    clear HT1 HI1 HFL1 HP
    go_wp2_with fail
    refine HL.out.mono ?_; rintro e w' ⟨rfl, rfl⟩
    clear HL
    cases was with
    | true =>
      have HT3 := Lib.hid (HT2.out.setn ((n : Int) - 1))
      have HST := Lib.hid (stamp_any (key := key) HT3.out.blk HT3.out.map (by omega) HKEY.out HT3.out.ne)
      go_wp2_with fail
      refine HST.out.mono ?_
      rintro e w4 hs
      have he := hs.1
      subst he
      have HT5 := Lib.hid (HT3.out.stamped rfl rfl hs)
      clear hs HST
      go_wp2_with fail
      exact HE1.out 0 t1 w4 (by simp) HT5.out HI2.out HFL2.out
    | false =>
      go_wp2_with fail
      exact HE0.out 0 t1 _ (by simp) HT2.out HI2.out HFL2.out
  | succ d =>
    have hlen := HI1.out.1.len
    have HL := leaf_any HT1.out.mm.1
    rw [HP.out, show (t1.cs.map Tr.p).isEmpty = false from by cases hc : t1.cs with | nil => rw [hc] at hlen; simp at hlen | cons _ _ => rfl] at HL
    have HL := Lib.hid HL
    obtain ⟨a1, k1, _, _, a3, c3, ev1, _, ev3, _, _, _, _, _, _⟩ := HT1.out.mm.1.forms
    have hn := HT1.out.mm.1
    rw [ev1, ev3] at hn
    have q0 := hn.cells.1
    have q2 := hn.cells.2.2.1
    rw [HP.out] at q0 q2
    obtain ⟨m1, hm1⟩ : ∃ m1, t1.ks.length = m1 := ⟨_, rfl⟩
    rw [hm1] at q0
    have HM1 := Lib.hid hm1
    have HN := Lib.hid hn
    clear hlen ev1 ev3 hn hm1
    by_cases hz : m1 = 0
    · subst hz
      have HC : Hid (∃ c, t1.cs = [c] ∧ inv o d (rt d) o none none c ∧ flat d c = delF key l) := Lib.hid (by
        obtain ⟨c, R, hx, hk, hc, h3, h4⟩ := HI1.out.1
        have hR : R = [] := by
          have := HM1.out
          rw [hk] at this
          simpa using this
        subst hR
        have hx2 : hx = none := h4
        subst hx2
        have h5 := inv_len h3
        refine ⟨c, by rw [hc]; rfl, inv_size h3 (by have := rt_le d; have : 1 ≤ lst o d := (by cases d <;> simp only [lst] <;> omega); omega) h5.2, ?_⟩
        rw [← HFL1.out]
        show _ = t1.cs.flatMap (flat d)
        rw [hc]; simp)
      obtain ⟨c, hc, hic, hfc⟩ := HC.out
      have hki : (t1.cs.map Tr.p)[0]? = some c.p := by rw [hc]; rfl
      obtain ⟨g3, rfl, ki, _⟩ := HN.out.kid hki
      have hcl : (t1.cs.map Tr.p).length = 1 := by rw [hc]; rfl
      rw [hcl] at q2
      have f1 := HT1.out.cells.2.2.2.2.2 1
      have HT2 := Lib.hid (HT1.out.root (c := c) (by rw [hc]; simp))
      have HI2 := Lib.hid hic
      have HFL2 := Lib.hid hfc
      have f2 := HT2.out.cells.2.2.2.2.2 2
      have e2 := HT2.out.cells.2.2.1
      clear HT1 HI1 HFL1 HP HN HM1 hc hic hfc hki hcl HC
      go_wp2_with fail
      refine HL.out.mono ?_; rintro e w' ⟨rfl, rfl⟩
      clear HL
      cases was with
      | true =>
        have HT3 := Lib.hid (HT2.out.setn ((n : Int) - 1))
        have HST := Lib.hid (stamp_any (key := key) HT3.out.blk HT3.out.map (by omega) HKEY.out HT3.out.ne)
        go_wp2_with fail
        refine HST.out.mono ?_
        rintro e w4 hs
        have he := hs.1
        subst he
        have HT5 := Lib.hid (HT3.out.stamped rfl rfl hs)
        clear hs HST
        go_wp2_with fail
        exact HE1.out d c w4 (by simp) HT5.out HI2.out HFL2.out
      | false =>
        go_wp2_with fail
        exact HE0.out d c _ (by simp) HT2.out HI2.out HFL2.out
    · have hz1 : ((m1 : Int) == 0) = false := by simpa using hz
      have HI2 : Hid (inv o (d + 1) (rt (d + 1)) o none none t1) := Lib.hid (inv_size HI1.out (by rw [HM1.out]; simp [rt]; omega) (inv_len HI1.out).2)
      have HT2 := Lib.hid HT1.out
      have HFL2 := Lib.hid HFL1.out
      have f2 := HT2.out.cells.2.2.2.2.2 2
      have e2 := HT2.out.cells.2.2.1
      have HP2 := Lib.hid HP.out
      clear HT1 HI1 HFL1 HP HN hz
      go_wp2_with fail
      refine HL.out.mono ?_; rintro e w' ⟨rfl, rfl⟩
      clear HL
      cases was with
      | true =>
        have HT3 := Lib.hid (HT2.out.setn ((n : Int) - 1))
        have HST := Lib.hid (stamp_any (key := key) HT3.out.blk HT3.out.map (by omega) HKEY.out HT3.out.ne)
        go_wp2_with fail
        refine HST.out.mono ?_
        rintro e w4 hs
        have he := hs.1
        subst he
        have HT5 := Lib.hid (HT3.out.stamped rfl rfl hs)
        clear hs HST
        go_wp2_with fail
        exact HE1.out (d + 1) t1 w4 (by simp) HT5.out HI2.out HFL2.out
      | false =>
        go_wp2_with fail
        exact HE0.out (d + 1) t1 _ (by simp) HT2.out HI2.out HFL2.out
end Go.Proofs.Ytjoopjmcnkiieaa

/- The reference's Get and Stamp; the tree's New, Len, Changes, Stamp. Conditions: what is asked is there. -/
namespace Go.Proofs.Ytjoopjmcnkiieaa
open Go.RowKit Go.Lib Go.Maps
set_option linter.unusedSimpArgs false
set_option linter.unusedVariables false

theorem getF_cons (key : ByteArray) (e : ByteArray × Int) (l : List (ByteArray × Int)) : getF key (e :: l) = if e.1 = key then some e.2 else getF key l := by
  unfold getF
  rw [List.find?_cons]
  by_cases h : e.1 = key
  · simp [h]
  · simp [h]
set_option maxRecDepth 100000 in
set_option maxHeartbeats 4000000 in
theorem rget_any {xb : Nat} {G : Nat → Nat} {l : List (ByteArray × Int)} {Hh : List ByteArray} {key : ByteArray} {w : World} (h : IsRef w xb G l Hh) (hl : l.length ≤ 1000000) :
    Calls Try.prog 35 #[.pointer (some ⟨xb, 0, none⟩), .string key] w fun e w' => e = .returned (.tuple #[.int .i64 ((getF key l).getD 0), .bool (getF key l).isSome]) ∧ w = w' := by
  obtain ⟨v1, v2, v3, hr, rfl, h1⟩ := h
  obtain ⟨K, hK⟩ : ∃ K, l.map (·.1) = K := ⟨_, rfl⟩
  obtain ⟨V, hV⟩ : ∃ V, l.map (·.2) = V := ⟨_, rfl⟩
  have hlz : l = K.zip V := by rw [← hK, ← hV, zip_maps]
  have hVK : V.length = K.length := by rw [← hK, ← hV]; simp
  rw [hK, hV] at hr
  obtain ⟨n, hn⟩ : ∃ n, K.length = n := ⟨_, rfl⟩
  have hn6 : n ≤ 1000000 := by rw [← hn, ← hK]; simpa using hl
  have hln : l.length = n := by rw [← hn, ← hK]; simp
  have HST0 := Rs.start hr h1
  obtain ⟨a1, k1, a2, k2, a3, k3, rfl, rfl, rfl, l1, l2, l3, m1, m2, m3⟩ := HST0.forms
  rw [hVK, hn] at HST0
  have HT := Lib.hid HST0
  have d0 := HST0.cell
  have HVK := Lib.hid hVK
  have HN := Lib.hid hn
  have HLZ := Lib.hid hlz
  have HLN := Lib.hid hln
  obtain ⟨R, hR⟩ : ∃ R, getF key l = R := ⟨_, rfl⟩
  rw [hR]
  have HR := Lib.hid hR
  obtain ⟨Q, hQ⟩ : ∃ Q, (fun (e : Ending) (w' : World) => e = .returned (.tuple #[.int .i64 (R.getD 0), .bool R.isSome]) ∧ w = w') = Q := ⟨_, rfl⟩
  have HQ : Hid (∀ r, R = r → Q (.returned (.tuple #[.int .i64 (r.getD 0), .bool r.isSome])) w) := Lib.hid (by intro r hr; subst hr; rw [← hQ]; exact ⟨rfl, rfl⟩)
  rw [hQ]
  clear hr h1 hK hV hlz hVK hn hl hln HST0 l1 l2 l3 m1 m2 m3 hQ hR
  go_enter Try.func35, Try.ntmps35
  go_wp2_with fail
  go_loop [6] (fun iv => ∃ j : Nat, iv = .int .i64 j ∧ j ≤ n ∧ Hid (getF key (l.drop j) = R)) (fun iv => n - (intOf iv).toNat)
  case atStart => exact ⟨0, rfl, Nat.zero_le _, HR⟩
  case round =>
    obtain ⟨j, rfl, hj, HD⟩ := hrel
    have hj0 : (0 : Int) ≤ j := by omega
    by_cases hjn : j < n
    · have hjn' : (j : Int) < n := by omega
      obtain ⟨y, hy⟩ : ∃ y, K[j]? = some y := get_some (by have := HN.out; omega)
      obtain ⟨z, hz⟩ : ∃ z, V[j]? = some z := get_some (by have := HN.out; have := HVK.out; omega)
      obtain ⟨g1, rfl, kc1, _⟩ := HT.out.key hy
      obtain ⟨g2, rfl, vc1, _⟩ := HT.out.num hz
      have hj1 : IntKind.i64.wrap ((j : Int) + 1) = (j : Int) + 1 := IntWalk.i64_in _ (by omega)
      have HS : Hid (l.drop j = (y, z) :: l.drop (j + 1)) := Lib.hid (by
        have h2 : l[j]? = some (y, z) := by rw [HLZ.out]; exact take_zip hy hz
        obtain ⟨h3, h4⟩ := List.getElem?_eq_some_iff.1 h2
        rw [List.drop_eq_getElem_cons h3, h4])
      have hbe := ba_beq y key
      clear hy hz
      by_cases hyk : y = key
      · have h4 : (y.toList == key.toList) = true := by rw [hbe]; simpa using hyk
        have HE := Lib.hid (HQ.out (some z) (by rw [← HD.out, HS.out, getF_cons, if_pos hyk]))
        clear hbe hyk
        go_wp2_with fail
        exact HE.out
      · have h4 : (y.toList == key.toList) = false := by rw [hbe]; simpa using hyk
        have HD2 : Hid (getF key (l.drop (j + 1)) = R) := Lib.hid (by have h5 := HD.out; rw [HS.out, getF_cons, if_neg hyk] at h5; exact h5)
        clear hbe hyk
        go_wp2_with fail
        go_round
        case rel => exact ⟨j + 1, by go_num, by omega, HD2⟩
        case measure => simp [intOf]; omega
    · have hjn' : ¬ (j : Int) < n := by omega
      have HE := Lib.hid (HQ.out none (by rw [← HD.out, List.drop_eq_nil_of_le (by have := HLN.out; omega)]; rfl))
      go_wp2_with fail
      exact HE.out
/-- The number of the last change of a key of the range; the newest ahead. -/
def stampF (a b : ByteArray) : List ByteArray → Nat
  | [] => 0
  | c :: r => if withinS c a b then r.length + 1 else stampF a b r
set_option maxRecDepth 100000 in
set_option maxHeartbeats 4000000 in
theorem rstamp_any {xb : Nat} {G : Nat → Nat} {l : List (ByteArray × Int)} {Hh : List ByteArray} {a b : ByteArray} {w : World} (h : IsRef w xb G l Hh) (hH : Hh.length ≤ 1000000) :
    Calls Try.prog 21 #[.pointer (some ⟨xb, 0, none⟩), .string a, .string b] w fun e w' => e = .returned (.int .i64 (stampF a b Hh.reverse)) ∧ w = w' := by
  obtain ⟨v1, v2, v3, hr, rfl, h1⟩ := h
  have HST0 := Rs.start hr h1
  obtain ⟨a1, k1, a2, k2, a3, k3, rfl, rfl, rfl, l1, l2, l3, m1, m2, m3⟩ := HST0.forms
  obtain ⟨n, hn⟩ : ∃ n, Hh.length = n := ⟨_, rfl⟩
  rw [hn] at HST0 hH
  have HT := Lib.hid HST0
  have d0 := HST0.cell
  have HN := Lib.hid hn
  obtain ⟨Q, hQ⟩ : ∃ Q, (fun (e : Ending) (w' : World) => e = .returned (.int .i64 (stampF a b Hh.reverse)) ∧ w = w') = Q := ⟨_, rfl⟩
  have HQ : Hid (∀ r : Nat, stampF a b Hh.reverse = r → Q (.returned (.int .i64 r)) w) := Lib.hid (by intro r hr; subst hr; rw [← hQ]; exact ⟨rfl, rfl⟩)
  rw [hQ]
  clear hr h1 hn HST0 l1 l2 l3 m1 m2 m3 hQ
  go_enter Try.func21, Try.ntmps21
  go_wp2_with fail
  go_loop [7, 8] (fun rv iv => ∃ (j r : Nat), rv = .int .i64 r ∧ iv = .int .i64 j ∧ j ≤ n ∧ Hid (stampF a b (Hh.take j).reverse = r)) (fun _ iv => n - (intOf iv).toNat)
  case atStart => exact ⟨0, 0, rfl, rfl, Nat.zero_le _, Lib.hid rfl⟩
  case round =>
    obtain ⟨j, r, rfl, rfl, hj, HD⟩ := hrel
    have hj0 : (0 : Int) ≤ j := by omega
    by_cases hjn : j < n
    · have hjn' : (j : Int) < n := by omega
      obtain ⟨y, hy⟩ : ∃ y, Hh[j]? = some y := get_some (by have := HN.out; omega)
      obtain ⟨g1, rfl, kc1, _⟩ := HT.out.chg hy
      have hj1 : IntKind.i64.wrap ((j : Int) + 1) = (j : Int) + 1 := IntWalk.i64_in _ (by omega)
      have HW := Lib.hid (rwithin_any y a b w)
      have HS : Hid ((Hh.take (j + 1)).reverse = y :: (Hh.take j).reverse ∧ (Hh.take j).reverse.length = j) := Lib.hid (by
        have h2 := (List.getElem?_eq_some_iff.1 hy).1
        rw [take_succ_some hy]
        simp; omega)
      clear hy
      cases hw : withinS y a b with
      | true =>
        rw [hw] at HW
        have HD2 : Hid (stampF a b (Hh.take (j + 1)).reverse = j + 1) := Lib.hid (by rw [HS.out.1]; simp only [stampF]; rw [if_pos hw, HS.out.2])
        clear hw
        go_wp2_with (go_at_call 27; refine HW.out.mono ?_; clear HW; rintro e w' ⟨rfl, rfl⟩)
        go_round
        case rel => exact ⟨j + 1, j + 1, by go_num, by go_num, by omega, HD2⟩
        case measure => simp [intOf]; omega
      | false =>
        rw [hw] at HW
        have HD2 : Hid (stampF a b (Hh.take (j + 1)).reverse = r) := Lib.hid (by rw [HS.out.1]; simp only [stampF]; rw [if_neg (by simp [hw])]; exact HD.out)
        clear hw
        go_wp2_with (go_at_call 27; refine HW.out.mono ?_; clear HW; rintro e w' ⟨rfl, rfl⟩)
        go_round
        case rel => exact ⟨j + 1, r, rfl, by go_num, by omega, HD2⟩
        case measure => simp [intOf]; omega
    · have hjn' : ¬ (j : Int) < n := by omega
      have HE := Lib.hid (HQ.out r (by rw [← HD.out, List.take_of_length_le (by have := HN.out; omega)]))
      go_wp2_with fail
      exact HE.out
theorem tlen_any {w : World} {o tb : Nat} {F : Nat → Nat} {l : List (ByteArray × Int)} {Hh : List ByteArray} (h : IsTree w o tb F l Hh) :
    Calls Try.prog 17 #[.pointer (some ⟨tb, 0, none⟩)] w fun e w' => e = .returned (.int .i64 l.length) ∧ w = w' := by
  obtain ⟨d, t, mb, hb, _⟩ := h
  have d2 := hb.cell (i := 2) rfl
  generalize l.length = n at *
  clear hb
  go_enter Try.func17, Try.ntmps17
  go_wp2_with fail
  go_ret
  exact ⟨rfl, rfl⟩
theorem tchanges_any {w : World} {o tb : Nat} {F : Nat → Nat} {l : List (ByteArray × Int)} {Hh : List ByteArray} (h : IsTree w o tb F l Hh) :
    Calls Try.prog 19 #[.pointer (some ⟨tb, 0, none⟩)] w fun e w' => e = .returned (.int .i64 Hh.length) ∧ w = w' := by
  obtain ⟨d, t, mb, hb, _⟩ := h
  have d2 := hb.cell (i := 3) rfl
  generalize Hh.length = n at *
  clear hb
  go_enter Try.func19, Try.ntmps19
  go_wp2_with fail
  go_ret
  exact ⟨rfl, rfl⟩
theorem tget_any {w : World} {o tb : Nat} (ho2 : o ≤ 64) {F : Nat → Nat} {l : List (ByteArray × Int)} {Hh : List ByteArray} {key : ByteArray} (h : IsTree w o tb F l Hh) :
    Calls Try.prog 25 #[.pointer (some ⟨tb, 0, none⟩), .string key] w (GetP (getF key l) w) := by
  obtain ⟨d, t, mb, hb, hm, hv, hfl, _⟩ := h
  have := get_any (tb := tb) (key := key) ho2 hm hv (Nat.le_refl _) ⟨fun _ e => (by cases e), fun _ e => (by cases e)⟩ (hb.cell rfl)
  rwa [hfl] at this
/-- How deep a tree of so many keys may be. -/
def DepthOk (o n d : Nat) : Prop := (d = 0 → n ≤ o) ∧ (0 < d → 2 * ((o + 1) / 2) * (o / 2 + 1) ^ (d - 1) ≤ n)
theorem flat_least {o : Nat} : ∀ {d a b : Nat} {lo hi : Option ByteArray} {t : Tr}, inv o d a b lo hi t → lst o d ≤ a → (o + 1) / 2 * (o / 2 + 1) ^ d ≤ (flat d t).length := by
  intro d
  induction d with
  | zero =>
    intro a b lo hi t h ha
    show _ ≤ (t.ks.zip t.vs).length
    rw [List.length_zip, h.1]
    have := h.2.2.2.2.1
    simp only [lst] at ha
    simp; omega
  | succ d ih =>
    intro a b lo hi t h ha
    obtain ⟨c, R, hx, hk, hc, h2, h3⟩ := h.1
    have hsz := h.2.1
    have hr : ∀ (R : List (ByteArray × Tr)) (x : Option ByteArray), rseg (fun lo hi c => inv o d (lst o d) o lo hi c) x R hi → R.length * ((o + 1) / 2 * (o / 2 + 1) ^ d) ≤ ((R.map (·.2)).flatMap (flat d)).length := by
      intro R
      induction R with
      | nil => intro x _; simp
      | cons y r ih2 =>
        intro x hx
        obtain ⟨_, h', h4, h5⟩ := hx
        have h6 := ih h4 (Nat.le_refl _)
        have h7 := ih2 _ h5
        simp only [List.map_cons, List.flatMap_cons, List.length_append, List.length_cons]
        rw [Nat.succ_mul]; omega
    have h4 := ih h2 (Nat.le_refl _)
    have h5 := hr R hx h3
    show _ ≤ (t.cs.flatMap (flat d)).length
    rw [hc, List.flatMap_cons, List.length_append]
    have hRl : o / 2 ≤ R.length := by
      have : t.ks.length = R.length := by rw [hk]; simp
      simp only [lst] at ha
      omega
    have h6 : o / 2 * ((o + 1) / 2 * (o / 2 + 1) ^ d) ≤ R.length * ((o + 1) / 2 * (o / 2 + 1) ^ d) := Nat.mul_le_mul_right _ hRl
    have h7 : (o + 1) / 2 * (o / 2 + 1) ^ (d + 1) = o / 2 * ((o + 1) / 2 * (o / 2 + 1) ^ d) + (o + 1) / 2 * (o / 2 + 1) ^ d := by
      rw [Nat.pow_succ, ← Nat.mul_assoc, Nat.mul_add, Nat.mul_one, Nat.mul_comm _ (o / 2)]
    omega
theorem depth_ok {o d : Nat} {t : Tr} (h : inv o d (rt d) o none none t) : DepthOk o (flat d t).length d := by
  constructor
  · rintro rfl
    show (t.ks.zip t.vs).length ≤ o
    rw [List.length_zip, h.1]
    have := h.2.2.2.2.2
    simp; omega
  · intro hd
    obtain ⟨d, rfl⟩ : ∃ e, d = e + 1 := ⟨d - 1, by omega⟩
    obtain ⟨c, R, hx, hk, hc, h2, h3⟩ := h.1
    have hsz := h.2.1
    have h4 := flat_least h2 (Nat.le_refl _)
    show _ ≤ (t.cs.flatMap (flat d)).length
    cases R with
    | nil =>
      have : t.ks.length = 0 := by rw [hk]; rfl
      simp only [rt] at hsz
      omega
    | cons y r =>
      obtain ⟨_, h', h5, h6⟩ := h3
      have h7 := flat_least h5 (Nat.le_refl _)
      rw [hc]
      simp only [List.flatMap_cons, List.map_cons, List.length_append, Nat.add_sub_cancel]
      rw [Nat.mul_assoc]
      omega
theorem depth_le {o n d : Nat} (ho : 3 ≤ o) (h : DepthOk o n d) : d ≤ n := by
  rcases Nat.eq_zero_or_pos d with rfl | hd
  · exact Nat.zero_le _
  · have h1 := h.2 hd
    have h2 : 2 ^ (d - 1) ≤ (o / 2 + 1) ^ (d - 1) := Nat.pow_le_pow_left (by omega) _
    have h3 : d - 1 < 2 ^ (d - 1) := Nat.lt_two_pow_self
    have h4 : 1 * (o / 2 + 1) ^ (d - 1) ≤ 2 * ((o + 1) / 2) * (o / 2 + 1) ^ (d - 1) := Nat.mul_le_mul_right _ (by omega)
    omega
def DepthP (o n : Nat) (w : World) (e : Ending) (w' : World) : Prop := ∃ d : Nat, e = .returned (.int .i64 ((d : Int) + 1)) ∧ DepthOk o n d ∧ w = w'
theorem tdepth_any {w : World} {o tb : Nat} (ho3 : 3 ≤ o) (ho2 : o ≤ 64) {F : Nat → Nat} {l : List (ByteArray × Int)} {Hh : List ByteArray} (h : IsTree w o tb F l Hh) (hl : l.length ≤ 1000000) :
    Calls Try.prog 24 #[.pointer (some ⟨tb, 0, none⟩)] w (DepthP o l.length w) := by
  obtain ⟨d, t, mb, hb, hm, hv, hfl, _⟩ := h
  have hok := depth_ok hv
  rw [hfl] at hok
  refine (depth_any (tb := tb) ho2 hm hv (Nat.le_refl _) (by have := depth_le ho3 hok; omega) (hb.cell rfl)).mono ?_
  rintro e w' ⟨he, hw⟩
  exact ⟨d, he, hok, hw⟩
end Go.Proofs.Ytjoopjmcnkiieaa

/- The tree's New and Stamp. Conditions: none. -/
namespace Go.Proofs.Ytjoopjmcnkiieaa
open Go.RowKit Go.Lib Go.Maps
set_option linter.unusedSimpArgs false
set_option linter.unusedVariables false

theorem fp_nil (p k : Nat) : fp 0 (Tr.mk p (.slice none 0 0) (.slice none 0 0) (.slice none 0 0) [] [] []) k = if k = p then 1 else 0 := by
  show ow p (.slice none 0 0) (.slice none 0 0) (.slice none 0 0) k = _
  unfold ow
  rw [rb_nil]; omega
/-- What New leaves: an empty tree in new blocks. -/
def NewP (o : Nat) (w : World) (e : Ending) (w' : World) : Prop :=
  ∃ tb F, e = .returned (.tuple #[.pointer (some ⟨tb, 0, none⟩), .int .i64 0]) ∧ IsTree w' o tb F [] [] ∧ Below w.heap.size w w' ∧ ∀ k, k < w.heap.size → F k = 0
set_option maxRecDepth 100000 in
set_option maxHeartbeats 4000000 in
theorem new_any {o : Nat} (ho3 : 3 ≤ o) (ho2 : o ≤ 64) (w : World) : Calls Try.prog 13 #[.int .i64 o] w (NewP o w) := by
  have h1 : ¬ ((o : Int) < 3) := by omega
  have h2 : ¬ (64 < (o : Int)) := by omega
  obtain ⟨Q, hQ⟩ : ∃ Q, NewP o w = Q := ⟨_, rfl⟩
  have HQ : Hid (Q (.returned (.tuple #[.pointer (some ⟨w.heap.size + 1 + 1, 0, none⟩), .int .i64 0])) (((w.alloc (.cells #[.slice none 0 0, .slice none 0 0, .slice none 0 0] 69)).alloc (.map #[] 0)).alloc (.cells #[.int .i64 o, .pointer (some ⟨w.heap.size, 0, none⟩), .int .i64 0, .int .i64 0, .map (some (w.heap.size + 1))] 64))) := Lib.hid (by
    rw [← hQ]
    have hB : Below w.heap.size w (((w.alloc (.cells #[.slice none 0 0, .slice none 0 0, .slice none 0 0] 69)).alloc (.map #[] 0)).alloc (.cells #[.int .i64 o, .pointer (some ⟨w.heap.size, 0, none⟩), .int .i64 0, .int .i64 0, .map (some (w.heap.size + 1))] 64)) :=
      (((Below.refl _ _).alloc (Nat.le_refl _) _).alloc (by simp) _).alloc (by simp; omega) _
    refine ⟨_, fun k => fp 0 (Tr.mk w.heap.size (.slice none 0 0) (.slice none 0 0) (.slice none 0 0) [] [] []) k + tbmb (w.heap.size + 1 + 1) (w.heap.size + 1) k, rfl, ⟨0, Tr.mk w.heap.size (.slice none 0 0) (.slice none 0 0) (.slice none 0 0) [] [] [], w.heap.size + 1, ?_, ⟨⟨?_, Arr.nil, Arr.nil, Arr.nil⟩, rfl⟩, ?_, rfl, ?_, fun _ => rfl, ?_⟩, hB, ?_⟩
    · have := Block.new ((w.alloc (.cells #[.slice none 0 0, .slice none 0 0, .slice none 0 0] 69)).alloc (.map #[] 0)) [.int .i64 o, .pointer (some ⟨w.heap.size, 0, none⟩), .int .i64 0, .int .i64 0, .map (some (w.heap.size + 1))] 64
      rwa [World.size_alloc, World.size_alloc] at this
    · exact ((Block.new w [.slice none 0 0, .slice none 0 0, .slice none 0 0] 69).alloc _).alloc _
    · refine ⟨rfl, ?_, fun k hk => (by cases hk), fun x y e => (by cases e), Nat.zero_le _, Nat.zero_le _⟩
      intro i j x y _ hx
      simp at hx
    · have hm := MapIs.made (w.alloc (.cells #[.slice none 0 0, .slice none 0 0, .slice none 0 0] 69)) KS
      rw [World.size_alloc] at hm
      exact hm.of_heap (Below.heap_alloc _ _ _ (by simp))
    · intro k
      show fp 0 (Tr.mk w.heap.size (.slice none 0 0) (.slice none 0 0) (.slice none 0 0) [] [] []) k + tbmb (w.heap.size + 1 + 1) (w.heap.size + 1) k ≤ 1
      rw [fp_nil]
      unfold tbmb
      split <;> split <;> split <;> omega
    · intro k hk
      show fp 0 (Tr.mk w.heap.size (.slice none 0 0) (.slice none 0 0) (.slice none 0 0) [] [] []) k + tbmb (w.heap.size + 1 + 1) (w.heap.size + 1) k = 0
      rw [fp_nil]
      unfold tbmb
      rw [if_neg (by omega), if_neg (by omega), if_neg (by omega)])
  rw [hQ]
  have hmm := @run_makeMap Try.prog
  clear hQ
  go_enter Try.func13, Try.ntmps13
  go_wp2_with fail
  exact HQ.out
set_option maxHeartbeats 2000000 in
theorem new_no {m : Int} (h : ¬ (3 ≤ m ∧ m ≤ 64)) (w : World) : Calls Try.prog 13 #[.int .i64 m] w fun e w' => e = .returned (.tuple #[.pointer none, .int .i64 21]) ∧ w = w' := by
  by_cases h1 : m < 3
  · clear h
    go_enter Try.func13, Try.ntmps13
    go_wp2_with fail
    go_ret2
    exact ⟨rfl, rfl⟩
  · have h2 : 64 < m := by omega
    clear h
    go_enter Try.func13, Try.ntmps13
    go_wp2_with fail
    go_ret2
    exact ⟨rfl, rfl⟩
theorem lastAt_le (a b : ByteArray) : ∀ {H : List ByteArray} {x : ByteArray} {n : Nat}, lastAt H x = some n → withinS x a b = true → n ≤ stampF a b H := by
  intro H
  induction H with
  | nil => intro x n h; cases h
  | cons c r ih =>
    intro x n h hw
    simp only [lastAt] at h
    simp only [stampF]
    by_cases e : x = c
    · subst e
      rw [if_pos rfl] at h
      injection h with h
      rw [if_pos hw]; omega
    · rw [if_neg e] at h
      have h2 := ih h hw
      split
      · have : ∀ {H : List ByteArray}, stampF a b H ≤ H.length := by
          intro H
          induction H with
          | nil => exact Nat.le_refl _
          | cons c r ih => simp only [stampF]; split <;> simp; omega
        have := this (H := r)
        omega
      · exact h2
theorem stampF_at (a b : ByteArray) : ∀ (H : List ByteArray), stampF a b H = 0 ∨ ∃ x, x ∈ H ∧ withinS x a b = true ∧ lastAt H x = some (stampF a b H) := by
  intro H
  induction H with
  | nil => exact .inl rfl
  | cons c r ih =>
    simp only [stampF]
    by_cases hc : withinS c a b = true
    · rw [if_pos hc]
      exact .inr ⟨c, List.mem_cons_self, hc, by simp [lastAt]⟩
    · rw [if_neg hc]
      rcases ih with h | ⟨x, hx, hw, hl⟩
      · exact .inl h
      · refine .inr ⟨x, List.mem_cons_of_mem _ hx, hw, ?_⟩
        simp only [lastAt]
        rw [if_neg (fun e => hc (by rw [← e]; exact hw))]
        exact hl
theorem lastAt_len : ∀ {H : List ByteArray} {x : ByteArray} {n : Nat}, lastAt H x = some n → n ≤ H.length := by
  intro H
  induction H with
  | nil => intro x n h; cases h
  | cons c r ih =>
    intro x n h
    simp only [lastAt] at h
    split at h
    · injection h with h; simp; omega
    · have := ih h; simp; omega
/-- What the loop knows: the greatest stamp of those that have come. -/
structure StampAt (a b : ByteArray) (H : List ByteArray) (g0 : ByteArray → Option Value) (w wr : World) (mb r : Nat) (left : ByteArray → Bool) (cnt m : Nat) : Prop where
  g : MapGoes wr KS mb r H.length g0 left cnt
  bel : Below w.heap.size w wr
  le : ∀ x n, x.size ≤ maxLen → left x = false → lastAt H x = some n → withinS x a b = true → n ≤ m
  at_ : m = 0 ∨ ∃ x, withinS x a b = true ∧ lastAt H x = some m
set_option maxRecDepth 100000 in
set_option maxHeartbeats 4000000 in
theorem tstamp_any {w : World} {o tb : Nat} {F : Nat → Nat} {l : List (ByteArray × Int)} {Hh : List ByteArray} {a b : ByteArray} (h : IsTree w o tb F l Hh) (hH : Hh.length ≤ 1000000) (hsz : ∀ x ∈ Hh, x.size ≤ maxLen) :
    Calls Try.prog 20 #[.pointer (some ⟨tb, 0, none⟩), .string a, .string b] w fun e w' => e = .returned (.int .i64 (stampF a b Hh)) ∧ Below w.heap.size w w' := by
  obtain ⟨d, t, mb, hb, hm, hv, hfl, hM, hF, h1⟩ := h
  have d4 := hb.cell (i := 4) rfl
  obtain ⟨g0, hg0q⟩ : ∃ g0 : ByteArray → Option Value, (fun y => (lastAt Hh y).map fun n => numV n) = g0 := ⟨_, rfl⟩
  rw [hg0q] at hM
  have HGQ : Hid (∀ y, g0 y = (match lastAt Hh y with | some n => some (Value.int .i64 (n : Int)) | none => none)) := Lib.hid (fun y => by rw [← hg0q]; dsimp only; cases lastAt Hh y <;> rfl)
  clear hg0q
  have HM := Lib.hid hM
  have hmb := hM.lt
  obtain ⟨Q, hQ⟩ : ∃ Q, (fun (e : Ending) (w' : World) => e = .returned (.int .i64 (stampF a b Hh)) ∧ Below w.heap.size w w') = Q := ⟨_, rfl⟩
  have HQ : Hid (∀ (m : Nat) (W : World), stampF a b Hh = m → Below w.heap.size w W → Q (.returned (.int .i64 m)) W) := Lib.hid (by intro m W hm hb; subst hm; rw [← hQ]; exact ⟨rfl, hb⟩)
  rw [hQ]
  have HSZ := Lib.hid hsz
  have HHL := Lib.hid hH
  clear hb hm hv hfl hM hF h1 hQ hsz hH
  go_enter Try.func20, Try.ntmps20
  go_wp2_with (at_range; refine wpList_range_is _ rfl _ 62 rfl 9 2 KS Try.underlying62 mb _ _ rfl HM.out ?_; intro w0 cnt0 hg0 hgr0 hs0)
  have H0 : Hid (StampAt a b Hh g0 w w0 mb w.heap.size (fun x => (g0 x).isSome) cnt0 0) := Lib.hid ⟨hg0, (Below.refl _ _).grown hgr0 (Nat.le_refl _) (fun k e => by cases e), fun x n _ hx hl _ => by rw [HGQ.out, hl] at hx; simp at hx, .inl rfl⟩
  clear hg0 hgr0 hs0
  go_frame
  go_loopw [7] (fun lv wr => ∃ (m : Nat) (left : ByteArray → Bool) (cnt : Nat), lv = .int .i64 m ∧ Hid (StampAt a b Hh g0 w wr mb w.heap.size left cnt m)) (fun _ wr => wr.rangeLeft mb w.heap.size)
  case atStart => exact ⟨0, _, _, rfl, H0⟩
  case round =>
    clear H0
    obtain ⟨m, left, cnt, rfl, HS⟩ := hrel
    have HLE := Lib.hid HS.out.g.left_eq
    go_wp2_with (at_next; refine wpList_next_is _ rfl _ rfl 9 KS mb w.heap.size _ _ left cnt rfl HS.out.g ?_ ?_)
    · intro hdone
      have HD := Lib.hid hdone
      clear hdone
      have HE : Hid (stampF a b Hh = m) := Lib.hid (by
        have hs := HS.out
        rcases stampF_at a b Hh with h | ⟨x, hx, hw, hl⟩
        · rcases hs.at_ with h2 | ⟨y, hy, hyl⟩
          · rw [h, h2]
          · have := lastAt_le a b hyl hy; omega
        · have h2 := hs.le x _ (HSZ.out x hx) (HD.out x (HSZ.out x hx)) hl hw
          rcases hs.at_ with h3 | ⟨y, hy, hyl⟩
          · omega
          · have := lastAt_le a b hyl hy; omega)
      have HE2 := Lib.hid (HQ.out m wr HE.out HS.out.bel)
      clear HE HD HS
      go_wp2_with fail
      exact HE2.out
    · intro x c w1 cnt1 hok hlx hgx hg1 hlt hgr1 hs1 hen
      obtain ⟨n, hn, hc⟩ : ∃ n, lastAt Hh x = some n ∧ c = .int .i64 n := by
        rw [HGQ.out] at hgx
        cases hl : lastAt Hh x with
        | none => rw [hl] at hgx; cases hgx
        | some n => rw [hl] at hgx; injection hgx with hgx; exact ⟨n, rfl, hgx.symm⟩
      subst hc
      have hkv : KS.val x = Value.string x := rfl
      rw [hkv] at hen ⊢
      have hn6 : n ≤ 1000000 := by have := lastAt_len hn; have := HHL.out; omega
      have HW := Lib.hid (within_any x a b w1)
      have HG1 := Lib.hid hg1
      have HB1 : Hid (Below w.heap.size w w1) := Lib.hid (HS.out.bel.grown hgr1 HS.out.bel.size (fun k e => by cases e; exact Nat.le_refl _))
      have HN := Lib.hid hn
      have HLT := Lib.hid hlt
      have HLX := Lib.hid hlx
      clear hg1 hgr1 hn hlt hlx hok hgx hkv hs1
      have HNEXT : ∀ m', m ≤ m' → (withinS x a b = true → n ≤ m') → (m' = 0 ∨ ∃ x, withinS x a b = true ∧ lastAt Hh x = some m') → Hid (StampAt a b Hh g0 w w1 mb w.heap.size (fun y => left y && !decide (y = x)) cnt1 m') := fun m' h1 h2 h3 => Lib.hid ⟨HG1.out, HB1.out, fun y k hys hy hl hw => by
        by_cases e : y = x
        · subst e
          rw [HN.out] at hl; injection hl with hl
          have := h2 hw; omega
        · have hly : left y = false := by simpa [e] using hy
          have := HS.out.le y k hys hly hl hw; omega, h3⟩
      have HX := Lib.hid HNEXT
      clear HNEXT
      cases hw : withinS x a b with
      | true =>
        rw [hw] at HW
        by_cases hnm : n ≤ m
        · have hnm' : (n : Int) ≤ m := by omega
          have hmx : max (m : Int) n = m := by omega
          have HR := Lib.hid (HX.out m (Nat.le_refl _) (fun _ => hnm) HS.out.at_).out
          clear HX hw
          go_wp2_with (go_at_call 36; refine HW.out.mono ?_; clear HW; rintro e w' ⟨rfl, rfl⟩)
          go_roundw
          case rel => exact ⟨m, _, cnt1, rfl, Lib.hid HR.out⟩
          case measure => rw [HG1.out.left_eq, HLE.out]; exact HLT.out
        · have hnm' : ¬ (n : Int) ≤ m := by omega
          have hnm'' : (m : Int) < n := by omega
          have hmx : max (m : Int) n = n := by omega
          have HR := Lib.hid (HX.out n (by omega) (fun _ => Nat.le_refl _) (.inr ⟨x, hw, HN.out⟩)).out
          clear HX hw
          go_wp2_with (go_at_call 36; refine HW.out.mono ?_; clear HW; rintro e w' ⟨rfl, rfl⟩)
          go_roundw
          case rel => exact ⟨n, _, cnt1, rfl, Lib.hid HR.out⟩
          case measure => rw [HG1.out.left_eq, HLE.out]; exact HLT.out
      | false =>
        rw [hw] at HW
        have HR := Lib.hid (HX.out m (Nat.le_refl _) (fun h => by rw [hw] at h; cases h) HS.out.at_).out
        clear HX hw
        go_wp2_with (go_at_call 36; refine HW.out.mono ?_; clear HW; rintro e w' ⟨rfl, rfl⟩)
        go_roundw
        case rel => exact ⟨m, _, cnt1, rfl, Lib.hid HR.out⟩
        case measure => rw [HG1.out.left_eq, HLE.out]; exact HLT.out
end Go.Proofs.Ytjoopjmcnkiieaa

/- The law's all: the keys of a range, gathered; or that there are more than so many. Conditions: the tree is there. -/
namespace Go.Proofs.Ytjoopjmcnkiieaa
open Go.RowKit Go.Lib Go.Shelf
set_option linter.unusedSimpArgs false
set_option linter.unusedVariables false
attribute [local go_sem] Oper.semAt_some

/-- A function is not nil. -/
theorem run_eql_func_nil {P : Program} (w : World) {t : TypeId} {ps rs : Array TypeId} {vd : Bool} (ht : P.underlying t = some (.func ps rs vd)) (f : Fn) (x y : Array Value) : (binOp .eql t (.func f x y) .nilFunc).run P w = .ok (.bool false) w := by
  have h : ∀ d : Nat, (Op.equalIn (d + 1) t (.func f x y) .nilFunc).run P w = .ok false w := fun d => by
    simp [Op.equalIn, run_underlying ht]
  simp only [binOp]
  simp [Op.equal, Op.maxDepth, h 9999]
theorem Try.eqlF (w : World) (f : Fn) (x y : Array Value) : (binOp .eql 32 (.func f x y) .nilFunc).run Try.prog w = .ok (.bool false) w := run_eql_func_nil w Try.underlying32 f x y
theorem own_form' {W : World} {B : Nat} {e : TypeId} {v : Value} {k : Nat} {xs : List Value} (h : W.ownsRow B e 1 v k xs) : ∃ a c, v = .slice a k c := by
  rcases h.2 with ⟨rfl, rfl⟩ | ⟨g, cap, cur, rfl, _⟩
  · exact ⟨none, 0, rfl⟩
  · exact ⟨_, cap, rfl⟩
theorem boxOther {W : World} {B C : Nat} {t : TypeId} {v : Value} (h : Boxed W B t v) (hne : B ≠ C) (u : Value) : Boxed (W.setCell ⟨C, 0, none⟩ u) B t v := h.kept (Go.grownBy_setCell' W C u) (fun e => hne (by injection e))
/-- A box other than the row's lies as it lay behind the append and the store into another box. -/
theorem boxKept {W w1 : World} {n₀ B C : Nat} {t e : TypeId} {u v v' : Value} {k : Nat} {xs : List Value} {tmp : Obj} (h : Boxed W B t u) (hgrow : (W.alloc tmp).grownBy w1 v.ownBlock) (hrow : W.ownsRow n₀ e 1 v k xs) (hne : B ≠ C) (hte : t ≠ e := by decide) :
    Boxed (w1.setCell ⟨C, 0, none⟩ v') B t u := boxOther ((h.alloc tmp).kept hgrow (h.not_row hte hrow)) hne v'
def keysOf (q : List (ByteArray × Int)) : List Value := q.map fun e => Value.string e.1
def AllP (q : List (ByteArray × Int)) (most : Nat) (w : World) (e : Ending) (w' : World) : Prop :=
  Below w.heap.size w w' ∧ ((q.length ≤ most ∧ ∃ v, e = .returned (.tuple #[v, .bool true]) ∧ w'.ownsRow w.heap.size 9 1 v q.length (keysOf q)) ∨ (most < q.length ∧ e = .returned (.tuple #[.slice none 0 0, .bool false])))
/-- What the loop of all holds between two rounds. -/
structure AllI (w : World) (most : Nat) (pre : List (ByteArray × Int)) (W : World) : Prop where
  len : pre.length ≤ most
  bm : Boxed W w.heap.size 3 (.int .i64 most)
  b1 : Boxed W (w.heap.size + 1) 27 (.slice none 0 0)
  b2 : Boxed W (w.heap.size + 1 + 1) 4 (.bool false)
  b3 : ∃ v, Boxed W (w.heap.size + 1 + 1 + 1) 27 v ∧ W.ownsRow w.heap.size 9 1 v pre.length (keysOf pre)
structure AllX (w : World) (most : Nat) (c : Code) (pre : List (ByteArray × Int)) (W : World) : Prop where
  ret : c = .ret
  len : most < pre.length
  b1 : Boxed W (w.heap.size + 1) 27 (.slice none 0 0)
  b2 : Boxed W (w.heap.size + 1 + 1) 4 (.bool false)
theorem boxed_own' {β : Type} (B : Nat) (t : TypeId) (v : Value) : Own (fun (_ : β) W => Boxed W B t v) := by
  rintro s X Y row hv hg hrow
  refine hv.kept hg (fun e' => ?_)
  obtain ⟨o, ho, hc⟩ := hrow B e'.symm
  rw [show X.heap[B]? = _ from hv] at ho; cases ho; cases hc
theorem AllI.own (w : World) (most : Nat) : Own (AllI w most) := by
  intro s X Y row h hg hr
  exact ⟨h.len, boxed_own' (β := Unit) _ _ _ () X Y row h.bm hg hr, boxed_own' (β := Unit) _ _ _ () X Y row h.b1 hg hr, boxed_own' (β := Unit) _ _ _ () X Y row h.b2 hg hr, by
    obtain ⟨v, h1, h2, _⟩ := holdsRow_own w.heap.size (w.heap.size + 1 + 1 + 1) 27 9 1 (fun pre : List (ByteArray × Int) => pre.length) keysOf (fun _ _ => True) s X Y row (by obtain ⟨v, h1, h2⟩ := h.b3; exact ⟨v, h1, h2, trivial⟩) hg hr
    exact ⟨v, h1, h2⟩⟩
theorem AllX.own (w : World) (most : Nat) (c : Code) : Own (AllX w most c) := by
  intro s X Y row h hg hr
  exact ⟨h.ret, h.len, boxed_own' (β := Unit) _ _ _ () X Y row h.b1 hg hr, boxed_own' (β := Unit) _ _ _ () X Y row h.b2 hg hr⟩
set_option maxRecDepth 100000 in
set_option maxHeartbeats 16000000 in
theorem all_any {w : World} {o tb : Nat} (ho2 : o ≤ 64) {F : Nat → Nat} {l : List (ByteArray × Int)} {Hh : List ByteArray} {a b : ByteArray} {most : Nat} (h : IsTree w o tb F l Hh) (hmost : most ≤ 1000000) (hl : l.length ≤ 1000000) :
    Calls Try.prog 16 #[.pointer (some ⟨tb, 0, none⟩), .string a, .string b, .int .i64 most] w (AllP (part a b l) most w) := by
  have htb := h
  obtain ⟨d, t, mb, hb, hm, hv, hfl, hM, hF, h1⟩ := h
  have hql : (part a b l).length ≤ 1000000 := Nat.le_trans (List.length_filter_le _ _) hl
  have hlt : ∀ k, 0 < fp d t k → k < w.heap.size := fun k hk => by
    rcases Nat.lt_or_ge k w.heap.size with h2 | h2
    · exact h2
    · have h3 := htb.hi k h2
      rw [hF] at h3; omega
  have htl := hb.lt
  have hcr := hb.cell (i := 1) rfl
  obtain ⟨Q, hQ⟩ : ∃ Q, AllP (part a b l) most w = Q := ⟨_, rfl⟩
  have HQ := Lib.hid hQ
  rw [hQ]
  have HS := Lib.hid (scan_any tb a b)
  obtain ⟨iS, siS, szS, s1S, s2S⟩ := info_parts Try.infoS
  have hEF := Try.eqlF
  refine (callsIn_wide (n := 6)).1 ?_
  refine callsIn_of_wp_marks Try.func16 rfl trivial ?_ rfl
  simp only [Try.ntmps16, List.size_toArray, List.length_cons, List.length_nil, Nat.reduceAdd, Nat.reduceSub, Array.replicate_succ, Array.replicate_zero, List.push_toArray, List.append_toArray, List.nil_append, List.cons_append]
  gi_wp2_with (refine ⟨trivial, ?_⟩; gi_at_call 11; refine (callsIn_wide.2 (HS.out _)).mono ?_; clear HS; rintro e w' ⟨rfl, rfl⟩)
  clear hEF
  have x0 := Boxed.new w 3 (.int .i64 most)
  have x1 := Boxed.new (w.alloc (.cells #[.int .i64 most] 3)) 27 (.slice none 0 0)
  have x2 := Boxed.new ((w.alloc (.cells #[.int .i64 most] 3)).alloc (.cells #[.slice none 0 0] 27)) 4 (.bool false)
  have x3 := Boxed.new (((w.alloc (.cells #[.int .i64 most] 3)).alloc (.cells #[.slice none 0 0] 27)).alloc (.cells #[.bool false] 4)) 27 (.slice none 0 0)
  have x4 := Boxed.new ((((w.alloc (.cells #[.int .i64 most] 3)).alloc (.cells #[.slice none 0 0] 27)).alloc (.cells #[.bool false] 4)).alloc (.cells #[.slice none 0 0] 27)) 23 (.pointer (some ⟨tb, 0, none⟩))
  have x5 := Boxed.new (((((w.alloc (.cells #[.int .i64 most] 3)).alloc (.cells #[.slice none 0 0] 27)).alloc (.cells #[.bool false] 4)).alloc (.cells #[.slice none 0 0] 27)).alloc (.cells #[.pointer (some ⟨tb, 0, none⟩)] 23)) 9 (.string a)
  have x6 := Boxed.new ((((((w.alloc (.cells #[.int .i64 most] 3)).alloc (.cells #[.slice none 0 0] 27)).alloc (.cells #[.bool false] 4)).alloc (.cells #[.slice none 0 0] 27)).alloc (.cells #[.pointer (some ⟨tb, 0, none⟩)] 23)).alloc (.cells #[.string a] 9)) 9 (.string b)
  simp only [World.size_alloc] at x1 x2 x3 x4 x5 x6
  have hB0 : Below w.heap.size w (((((((w.alloc (.cells #[.int .i64 most] 3)).alloc (.cells #[.slice none 0 0] 27)).alloc (.cells #[.bool false] 4)).alloc (.cells #[.slice none 0 0] 27)).alloc (.cells #[.pointer (some ⟨tb, 0, none⟩)] 23)).alloc (.cells #[.string a] 9)).alloc (.cells #[.string b] 9)) :=
    (((((((Below.refl _ w).alloc (Nat.le_refl _) _).alloc (by simp) _).alloc (by simp; omega) _).alloc (by simp; omega) _).alloc (by simp; omega) _).alloc (by simp; omega) _).alloc (by simp; omega) _
  have y0 := (((((x0.alloc (.cells #[.slice none 0 0] 27)).alloc (.cells #[.bool false] 4)).alloc (.cells #[.slice none 0 0] 27)).alloc (.cells #[.pointer (some ⟨tb, 0, none⟩)] 23)).alloc (.cells #[.string a] 9)).alloc (.cells #[.string b] 9)
  have y1 := ((((x1.alloc (.cells #[.bool false] 4)).alloc (.cells #[.slice none 0 0] 27)).alloc (.cells #[.pointer (some ⟨tb, 0, none⟩)] 23)).alloc (.cells #[.string a] 9)).alloc (.cells #[.string b] 9)
  have y2 := (((x2.alloc (.cells #[.slice none 0 0] 27)).alloc (.cells #[.pointer (some ⟨tb, 0, none⟩)] 23)).alloc (.cells #[.string a] 9)).alloc (.cells #[.string b] 9)
  have y3 := ((x3.alloc (.cells #[.pointer (some ⟨tb, 0, none⟩)] 23)).alloc (.cells #[.string a] 9)).alloc (.cells #[.string b] 9)
  have y4 := (x4.alloc (.cells #[.string a] 9)).alloc (.cells #[.string b] 9)
  have y5 := x5.alloc (.cells #[.string b] 9)
  have hsz : (((((((w.alloc (.cells #[.int .i64 most] 3)).alloc (.cells #[.slice none 0 0] 27)).alloc (.cells #[.bool false] 4)).alloc (.cells #[.slice none 0 0] 27)).alloc (.cells #[.pointer (some ⟨tb, 0, none⟩)] 23)).alloc (.cells #[.string a] 9)).alloc (.cells #[.string b] 9)).heap.size = w.heap.size + 7 := by simp
  clear x0 x1 x2 x3 x4 x5
  generalize (((((((w.alloc (.cells #[.int .i64 most] 3)).alloc (.cells #[.slice none 0 0] 27)).alloc (.cells #[.bool false] 4)).alloc (.cells #[.slice none 0 0] 27)).alloc (.cells #[.pointer (some ⟨tb, 0, none⟩)] 23)).alloc (.cells #[.string a] 9)).alloc (.cells #[.string b] 9)) = W0 at *
  have hstops := scan_stops (o := o) (n₀ := w.heap.size) (tb := tb) (Bt := w.heap.size + 1 + 1 + 1 + 1) (Ba := w.heap.size + 1 + 1 + 1 + 1 + 1) (Bb := w.heap.size + 1 + 1 + 1 + 1 + 1 + 1) (6 - 1) ho2 a b (mem_below hm hlt hB0) hv (Nat.le_refl _) hlt (by omega) htl y4.cell y5.cell x6.cell ((hB0.cell (p := ⟨tb, 1, none⟩) htl).trans hcr)
  rw [hfl] at hstops
  refine wpIn_rangeFunc_ownG rfl (by decide) (gf := 28) (lb := #[.pointer (some ⟨w.heap.size + 1 + 1 + 1 + 1, 0, none⟩), .pointer (some ⟨w.heap.size + 1 + 1 + 1 + 1 + 1, 0, none⟩), .pointer (some ⟨w.heap.size + 1 + 1 + 1 + 1 + 1 + 1, 0, none⟩)]) rfl trivial (enters_of Try.func28 (by kernel_rfl) rfl)
    hstops belowK_t (belowK_b (by omega)) (Below.refl _ _) ?hps
    (fun pre W => AllI w most pre W ∧ Below w.heap.size w W) (fun c pre W => AllX w most c pre W ∧ Below w.heap.size w W)
    (OwnFrom.and ((AllI.own w most).from _) (ownFrom_below (Nat.le_refl _) (by omega)))
    (fun c => OwnFrom.and ((AllX.own w most c).from _) (ownFrom_below (Nat.le_refl _) (by omega)))
    ⟨⟨Nat.zero_le _, y0, y1, y2, _, y3, World.ownsRow_nil _ _ _ _⟩, hB0⟩ (fun x => { tmps := #[.pointer (some ⟨tb, 0, none⟩), .string a, .string b, .int .i64 most, undef, undef, undef, .pointer (some ⟨w.heap.size, 0, none⟩), .pointer (some ⟨w.heap.size + 1, 0, none⟩), .pointer (some ⟨w.heap.size + 1 + 1, 0, none⟩), .pointer (some ⟨w.heap.size + 1 + 1 + 1, 0, none⟩), .func (.func 28) #[] #[.pointer (some ⟨w.heap.size + 1 + 1 + 1 + 1, 0, none⟩), .pointer (some ⟨w.heap.size + 1 + 1 + 1 + 1 + 1, 0, none⟩), .pointer (some ⟨w.heap.size + 1 + 1 + 1 + 1 + 1 + 1, 0, none⟩)], .string x.1, .pointer (some ⟨tb, 0, none⟩), .string a, .string b, .func (.func 28) #[] #[.pointer (some ⟨w.heap.size + 1 + 1 + 1 + 1, 0, none⟩), .pointer (some ⟨w.heap.size + 1 + 1 + 1 + 1 + 1, 0, none⟩), .pointer (some ⟨w.heap.size + 1 + 1 + 1 + 1 + 1 + 1, 0, none⟩)], .func (.func 28) #[] #[.pointer (some ⟨w.heap.size + 1 + 1 + 1 + 1, 0, none⟩), .pointer (some ⟨w.heap.size + 1 + 1 + 1 + 1 + 1, 0, none⟩), .pointer (some ⟨w.heap.size + 1 + 1 + 1 + 1 + 1 + 1, 0, none⟩)], .bool false, .func (.func 28) #[] #[.pointer (some ⟨w.heap.size + 1 + 1 + 1 + 1, 0, none⟩), .pointer (some ⟨w.heap.size + 1 + 1 + 1 + 1 + 1, 0, none⟩), .pointer (some ⟨w.heap.size + 1 + 1 + 1 + 1 + 1 + 1, 0, none⟩)], .string x.1, .int .i64 x.2, undef, undef, undef, undef, undef, undef, undef, undef, undef], defers := [] }) ?assign ?body ?done ?stop
  case hps => intro x; rfl
  case assign =>
    intro l x W K hK
    simp only [encP]
    gi_wp2
    exact hK
  case body =>
    rintro l pre x W ⟨hI, hB⟩ hlt2
    obtain ⟨v, hbx, hrow⟩ := hI.b3
    obtain ⟨av, cv, rfl⟩ := own_form' hrow
    have c0 := hI.bm.cell
    have c1 := hI.b1.cell
    have f1 := hI.b1.frozen
    have c2 := hI.b2.cell
    have f2 := hI.b2.frozen
    have c3 := hbx.cell
    have HI := Lib.hid hI
    have HB := Lib.hid hB
    have HV := Lib.hid hbx
    have HROW := Lib.hid hrow
    have HLT := Lib.hid hlt2
    clear hI hbx hrow hB hlt2 hstops hB0 hm hv hlt htl hcr y0 y1 y2 y3 y4 y5 x6 hsz
    by_cases hge : most ≤ pre.length
    · have hge' : (most : Int) ≤ pre.length := by omega
      gi_wp2
      refine ⟨((KeepsOthers.setCell _ _ _).trans (KeepsOthers.setCell _ _ _)).from _, ⟨rfl, ?_, boxOther (HI.out.b1.set _) (by omega) _, (boxOther HI.out.b2 (by omega) _).set _⟩, ?_⟩
      · simp; omega
      · exact (HB.out.setCell (p := ⟨w.heap.size + 1, 0, none⟩) (by simp) _).setCell (p := ⟨w.heap.size + 1 + 1, 0, none⟩) (by simp; omega) _
    · have hge' : ¬ (most : Int) ≤ pre.length := by omega
      have hpl : pre.length ≤ 1000000 := by have := HLT.out; omega
      have hbs := HB.out.size
      gi_wp2_with (gi_at_builtin; refine wpListIn_append_own _ rfl _ _ 27 rfl w.heap.size 9 iS (.string ⟨#[]⟩) 1 16 Try.underlying27 siS szS s1S s2S rfl (by decide) _ _ _ rfl (HROW.out.alloc _) ⟨W.heap.size, 0, none⟩ 1 1 [.string x.1] rfl rfl (cell_one_new _ _ _) (by simp [Value.oneCell']) (by unfold maxLen; omega) (by omega) (by simp; omega) ?_; intro v' w1 hown' hgrow _; obtain ⟨g', cap', rfl⟩ := ownsRow_succ hown'; obtain ⟨hv1, hv2, hr2, hk2, hb2⟩ := HV.out.appended (by decide) HROW.out hbs (by omega) hown' hgrow; have hc1 := hv1.cell; have hf1 := hv1.frozen)
      exact ⟨hk2.from _, hb2, ⟨⟨by simp; omega, boxKept HI.out.bm hgrow HROW.out (by omega), boxKept HI.out.b1 hgrow HROW.out (by omega), boxKept HI.out.b2 hgrow HROW.out (by omega), _, hv2, by simpa [keysOf] using hr2⟩, HB.out.trans hb2⟩⟩
  case done =>
    rintro D ys W hD rfl ⟨hI, hB⟩ hK
    obtain ⟨v, hbx, hrow⟩ := hI.b3
    obtain ⟨av, cv, rfl⟩ := own_form' hrow
    have c1 := hI.b1.cell
    have f1 := hI.b1.frozen
    have c2 := hI.b2.cell
    have f2 := hI.b2.frozen
    have c3 := hbx.cell
    have HI := Lib.hid hI
    have HB := Lib.hid hB
    have HROW := Lib.hid hrow
    clear hI hrow hB hbx
    gi_wp2
    have hK1 := ((KeepsOthers.setCell W ⟨w.heap.size + 1, 0, none⟩ (.slice av (part a b l).length cv)).trans (KeepsOthers.setCell _ ⟨w.heap.size + 1 + 1, 0, none⟩ (.bool true))).same D _ hK rfl
    have e1 := boxOther (HI.out.b1.set (.slice av (part a b l).length cv)) (C := w.heap.size + 1 + 1) (by omega) (.bool true)
    have e2 := (boxOther HI.out.b2 (C := w.heap.size + 1) (by omega) (.slice av (part a b l).length cv)).set (.bool true)
    have r1 := cell_kept e1.cell (grownBy_putObj' _ D (.deferred none)) (fun r e => by cases e; exact ⟨_, hK1, rfl⟩)
    have r2 := cell_kept e2.cell (grownBy_putObj' _ D (.deferred none)) (fun r e => by cases e; exact ⟨_, hK1, rfl⟩)
    have hB2 : Below w.heap.size w ((W.setCell ⟨w.heap.size + 1, 0, none⟩ (.slice av (part a b l).length cv)).setCell ⟨w.heap.size + 1 + 1, 0, none⟩ (.bool true)) := (HB.out.setCell (p := ⟨w.heap.size + 1, 0, none⟩) (by simp) _).setCell (p := ⟨w.heap.size + 1 + 1, 0, none⟩) (by simp; omega) _
    have hR2 := ((HROW.out.kept (Go.grownBy_setCell' W (w.heap.size + 1) (.slice av (part a b l).length cv)) (.inr (HI.out.b1.not_row (by decide) HROW.out).symm)).kept (Go.grownBy_setCell' _ (w.heap.size + 1 + 1) (.bool true)) (.inr ((boxOther HI.out.b2 (C := w.heap.size + 1) (by omega) (.slice av (part a b l).length cv)).not_row (by decide) (HROW.out.kept (Go.grownBy_setCell' W (w.heap.size + 1) (.slice av (part a b l).length cv)) (.inr (HI.out.b1.not_row (by decide) HROW.out).symm))).symm))
    have hR3 := ownsRow_putObj hR2 (.deferred none) hK1 rfl
    have hB3 := hB2.trans (belowK_b (w := w) (Nat.le_refl _) _ D _ (.deferred none) (by omega) hK1 rfl rfl)
    have HQ2 := Lib.hid (show Q (.returned (.tuple #[.slice av (part a b l).length cv, .bool true])) _ from by rw [← HQ.out]; exact ⟨hB3, .inl ⟨HI.out.len, _, rfl, hR3⟩⟩)
    refine ⟨by simp, .inl ⟨_, _, rfl, run_takeDeferred hK1, ?_⟩⟩
    refine ⟨.tuple #[.slice av (part a b l).length cv, .bool true], ?_, HQ2.out⟩
    simp [results, Try.f16, go_sem, r1, r2]
  case stop =>
    rintro D c pre W hD hpre ⟨hX, hB⟩ hK
    obtain rfl := hX.ret
    gi_wp2
    have r1 := cell_kept hX.b1.cell (grownBy_putObj' _ D (.deferred none)) (fun r e => by cases e; exact ⟨_, hK, rfl⟩)
    have r2 := cell_kept hX.b2.cell (grownBy_putObj' _ D (.deferred none)) (fun r e => by cases e; exact ⟨_, hK, rfl⟩)
    have hB3 := hB.trans (belowK_b (w := w) (Nat.le_refl _) _ D _ (.deferred none) (by omega) hK rfl rfl)
    have HQ2 := Lib.hid (show Q (.returned (.tuple #[.slice none 0 0, .bool false])) _ from by rw [← HQ.out]; exact ⟨hB3, .inr ⟨by have := hX.len; have := hpre.length_le; omega, rfl⟩⟩)
    refine ⟨by simp, .inl ⟨_, _, rfl, run_takeDeferred hK, ?_⟩⟩
    refine ⟨.tuple #[.slice none 0 0, .bool false], ?_, HQ2.out⟩
    simp [results, Try.f16, go_sem, r1, r2]
end Go.Proofs.Ytjoopjmcnkiieaa

/- The tree and the reference in one world, with blocks that the law keeps; single trees. Conditions: none. -/
namespace Go.Proofs.Ytjoopjmcnkiieaa
open Go.RowKit Go.Lib Go.Maps
set_option linter.unusedSimpArgs false
set_option linter.unusedVariables false

theorem IsRef.hi {w : World} {xb : Nat} {G : Nat → Nat} {l : List (ByteArray × Int)} {H : List ByteArray} (h : IsRef w xb G l H) (k : Nat) (hk : w.heap.size ≤ k) : G k = 0 := by
  obtain ⟨v1, v2, v3, hr, rfl, _⟩ := h
  exact hr.hi k hk
theorem IsRef.frame {w w' : World} {xb : Nat} {F F' G : Nat → Nat} {l : List (ByteArray × Int)} {H : List ByteArray} (h : IsRef w xb G l H) (hf : Fr F F' w w') (hd : ∀ k, F k + G k ≤ 1) : IsRef w' xb G l H := by
  obtain ⟨v1, v2, v3, hr, rfl, h1⟩ := h
  exact ⟨v1, v2, v3, hr.frame hf hd, rfl, h1⟩
theorem IsTree.pair {w : World} {o tb : Nat} {F : Nat → Nat} {l : List (ByteArray × Int)} {H : List ByteArray} (h : IsTree w o tb F l H) : l.Pairwise ltP := by
  obtain ⟨d, t, mb, _, _, hv, hfl, _⟩ := h
  have := (flat_facts hv).2
  rwa [hfl] at this
theorem IsTree.one {w : World} {o tb : Nat} {F : Nat → Nat} {l : List (ByteArray × Int)} {H : List ByteArray} (h : IsTree w o tb F l H) : ∀ k, F k ≤ 1 := by
  obtain ⟨d, t, mb, _, _, _, _, _, _, h1⟩ := h
  exact h1
theorem IsRef.one {w : World} {xb : Nat} {G : Nat → Nat} {l : List (ByteArray × Int)} {H : List ByteArray} (h : IsRef w xb G l H) : ∀ k, G k ≤ 1 := by
  obtain ⟨_, _, _, _, rfl, h1⟩ := h
  exact h1
/-- A block that the law keeps. -/
abbrev KB := Nat × List Value × TypeId
/-- Two footprints, the law's own blocks, all above what was given. -/
structure Base (w : World) (B : List KB) (F G : Nat → Nat) (u : World) : Prop where
  bel : Below w.heap.size w u
  one : ∀ k, F k + G k ≤ 1
  low : ∀ k, k < w.heap.size → F k + G k = 0
  kb : ∀ b ∈ B, Block u b.1 b.2.1 b.2.2 ∧ F b.1 + G b.1 = 0
theorem Base.left {w u u' : World} {B : List KB} {F F' G : Nat → Nat} (h : Base w B F G u) (hf : Fr F F' u u') (hG : ∀ k, u.heap.size ≤ k → G k = 0) : Base w B F' G u' where
  bel := h.bel.trans (hf.is_below h.bel.size (fun k hk => by have := h.low k hk; omega))
  one k := by
    by_cases hk : k < u.heap.size
    · have := hf.le k hk; have := h.one k; omega
    · have := hf.one k; have := hG k (by omega); omega
  low k hk := by have h1 := hf.le k (Nat.lt_of_lt_of_le hk h.bel.size); have := h.low k hk; omega
  kb b hb := by
    obtain ⟨h1, h2⟩ := h.kb b hb
    exact ⟨h1.of_heap (hf.block _ h1.lt (by omega)), by have := hf.le _ h1.lt; omega⟩
theorem Base.right {w u u' : World} {B : List KB} {F G G' : Nat → Nat} (h : Base w B F G u) (hf : Fr G G' u u') (hF : ∀ k, u.heap.size ≤ k → F k = 0) : Base w B F G' u' where
  bel := h.bel.trans (hf.is_below h.bel.size (fun k hk => by have := h.low k hk; omega))
  one k := by
    by_cases hk : k < u.heap.size
    · have := hf.le k hk; have := h.one k; omega
    · have := hf.one k; have := hF k (by omega); omega
  low k hk := by have h1 := hf.le k (Nat.lt_of_lt_of_le hk h.bel.size); have := h.low k hk; omega
  kb b hb := by
    obtain ⟨h1, h2⟩ := h.kb b hb
    exact ⟨h1.of_heap (hf.block _ h1.lt (by omega)), by have := hf.le _ h1.lt; omega⟩
theorem Base.same {w u u' : World} {B : List KB} {F G : Nat → Nat} (h : Base w B F G u) (hb : Below u.heap.size u u') : Base w B F G u' :=
  ⟨h.bel.trans (hb.mono h.bel.size), h.one, h.low, fun b hb' => ⟨(h.kb b hb').1.of_heap (hb.block _ (h.kb b hb').1.lt), (h.kb b hb').2⟩⟩
theorem Base.alloc {w u : World} {B : List KB} {F G : Nat → Nat} (h : Base w B F G u) (cur : List Value) (t : TypeId) (hF : F u.heap.size = 0) (hG : G u.heap.size = 0) : Base w ((u.heap.size, cur, t) :: B) F G (u.alloc (.cells cur.toArray t)) := by
  refine ⟨h.bel.alloc h.bel.size _, h.one, h.low, fun b hb => ?_⟩
  rcases List.mem_cons.1 hb with rfl | hb
  · exact ⟨Block.new u cur t, by simp only; omega⟩
  · exact ⟨(h.kb b hb).1.alloc _, (h.kb b hb).2⟩
theorem Base.less {w u : World} {B B' : List KB} {F G : Nat → Nat} (h : Base w B F G u) (hB : ∀ b ∈ B', b ∈ B) : Base w B' F G u := ⟨h.bel, h.one, h.low, fun b hb => h.kb b (hB b hb)⟩
/-- The tree and the reference. -/
def LS (w : World) (B : List KB) (o tb xb : Nat) (lt : List (ByteArray × Int)) (Ht : List ByteArray) (lr : List (ByteArray × Int)) (Hr : List ByteArray) (u : World) : Prop :=
  ∃ F G, IsTree u o tb F lt Ht ∧ IsRef u xb G lr Hr ∧ Base w B F G u
section
variable {w u : World} {B : List KB} {o tb xb : Nat} {lt lr : List (ByteArray × Int)} {Ht Hr : List ByteArray} {key : ByteArray} {x : Int}
theorem LS.kb (h : LS w B o tb xb lt Ht lr Hr u) {b : KB} (hb : b ∈ B) : Block u b.1 b.2.1 b.2.2 := by
  obtain ⟨F, G, _, _, hB⟩ := h
  exact (hB.kb b hb).1
theorem LS.bel (h : LS w B o tb xb lt Ht lr Hr u) : Below w.heap.size w u := by obtain ⟨F, G, _, _, hB⟩ := h; exact hB.bel
theorem LS.drew (h : LS w B o tb xb lt Ht lr Hr u) : LS w B o tb xb lt Ht lr Hr u.drew := by
  obtain ⟨F, G, h1, h2, hB⟩ := h
  exact ⟨F, G, h1.frame (F := F) (G := fun _ => 0) (G' := fun _ => 0) (Fr.of_below (Below.refl _ _).drew (fun _ => by omega) (fun _ _ => rfl)) (fun k => by have := hB.one k; omega), h2.frame (F := fun _ => 0) (F' := fun _ => 0) (Fr.of_below (Below.refl _ _).drew (fun _ => by omega) (fun _ _ => rfl)) (fun k => by have := hB.one k; omega), hB.same (Below.refl _ _).drew⟩
theorem LS.same {u' : World} (h : LS w B o tb xb lt Ht lr Hr u) (hb : Below u.heap.size u u') : LS w B o tb xb lt Ht lr Hr u' := by
  obtain ⟨F, G, h1, h2, hB⟩ := h
  exact ⟨F, G, h1.frame (F := F) (G := fun _ => 0) (G' := fun _ => 0) (Fr.of_below hb (fun _ => by omega) (fun _ _ => rfl)) (fun k => by have := hB.one k; omega), h2.frame (F := fun _ => 0) (F' := fun _ => 0) (Fr.of_below hb (fun _ => by omega) (fun _ _ => rfl)) (fun k => by have := hB.one k; omega), hB.same hb⟩
theorem LS.alloc (h : LS w B o tb xb lt Ht lr Hr u) (cur : List Value) (t : TypeId) : LS w ((u.heap.size, cur, t) :: B) o tb xb lt Ht lr Hr (u.alloc (.cells cur.toArray t)) := by
  obtain ⟨F, G, h1, h2, hB⟩ := h
  have hb : Below u.heap.size u (u.alloc (.cells cur.toArray t)) := (Below.refl _ _).alloc (Nat.le_refl _) _
  exact ⟨F, G, h1.frame (F := F) (G := fun _ => 0) (G' := fun _ => 0) (Fr.of_below hb (fun _ => by omega) (fun _ _ => rfl)) (fun k => by have := hB.one k; omega), h2.frame (F := fun _ => 0) (F' := fun _ => 0) (Fr.of_below hb (fun _ => by omega) (fun _ _ => rfl)) (fun k => by have := hB.one k; omega), hB.alloc cur t (h1.hi _ (Nat.le_refl _)) (h2.hi _ (Nat.le_refl _))⟩
theorem LS.less {B' : List KB} (h : LS w B o tb xb lt Ht lr Hr u) (hB : ∀ b ∈ B', b ∈ B) : LS w B' o tb xb lt Ht lr Hr u := by
  obtain ⟨F, G, h1, h2, h3⟩ := h
  exact ⟨F, G, h1, h2, h3.less hB⟩
theorem LS.tput (h : LS w B o tb xb lt Ht lr Hr u) (ho3 : 3 ≤ o) (ho2 : o ≤ 64) (hl : lt.length ≤ 1000000) (hH : Ht.length ≤ 1000000) (hkey : key.size ≤ maxLen) :
    Calls Try.prog 15 #[.pointer (some ⟨tb, 0, none⟩), .string key, .int .i64 x] u fun e w' => e = .returned (.bool (hasF key lt)) ∧ LS w B o tb xb (insF key x lt) (key :: Ht) lr Hr w' := by
  obtain ⟨F, G, h1, h2, hB⟩ := h
  refine (tput_any ho3 ho2 h1 hl hH hkey).mono ?_
  rintro e w' ⟨rfl, F', hf, ht⟩
  exact ⟨rfl, F', G, ht, h2.frame hf hB.one, hB.left hf h2.hi⟩
theorem LS.tdel (h : LS w B o tb xb lt Ht lr Hr u) (ho3 : 3 ≤ o) (ho2 : o ≤ 64) (hl : lt.length ≤ 1000000) (hH : Ht.length ≤ 1000000) (hkey : key.size ≤ maxLen) :
    Calls Try.prog 26 #[.pointer (some ⟨tb, 0, none⟩), .string key] u fun e w' => e = .returned (.bool (hasF key lt)) ∧ LS w B o tb xb (delF key lt) (if hasF key lt then key :: Ht else Ht) lr Hr w' := by
  obtain ⟨F, G, h1, h2, hB⟩ := h
  refine (tdel_any ho3 ho2 h1 hl hH hkey).mono ?_
  rintro e w' ⟨rfl, F', hf, ht⟩
  exact ⟨rfl, F', G, ht, h2.frame hf hB.one, hB.left hf h2.hi⟩
theorem LS.rput (h : LS w B o tb xb lt Ht lr Hr u) (hp : lr.Pairwise ltP) (hl : lr.length ≤ 1000000) (hH : Hr.length ≤ 1000000) :
    Calls Try.prog 33 #[.pointer (some ⟨xb, 0, none⟩), .string key, .int .i64 x] u fun e w' => e = .returned (.bool (hasF key lr)) ∧ LS w B o tb xb lt Ht (insF key x lr) (Hr ++ [key]) w' := by
  obtain ⟨F, G, h1, h2, hB⟩ := h
  refine (rput_any h2 hp hl hH).mono ?_
  rintro e w' ⟨rfl, G', hf, ht⟩
  exact ⟨rfl, F, G', h1.frame hf (fun k => by have := hB.one k; omega), ht, hB.right hf h1.hi⟩
theorem LS.rdel (h : LS w B o tb xb lt Ht lr Hr u) (hp : lr.Pairwise ltP) (hl : lr.length ≤ 1000000) (hH : Hr.length ≤ 1000000) :
    Calls Try.prog 34 #[.pointer (some ⟨xb, 0, none⟩), .string key] u fun e w' => e = .returned (.bool (hasF key lr)) ∧ LS w B o tb xb lt Ht (delF key lr) (if hasF key lr then Hr ++ [key] else Hr) w' := by
  obtain ⟨F, G, h1, h2, hB⟩ := h
  refine (rdel_any h2 hp hl hH).mono ?_
  rintro e w' ⟨rfl, G', hf, ht⟩
  exact ⟨rfl, F, G', h1.frame hf (fun k => by have := hB.one k; omega), ht, hB.right hf h1.hi⟩
theorem LS.tget (h : LS w B o tb xb lt Ht lr Hr u) (ho2 : o ≤ 64) :
    Calls Try.prog 25 #[.pointer (some ⟨tb, 0, none⟩), .string key] u fun e w' => e = .returned (.tuple #[.int .i64 ((getF key lt).getD 0), .bool (getF key lt).isSome]) ∧ LS w B o tb xb lt Ht lr Hr w' := by
  have h0 := h
  obtain ⟨F, G, h1, h2, hB⟩ := h
  refine (tget_any ho2 h1).mono ?_
  rintro e w' ⟨rfl, hs⟩
  exact ⟨rfl, h0.same ⟨hs.2.1.symm, hs.2.2.1.symm, hs.2.2.2.symm, by rw [hs.1]; exact Nat.le_refl _, fun k _ => by rw [hs.1]⟩⟩
theorem LS.rget (h : LS w B o tb xb lt Ht lr Hr u) (hl : lr.length ≤ 1000000) :
    Calls Try.prog 35 #[.pointer (some ⟨xb, 0, none⟩), .string key] u fun e w' => e = .returned (.tuple #[.int .i64 ((getF key lr).getD 0), .bool (getF key lr).isSome]) ∧ u = w' := by
  obtain ⟨F, G, h1, h2, hB⟩ := h
  exact rget_any h2 hl
theorem LS.tlen (h : LS w B o tb xb lt Ht lr Hr u) : Calls Try.prog 17 #[.pointer (some ⟨tb, 0, none⟩)] u fun e w' => e = .returned (.int .i64 lt.length) ∧ u = w' := by
  obtain ⟨F, G, h1, h2, hB⟩ := h
  exact tlen_any h1
theorem LS.tchanges (h : LS w B o tb xb lt Ht lr Hr u) : Calls Try.prog 19 #[.pointer (some ⟨tb, 0, none⟩)] u fun e w' => e = .returned (.int .i64 Ht.length) ∧ u = w' := by
  obtain ⟨F, G, h1, h2, hB⟩ := h
  exact tchanges_any h1
theorem LS.pair (h : LS w B o tb xb lt Ht lr Hr u) : lt.Pairwise ltP := by
  obtain ⟨F, G, h1, h2, hB⟩ := h
  exact h1.pair
theorem LS.refCells (h : LS w B o tb xb lt Ht lr Hr u) : ∃ a1 k1 a2 k2 a3 k3, u.cell? ⟨xb, 0, none⟩ = some (.slice a1 lr.length k1) ∧ u.cell? ⟨xb, 1, none⟩ = some (.slice a2 lr.length k2) ∧ u.cell? ⟨xb, 2, none⟩ = some (.slice a3 Hr.length k3) := by
  obtain ⟨F, G, h1, ⟨v1, v2, v3, hr, _, hone⟩, hB⟩ := h
  obtain ⟨a1, k1, a2, k2, a3, k3, rfl, rfl, rfl, _⟩ := (Rs.start hr (fun k => by subst_vars; exact hone k)).forms
  refine ⟨a1, k1, a2, k2, a3, k3, ?_, ?_, hr.blk.cell rfl⟩
  · have := hr.blk.cell (i := 0) rfl
    rw [List.length_map] at this; exact this
  · have := hr.blk.cell (i := 1) rfl
    rw [List.length_map] at this; exact this
end
/-- New, then an empty reference beside it. -/
theorem ls_start {w u : World} {o tb : Nat} {F : Nat → Nat} (h : IsTree u o tb F [] []) (hb : Below w.heap.size w u) (hlow : ∀ k, k < w.heap.size → F k = 0) :
    LS w [] o tb u.heap.size [] [] [] [] (u.alloc (.cells #[.slice none 0 0, .slice none 0 0, .slice none 0 0] 46)) := by
  have hb2 : Below u.heap.size u (u.alloc (.cells #[.slice none 0 0, .slice none 0 0, .slice none 0 0] 46)) := (Below.refl _ _).alloc (Nat.le_refl _) _
  have hw : ∀ k, ow u.heap.size (.slice none 0 0) (.slice none 0 0) (.slice none 0 0) k = if k = u.heap.size then 1 else 0 := fun k => by unfold ow; rw [rb_nil]; omega
  refine ⟨F, ow u.heap.size (.slice none 0 0) (.slice none 0 0) (.slice none 0 0), h.frame (F := F) (G := fun _ => 0) (G' := fun _ => 0) (Fr.of_below hb2 (fun _ => by omega) (fun _ _ => rfl)) (fun k => by have := h.one k; omega), ⟨_, _, _, ⟨Block.new u [.slice none 0 0, .slice none 0 0, .slice none 0 0] _, Arr.nil, Arr.nil, Arr.nil⟩, rfl, fun k => by rw [hw]; split <;> omega⟩, ⟨hb.alloc hb.size _, fun k => ?_, fun k hk => ?_, fun b hb => by cases hb⟩⟩
  · rw [hw]
    by_cases e : k = u.heap.size
    · have := h.hi k (by omega); rw [if_pos e]; omega
    · have := h.one k; rw [if_neg e]; omega
  · have := hlow k hk
    have := hb.size
    rw [hw, if_neg (by omega)]; omega
end Go.Proofs.Ytjoopjmcnkiieaa
