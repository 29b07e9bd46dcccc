/- The reference's book: forget. Conditions: sizes are small. -/
import Derived.Test.YtaonfacbmolklaaRf5
namespace Go.Proofs.Ytaonfacbmolklaa
open Go.RowKit
set_option linter.unusedSimpArgs false
set_option linter.unusedVariables false

/-- The book's row, replaced by a new one. -/
theorem IsRef.renew {w w1 : World} {B P : Nat} {last : Int} {S : Nat → Prop} {lv v : Value} {zs zs' : List Z} (h : IsRef w B P last S lv zs) (hb : Below w.heap.size w w1) (ho : w1.ownsRow w.heap.size 58 6 v zs'.length (zs'.flatMap cellsZ)) (hm : ∀ z ∈ zs', z ∈ zs) :
    RActed w B P ⟨zs'.map fun z => z.1, last⟩ S (w1.setCell ⟨P, 0, none⟩ v) := by
  have hPl := h.blk.lt
  have hsc : ∀ b, b ≠ P → (w1.setCell ⟨P, 0, none⟩ v).heap[b]? = w1.heap[b]? := fun b hb => Below.heap_setCell _ _ _ _ hb
  have hsz : (w1.setCell ⟨P, 0, none⟩ v).heap.size = w1.heap.size := by simp [World.setCell]
  refine ⟨⟨v, zs', ⟨?_, grow_base h.base h.size, .inl h.sP, ?_, ?_, ?_⟩, rfl⟩, (KeptS.of_below hb).setCell (.inl h.sP) _⟩
  · exact (h.blk.of_heap (hb.block P hPl)).set 0 _
  · exact own_setCell (own_mono ho h.size) (fun e => by have := (ho.lt P e).1; omega) _
  · intro g e
    obtain ⟨h1, h2⟩ := ho.lt g e
    exact ⟨.inr ⟨h1, by rw [hsz]; exact h2⟩, by omega⟩
  · intro z hz
    have hs : ∀ k, S k → ¬ NotRow P lv k → k < w.heap.size → (w1.setCell ⟨P, 0, none⟩ v).heap[k]? = w.heap[k]? ∧ grow S w (w1.setCell ⟨P, 0, none⟩ v) k ∧ ¬ NotRow P v k := fun k hS hN hlt => by
      have h1 : k ≠ P := fun e => hN (.inl e)
      refine ⟨by rw [hsc k h1, hb.block k hlt], .inl hS, ?_⟩
      rintro (h3 | h3)
      · exact h1 h3
      · have := (ho.lt k h3).1; omega
    exact ⟨(h.rows z (hm z hz)).1.same hs, (h.rows z (hm z hz)).2.same hs⟩
def keptR (es : List E) (zs : List Z) : List Z := zs.filter fun z => keepB es z.1
theorem keptR_take {es : List E} {zs : List Z} {j : Nat} {z : Z} (hz : zs[j]? = some z) : keptR es (zs.take (j + 1)) = if keepB es z.1 = true then keptR es (zs.take j) ++ [z] else keptR es (zs.take j) := by
  unfold keptR
  rw [List.take_add_one, hz, List.filter_append]
  by_cases h : keepB es z.1 = true
  · rw [if_pos h]; simp [h]
  · rw [if_neg h]; simp [h]
theorem keptR_map (es : List E) (zs : List Z) : (keptR es zs).map (fun z => z.1) = (zs.map fun z => z.1).filter (keepB es) := by
  unfold keptR
  rw [List.filter_map]
  rfl
/-- What the inner loop has found. -/
def keepK (es : List E) (e : E) (k : Nat) : Bool := decide (e.end_ = 0) || (es.take k).any fun u => decide (u.end_ = 0 ∧ u.at_ < e.end_)
theorem keepK_succ {es : List E} {e u : E} {k : Nat} (hu : es[k]? = some u) : keepK es e (k + 1) = (keepK es e k || decide (u.end_ = 0 ∧ u.at_ < e.end_)) := by
  unfold keepK
  rw [List.take_add_one, hu, List.any_append, ← Bool.or_assoc]
  simp
theorem keepK_all (es : List E) (e : E) : keepK es e es.length = keepB es e := by unfold keepK keepB; rw [List.take_length]
def RForgetP (w : World) (B P : Nat) (bk : Bk) (S : Nat → Prop) (e : Ending) (w' : World) : Prop := e = .returned (.tuple #[]) ∧ RActed w B P ⟨forgetB bk.es, bk.last⟩ S w'
set_option maxRecDepth 100000 in
set_option maxHeartbeats 8000000 in
theorem rforget_any (w : World) (B P : Nat) (bk : Bk) (S : Nat → Prop) (h : RefAt w B P bk S) (hn : bk.es.length ≤ 1000000) :
    Calls Try.prog 37 #[.pointer (some ⟨P, 0, none⟩)] w (RForgetP w B P bk S) := by
  obtain ⟨lv, zs, hI, hes⟩ := h
  have HI := Lib.hid hI
  obtain ⟨es, hes2⟩ : ∃ es, bk.es = es := ⟨_, rfl⟩
  rw [hes2] at hes hn
  have HES2 := Lib.hid hes2
  have HES := Lib.hid hes
  have hlen : zs.length = es.length := by rw [← hes, List.length_map]
  obtain ⟨a, c, rfl⟩ := own_form hI.row
  have hPl := hI.blk.lt
  have hBl := hI.size
  have c0 : ∀ u : Ext w.heap.size w, u.w.cell? ⟨P, 0, none⟩ = some (.slice a zs.length c) := fun u => u.cell hPl (hI.blk.cell rfl)
  have cf : ∀ u : Ext w.heap.size w, u.w.frozen? ⟨P, 0, none⟩ = false := fun u => (u.below.frozen (p := ⟨P, 0, none⟩) hPl).trans (hI.blk.free 0)
  obtain ⟨Q, hQ⟩ : ∃ Q, RForgetP w B P bk S = Q := ⟨_, rfl⟩
  rw [hQ]
  have HQ := Lib.hid hQ
  obtain ⟨n, hzn⟩ : ∃ n, zs.length = n := ⟨_, rfl⟩
  rw [hzn] at c0
  have HZN := Lib.hid hzn
  have HEN : Hid (es.length = n) := Lib.hid (by rw [← hlen, hzn])
  have hn1 : n ≤ 1000000 := by omega
  obtain ⟨iT, siT, szT, s1T, s2T⟩ := info_parts Try.infoT
  obtain ⟨u0, hu0⟩ := Ext.start w.heap.size w
  have HU := Lib.hid hu0
  clear hQ hI hes hes2 hlen hzn hn hu0
  go_enter Try.func37, Try.ntmps37
  rw [HU.out]
  go_wp2_with fail
  go_loopw [2, 3] (fun kv jv wr => ∃ (j n2 : Nat) (a2 : Option Addr) (c2 : Nat) (u : Ext w.heap.size w), jv = .int .i64 j ∧ kv = .slice a2 n2 c2 ∧ j ≤ n ∧ wr = u.w ∧ n2 ≤ j ∧ Hid (u.w.ownsRow w.heap.size 58 6 (.slice a2 n2 c2) n2 ((keptR es (zs.take j)).flatMap cellsZ) ∧ (keptR es (zs.take j)).length = n2)) (fun _ jv _ => n - (intOf jv).toNat)
  case atStart => exact ⟨0, 0, none, 0, u0, rfl, rfl, Nat.zero_le _, rfl, Nat.le_refl _, Lib.hid ⟨World.ownsRow_nil _ _ _ _, rfl⟩⟩
  case round =>
    obtain ⟨j, n2, a2, c2, u, rfl, rfl, hj, rfl, hn2, HO⟩ := hrel
    have d0 := c0 u
    by_cases hlt : j < n
    · have hlt' : (j : Int) < n := by omega
      have hj0 : (0 : Int) ≤ (j : Int) := by omega
      obtain ⟨z, hz⟩ : ∃ z, zs[j]? = some z := get_some (by have := HZN.out; omega)
      have hRW := HI.out.rows z (List.mem_of_getElem? hz)
      obtain ⟨g, c', hac, hg, hc⟩ := HI.out.cell hz
      injection hac with e1 e2 e3
      subst e1
      clear e2 e3
      obtain ⟨⟨ew, ea, ee, er, et, eo⟩, v1, v2⟩ := z
      obtain ⟨la1, lc1, hv1, _⟩ := hRW.1.row
      obtain ⟨la2, lc2, hv2, _⟩ := hRW.2.row
      simp only at hv1 hv2
      subst hv1 hv2
      have hcu : ∀ (u : Ext w.heap.size w) (q : Nat) v, (cellsZ (⟨ew, ea, ee, er, et, eo⟩, .slice la1 er.length lc1, .slice la2 et.length lc2))[q]? = some v → u.w.cell? ⟨g, j * 6 + q, none⟩ = some v := fun u q v h => u.cell hg (hc q v h)
      have x2 : u.w.cell? ⟨g, j * 6 + 2, none⟩ = some (.int .i64 ee) := hcu u 2 _ rfl
      have HX := Lib.hid hcu
      have HKT := Lib.hid (keptR_take (es := es) hz)
      have HCK : Hid (∀ (k : Nat), k < n → ∃ (ue ua : Int), (∀ u : Ext w.heap.size w, u.w.cell? ⟨g, k * 6 + 2, none⟩ = some (.int .i64 ue) ∧ u.w.cell? ⟨g, k * 6 + 1, none⟩ = some (.int .i64 ua)) ∧ keepK es ⟨ew, ea, ee, er, et, eo⟩ (k + 1) = (keepK es ⟨ew, ea, ee, er, et, eo⟩ k || decide (ue = 0 ∧ ua < ee))) := Lib.hid (fun k hk => by
        obtain ⟨x, hx⟩ : ∃ x, zs[k]? = some x := get_some (by have := HZN.out; omega)
        obtain ⟨g2, c2', hac2, hg2, hc2⟩ := HI.out.cell hx
        injection hac2 with e1 _ _
        injection e1 with e1
        injection e1 with e1
        subst e1
        exact ⟨x.1.end_, x.1.at_, fun u => ⟨u.cell hg2 (hc2 2 _ rfl), u.cell hg2 (hc2 1 _ rfl)⟩, keepK_succ (by rw [← HES.out, List.getElem?_map, hx]; rfl)⟩)
      have HK0 : Hid (keepK es ⟨ew, ea, ee, er, et, eo⟩ 0 = (ee == 0)) := Lib.hid (by unfold keepK; rw [Bool.eq_iff_iff]; simp)
      have HKN : Hid (keepK es ⟨ew, ea, ee, er, et, eo⟩ n = keepB es ⟨ew, ea, ee, er, et, eo⟩) := Lib.hid (by rw [← HEN.out]; exact keepK_all es _)
      simp only at HKT
      obtain ⟨KK, hKK⟩ : ∃ KK, keepK es ⟨ew, ea, ee, er, et, eo⟩ = KK := ⟨_, rfl⟩
      rw [hKK] at HK0 HKN HCK
      rw [← HKN.out] at HKT
      clear hRW hz hc hKK hcu
      go_wp2_with fail
      go_loopw [4, 5] (fun kv jv wr => ∃ (k : Nat) (u' : Ext w.heap.size w), jv = .int .i64 k ∧ kv = .bool (KK k) ∧ k ≤ n ∧ wr = u'.w ∧ Hid (u'.w.ownsRow w.heap.size 58 6 (.slice a2 n2 c2) n2 ((keptR es (zs.take j)).flatMap cellsZ))) (fun _ jv _ => n - (intOf jv).toNat)
      case atStart => exact ⟨0, u, rfl, by rw [HK0.out], Nat.zero_le _, rfl, Lib.hid HO.out.1⟩
      case round =>
        obtain ⟨k, u', rfl, rfl, hk, rfl, HO2⟩ := hrel
        have d1 := c0 u'
        by_cases hkt : k < n
        · have hkt' : (k : Int) < n := by omega
          have hk0 : (0 : Int) ≤ (k : Int) := by omega
          obtain ⟨ue, ua, hcc, hks⟩ := HCK.out k hkt
          obtain ⟨y2, y1⟩ := hcc u'
          have x2 : u'.w.cell? ⟨g, j * 6 + 2, none⟩ = some (.int .i64 ee) := HX.out u' 2 _ rfl
          have HOD : Hid (∀ (m : Nat), (u'.w.drewN m).ownsRow w.heap.size 58 6 (.slice a2 n2 c2) n2 ((keptR es (zs.take j)).flatMap cellsZ)) := Lib.hid (fun m => own_of_heap HO2.out fun b e => (below_drewN (Below.refl u'.w.heap.size u'.w) m).block b (HO2.out.lt b e).2)
          have HBD : Hid (∀ (m : Nat), Below w.heap.size w (u'.w.drewN m)) := Lib.hid (fun m => below_drewN u'.below m)
          obtain ⟨kb, hkb⟩ : ∃ b, KK k = b := ⟨_, rfl⟩
          rw [hkb] at hks ⊢
          clear hcc hkb
          cases kb with
          | true =>
            have HKS : Hid (KK (k + 1) = true) := Lib.hid (by rw [hks]; rfl)
            clear hks
            go_wp2_with fail
            go_quiet (fail)
            go_wp2_with fail
            go_roundw
            case rel => exact ⟨k + 1, ⟨_, HBD.out _⟩, by go_num, by rw [HKS.out], by omega, rfl, Lib.hid (HOD.out _)⟩
            case measure => simp [intOf]; omega
          | false =>
            by_cases h0 : ue = 0
            · have h0' : (ue == 0) = true := by simpa using h0
              by_cases h1 : ua < ee
              · have h1' : decide (ua < ee) = true := decide_eq_true h1
                have HKS : Hid (KK (k + 1) = true) := Lib.hid (by rw [hks]; simp [h0, h1])
                clear hks h0 h1
                go_wp2_with fail
                go_quiet (fail)
                go_wp2_with fail
                go_roundw
                case rel => exact ⟨k + 1, ⟨_, HBD.out _⟩, by go_num, by rw [HKS.out], by omega, rfl, Lib.hid (HOD.out _)⟩
                case measure => simp [intOf]; omega
              · have h1' : decide (ua < ee) = false := decide_eq_false h1
                have HKS : Hid (KK (k + 1) = false) := Lib.hid (by rw [hks]; simp [h1])
                clear hks h0 h1
                go_wp2_with fail
                go_quiet (fail)
                go_wp2_with fail
                go_roundw
                case rel => exact ⟨k + 1, ⟨_, HBD.out _⟩, by go_num, by rw [HKS.out], by omega, rfl, Lib.hid (HOD.out _)⟩
                case measure => simp [intOf]; omega
            · have h0' : (ue == 0) = false := by simpa using h0
              have HKS : Hid (KK (k + 1) = false) := Lib.hid (by rw [hks]; simp [h0])
              clear hks h0
              go_wp2_with fail
              go_quiet (fail)
              go_wp2_with fail
              go_roundw
              case rel => exact ⟨k + 1, ⟨_, HBD.out _⟩, by go_num, by rw [HKS.out], by omega, rfl, Lib.hid (HOD.out _)⟩
              case measure => simp [intOf]; omega
        · have hkt' : ¬ (k : Int) < n := by omega
          have hkn : k = n := by omega
          subst hkn
          have y0 : u'.w.cell? ⟨g, j * 6 + 0, none⟩ = some (.int .i64 ew) := HX.out u' 0 _ rfl
          have y1 : u'.w.cell? ⟨g, j * 6 + 1, none⟩ = some (.int .i64 ea) := HX.out u' 1 _ rfl
          have y2 : u'.w.cell? ⟨g, j * 6 + 2, none⟩ = some (.int .i64 ee) := HX.out u' 2 _ rfl
          have y3 : u'.w.cell? ⟨g, j * 6 + 3, none⟩ = some (.slice la1 er.length lc1) := HX.out u' 3 _ rfl
          have y4 : u'.w.cell? ⟨g, j * 6 + 4, none⟩ = some (.slice la2 et.length lc2) := HX.out u' 4 _ rfl
          have y5 : u'.w.cell? ⟨g, j * 6 + 5, none⟩ = some (.bool eo) := HX.out u' 5 _ rfl
          have HZ1 : Hid (w.heap.size ≤ u'.w.heap.size) := Lib.hid u'.below.size
          rw [Nat.add_zero] at y0
          obtain ⟨kb, hkb⟩ : ∃ b, KK k = b := ⟨_, rfl⟩
          rw [hkb] at HKT ⊢
          clear hkb x2 d0
          cases kb with
          | true =>
            have HKT2 : Hid (keptR es (zs.take (j + 1)) = keptR es (zs.take j) ++ [(⟨ew, ea, ee, er, et, eo⟩, .slice la1 er.length lc1, .slice la2 et.length lc2)]) := Lib.hid (by rw [HKT.out, if_pos rfl])
            clear HKT
            go_wp2_with (at_builtin; refine wpList_append_lies _ rfl _ _ 26 rfl w.heap.size 58 iT _ 6 80 Try.underlying26 siT szT s1T s2T rfl (by omega) (.slice a2 n2 c2) n2 ((keptR es (zs.take j)).flatMap cellsZ) rfl (HO2.out.alloc _) ⟨u'.w.heap.size, 0, none⟩ 1 1 [.int .i64 ew, .int .i64 ea, .int .i64 ee, .slice la1 er.length lc1, .slice la2 et.length lc2, .bool eo] rfl rfl (World.news_of_block (cs := #[.int .i64 ew, .int .i64 ea, .int .i64 ee, .slice la1 er.length lc1, .slice la2 et.length lc2, .bool eo]) (t := 58) (fr := (0, 0)) (new_drew u'.w _)) (by simp [Value.oneCell']) (by omega) (by unfold maxLen; omega) (by omega) (by have := HZ1.out; simp; omega) (u'.w.heap.size + 1) (by simp) ?_)
            intro g3 cap w3 hown hg3 hat hlt3
            have HB3 : Hid (Below w.heap.size w w3) := Lib.hid (kept_more (u'.below.alloc HZ1.out _) (HO2.out.alloc _) hg3)
            have HO3 : Hid (w3.ownsRow w.heap.size 58 6 (.slice (some ⟨g3, 0, none⟩) (n2 + 1) cap) (n2 + 1) ((keptR es (zs.take (j + 1))).flatMap cellsZ) ∧ (keptR es (zs.take (j + 1))).length = n2 + 1) := Lib.hid (by rw [HKT2.out, List.flatMap_append, List.length_append]; exact ⟨by simpa [cellsZ, cellsE] using hown, by have := HO.out.2; simp; omega⟩)
            clear hown hg3 hat hlt3
            go_wp2_with fail
            go_roundw
            case rel => exact ⟨j + 1, n2 + 1, some ⟨g3, 0, none⟩, cap, ⟨w3, HB3.out⟩, by go_num, rfl, by omega, rfl, by omega, HO3⟩
            case measure => simp [intOf]; omega
          | false =>
            have HO3 : Hid (u'.w.ownsRow w.heap.size 58 6 (.slice a2 n2 c2) n2 ((keptR es (zs.take (j + 1))).flatMap cellsZ) ∧ (keptR es (zs.take (j + 1))).length = n2) := Lib.hid (by rw [HKT.out, if_neg (by decide)]; exact ⟨HO2.out, HO.out.2⟩)
            go_wp2_with fail
            go_roundw
            case rel => exact ⟨j + 1, n2, a2, c2, u', by go_num, rfl, by omega, rfl, by omega, HO3⟩
            case measure => simp [intOf]; omega
    · have hlt' : ¬ (j : Int) < n := by omega
      have hjn : j = n := by omega
      have HKA : Hid (keptR es (zs.take j) = keptR es zs) := Lib.hid (by rw [List.take_of_length_le (by have := HZN.out; omega)])
      have f0 := cf u
      go_wp2_with fail
      go_end0
      rw [← HQ.out]
      refine ⟨rfl, ?_⟩
      have h1 := HI.out.renew (w1 := u.w) (v := .slice a2 n2 c2) (zs' := keptR es zs) u.below (by have h := HO.out; rw [HKA.out] at h; rw [h.2]; exact h.1) (fun z hz => (List.mem_filter.1 hz).1)
      rw [keptR_map, HES.out] at h1
      rw [HES2.out]
      exact h1
end Go.Proofs.Ytaonfacbmolklaa
