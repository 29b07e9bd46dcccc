/- The texts Rt0, Rt1, Rt2, Rt3, Rt4, Rg, Ky, Em of this seat, one behind the other. Conditions: each says its own. -/
import Derived.Test.YtjoopjmcnkiieaaM7

/- Is a tree as it must be? It is. Conditions: the tree is there and as it must be. -/
namespace Go.Proofs.Ytjoopjmcnkiieaa
open Go.RowKit Go.Lib
set_option linter.unusedSimpArgs false
set_option linter.unusedVariables false

set_option maxRecDepth 100000 in
set_option maxHeartbeats 4000000 in
theorem sorted_any {B : Nat} {w : World} {a : Option Addr} {c : Nat} {ks : List ByteArray} (h : StrRow B w a ks) (hs : SortedS ks) (hl : ks.length ≤ 1000000) : Calls Try.prog 49 #[.slice a ks.length c] w fun e w' => e = .returned (.bool true) ∧ Same4 w w' := by
  obtain ⟨Q, hQ⟩ : ∃ Q, (fun (e : Ending) (w' : World) => e = .returned (.bool true) ∧ Same4 w w') = Q := ⟨_, rfl⟩
  have HQ : Hid (∀ u, Same4 w u → Q (.returned (.bool true)) u) := Lib.hid (fun u hb => by rw [← hQ]; exact ⟨rfl, hb⟩)
  rw [hQ]
  obtain ⟨n, hn⟩ : ∃ n, ks.length = n := ⟨_, rfl⟩
  rw [hn] at hl ⊢
  have HN := Lib.hid hn
  have HR := Lib.hid h
  have HS := Lib.hid hs
  have hwl : IntKind.i64.wrap ((n : Int) - 1) = (n : Int) - 1 := IntWalk.i64_in _ (by omega)
  clear hQ hn h hs
  go_enter Try.func49, Try.ntmps49
  go_wp2_with fail
  go_loopw [3] (fun iv wr => ∃ i : Int, iv = .int .i64 i ∧ -1 ≤ i ∧ i < n ∧ Hid (Same4 w wr)) (fun iv _ => (intOf iv + 1).toNat)
  case atStart => exact ⟨(n : Int) - 1, rfl, by omega, by omega, Lib.hid (Same4.refl _)⟩
  case round =>
    clear hwl
    obtain ⟨i, rfl, hi1, hin, HW⟩ := hrel
    by_cases h0 : 0 < i
    · obtain ⟨p, rfl⟩ : ∃ p : Nat, i = p := ⟨i.toNat, by omega⟩
      obtain ⟨q, hq⟩ : ∃ q, p = q + 1 := ⟨p - 1, by omega⟩
      have HQ1 := Lib.hid hq
      have hp0 : (0 : Int) ≤ p := by omega
      have hq0 : (0 : Int) ≤ q := by omega
      have hqn : (q : Int) < n := by omega
      have hwm : IntKind.i64.wrap ((p : Int) - 1) = (q : Int) := by rw [IntWalk.i64_in _ (by omega)]; omega
      obtain ⟨x, hx⟩ : ∃ x, ks[p]? = some x := get_some (by have := HN.out; omega)
      obtain ⟨y, hy⟩ : ∃ y, ks[q]? = some y := get_some (by have := HN.out; omega)
      obtain ⟨b, off, rfl, hb, hcx⟩ := HR.out.get hx
      obtain ⟨_, _, e9, _, hcy⟩ := HR.out.get hy
      injection e9 with e9
      injection e9 with e9 e10
      subst e9 e10
      rw [HW.out.cell] at hcx hcy
      have hlt : ltS x y = false := ltS_asymm (HS.out q p y x (by omega) hy hx)
      have HC := Lib.hid (lessS_any x y wr.drew)
      rw [hlt] at HC
      clear hx hy hlt hq
      go_wp2_with fail
      refine wp_region_noPanic ?_
      refine wp_region_J (S := fun u : World => u.cell? ⟨b, off + p, none⟩ = some (.string x) ∧ u.cell? ⟨b, off + q, none⟩ = some (.string y)) (fun _ => false) (by kernel_rfl) ?_
      have hHeld : (fun u : World => u.cell? ⟨b, off + p, none⟩ = some (.string x) ∧ u.cell? ⟨b, off + q, none⟩ = some (.string y)) wr.drew := ⟨hcx, hcy⟩
      refine wpAnyJ_take0 (i := 0) (v := ?_) rfl (by kernel_rfl) (by kernel_rfl) (by kernel_rfl) (fun _ _ _ h => h) (Or.inl ⟨by rfl, ?_⟩) ?_
      rotate_left
      focus ((intro w hSw; clear hSw; go_simp); try with_reducible rfl)
      (try simp only [Act.put, List.getElem_toArray, List.getElem_cons_zero, List.getElem_cons_succ, List.setIfInBounds_toArray, List.set_cons_zero, List.set_cons_succ])
      refine wpAnyJ_take0 (i := 1) (v := ?_) rfl (by kernel_rfl) (by kernel_rfl) (by kernel_rfl) (fun _ _ _ h => h) (Or.inl ⟨by rfl, ?_⟩) ?_
      rotate_left
      focus ((intro w hSw; clear hSw; go_simp); try with_reducible rfl)
      (try simp only [Act.put, List.getElem_toArray, List.getElem_cons_zero, List.getElem_cons_succ, List.setIfInBounds_toArray, List.set_cons_zero, List.set_cons_succ])
      refine wpAnyJ_take0 (i := 2) (v := ?_) rfl (by kernel_rfl) (by kernel_rfl) (by kernel_rfl) (fun _ _ _ h => h) (Or.inl ⟨by rfl, ?_⟩) ?_
      rotate_left
      focus ((intro w hSw; clear hSw; go_simp); try with_reducible rfl)
      (try simp only [Act.put, List.getElem_toArray, List.getElem_cons_zero, List.getElem_cons_succ, List.setIfInBounds_toArray, List.set_cons_zero, List.set_cons_succ])
      refine wpAnyJ_take (i := 3) (v := ?_) rfl (by kernel_rfl) (by kernel_rfl) (by kernel_rfl) (by kernel_rfl) (fun _ _ _ h => h) (Or.inl ⟨by rfl, ?_⟩) (by assumption) ?_
      rotate_left
      focus ((intro w hSw; (try dsimp only at hSw); go_simp); try with_reducible rfl)
      (try simp only [Act.put, List.getElem_toArray, List.getElem_cons_zero, List.getElem_cons_succ, List.setIfInBounds_toArray, List.set_cons_zero, List.set_cons_succ])
      refine wpAnyJ_take0 (i := 4) (v := ?_) rfl (by kernel_rfl) (by kernel_rfl) (by kernel_rfl) (fun _ _ _ h => h) (Or.inl ⟨by rfl, ?_⟩) ?_
      rotate_left
      focus ((intro w hSw; clear hSw; go_simp); try with_reducible rfl)
      (try simp only [Act.put, List.getElem_toArray, List.getElem_cons_zero, List.getElem_cons_succ, List.setIfInBounds_toArray, List.set_cons_zero, List.set_cons_succ])
      refine wpAnyJ_take0 (i := 5) (v := ?_) rfl (by kernel_rfl) (by kernel_rfl) (by kernel_rfl) (fun _ _ _ h => h) (Or.inl ⟨by rfl, ?_⟩) ?_
      rotate_left
      focus ((intro w hSw; clear hSw; go_simp); try with_reducible rfl)
      (try simp only [Act.put, List.getElem_toArray, List.getElem_cons_zero, List.getElem_cons_succ, List.setIfInBounds_toArray, List.set_cons_zero, List.set_cons_succ])
      refine wpAnyJ_take0 (i := 6) (v := ?_) rfl (by kernel_rfl) (by kernel_rfl) (by kernel_rfl) (fun _ _ _ h => h) (Or.inl ⟨by rfl, ?_⟩) ?_
      rotate_left
      focus ((intro w hSw; clear hSw; go_simp); try with_reducible rfl)
      (try simp only [Act.put, List.getElem_toArray, List.getElem_cons_zero, List.getElem_cons_succ, List.setIfInBounds_toArray, List.set_cons_zero, List.set_cons_succ])
      refine wpAnyJ_take0 (i := 7) (v := ?_) rfl (by kernel_rfl) (by kernel_rfl) (by kernel_rfl) (fun _ _ _ h => h) (Or.inl ⟨by rfl, ?_⟩) ?_
      rotate_left
      focus ((intro w hSw; clear hSw; go_simp); try with_reducible rfl)
      (try simp only [Act.put, List.getElem_toArray, List.getElem_cons_zero, List.getElem_cons_succ, List.setIfInBounds_toArray, List.set_cons_zero, List.set_cons_succ])
      refine wpAnyJ_take (i := 8) (v := ?_) rfl (by kernel_rfl) (by kernel_rfl) (by kernel_rfl) (by kernel_rfl) (fun _ _ _ h => h) (Or.inl ⟨by rfl, ?_⟩) (by assumption) ?_
      rotate_left
      focus ((intro w hSw; (try dsimp only at hSw); go_simp); try with_reducible rfl)
      (try simp only [Act.put, List.getElem_toArray, List.getElem_cons_zero, List.getElem_cons_succ, List.setIfInBounds_toArray, List.set_cons_zero, List.set_cons_succ])
      refine wpAnyJ_ready (rs := [9]) (by kernel_rfl) (by simp) ?_
      refine AllReadyJ.cons rfl (fun KK hKK => ?_) AllReadyJ.nil
      go_simp
      go_at_call 50
      refine HC.out.mono ?_
      rintro e u1 ⟨rfl, rfl⟩
      refine hKK.out _ _ (fun _ h => h) ?_
      clear hKK KK
      (try simp only [Act.put, List.getElem_toArray, List.getElem_cons_zero, List.getElem_cons_succ, List.setIfInBounds_toArray, List.set_cons_zero, List.set_cons_succ])
      refine wpAnyJ_done (by kernel_rfl) ?_ _
      refine NoPanic.normal ?_
      go_wp2_with fail
      go_roundw
      case rel => exact ⟨(p : Int) - 1, by rw [HQ1.out]; go_num, by omega, by omega, Lib.hid HW.out.drew'⟩
      case measure => simp [intOf]; have := HQ1.out; omega
    · have h0' : ¬ 0 < i := h0
      go_wp2_with fail
      exact HQ.out _ HW.out
/- Bounds of a kid, told by its place. -/
section
variable {f : Option ByteArray → Option ByteArray → Tr → Prop} {lo hi lo' hi' : Option ByteArray} {ks : List ByteArray} {cs : List Tr} {L : List (Tr × ByteArray)} {c : Tr} {R : List (ByteArray × Tr)}
theorem Foc.lo0 (h : Foc f lo hi ks cs L c R lo' hi') (hL : L.length = 0) : lo' = lo := by
  have : L = [] := List.eq_nil_of_length_eq_zero hL
  subst this
  exact h.l
theorem Foc.lo1 (h : Foc f lo hi ks cs L c R lo' hi') {q : Nat} (hL : L.length = q + 1) : ∃ k, ks[q]? = some k ∧ lo' = some k := by
  rcases List.eq_nil_or_concat L with rfl | ⟨L0, z, rfl⟩
  · simp at hL
  · rw [List.concat_eq_append] at h hL
    obtain ⟨_, _, _, h3⟩ := seg_snoc.1 h.l
    refine ⟨z.2, ?_, h3⟩
    simp at hL
    rw [h.ks, List.map_append, List.append_assoc, List.getElem?_append_right (by simp; omega)]
    simp [hL]
theorem Foc.hi1 (h : Foc f lo hi ks cs L c R lo' hi') {k : ByteArray} (hk : ks[L.length]? = some k) : hi' = some k := by
  have hr := h.r
  rw [h.ks, List.getElem?_append_right (by simp)] at hk
  cases R with
  | nil => simp at hk
  | cons y r =>
    simp at hk
    rw [hr.1, hk]
theorem Foc.hi0 (h : Foc f lo hi ks cs L c R lo' hi') (hk : ks.length = L.length) : hi' = hi := by
  have hr := h.r
  rw [h.ks] at hk
  simp at hk
  have : R = [] := List.eq_nil_of_length_eq_zero (by simpa using hk)
  subst this
  exact hr
theorem rseg_keys (hB : ∀ lo hi c, f lo hi c → ltB lo hi) : ∀ {R : List (ByteArray × Tr)} {lo hi' : Option ByteArray} {c : Tr}, f lo hi' c → rseg f hi' R hi → ∀ k ∈ R.map (·.1), inR lo hi k := by
  intro R
  induction R with
  | nil => intro lo hi' c _ _ k hk; cases hk
  | cons x r ih =>
    intro lo hi' c hc hr k hk
    obtain ⟨rfl, h', h1, h2⟩ := hr
    have hlo : ∀ l, lo = some l → ltS l x.1 = true := fun l hl => hB _ _ _ hc l x.1 hl rfl
    have hhi : ltB (some x.1) hi := rseg_ltB hB h1 h2
    rcases List.mem_cons.1 hk with rfl | hk
    · exact ⟨fun l hl => ltS_asymm (hlo l hl), fun h hh => hhi x.1 h rfl hh⟩
    · have h3 := ih h1 h2 k hk
      exact ⟨fun l hl => ltS_asymm (ltS_lt_le (hlo l hl) (h3.1 x.1 rfl)), h3.2⟩
theorem Frk.keys (hB : ∀ lo hi c, f lo hi c → ltB lo hi) (h : Frk f lo hi ks cs) : ∀ k ∈ ks, inR lo hi k := by
  obtain ⟨c, R, h', rfl, _, h1, h2⟩ := h
  exact rseg_keys hB h1 h2
end
theorem inv_keys {o d a b : Nat} {lo hi : Option ByteArray} {t : Tr} (h : inv o d a b lo hi t) : ∀ k ∈ t.ks, inR lo hi k := by
  cases d with
  | zero => exact h.2.2.1
  | succ d => exact h.1.keys (fun _ _ _ h => inv_ltB h)
def bs (x : Option ByteArray) : ByteArray := x.getD ⟨#[]⟩
theorem inR_within {lo hi : Option ByteArray} {k : ByteArray} (h : inR lo hi k) : withinS k (bs lo) (bs hi) = true := by
  unfold withinS bs
  have h1 : ltS k (lo.getD ⟨#[]⟩) = false := by
    cases lo with
    | none =>
      unfold ltS
      show Op.bytesLess k.toList (⟨#[]⟩ : ByteArray).toList = false
      rw [show (⟨#[]⟩ : ByteArray).toList = [] from by rw [ba_list]]
      cases k.toList <;> rfl
    | some l => exact h.1 l rfl
  rw [h1]
  cases hi with
  | none => simp [ba_list]
  | some x => simp [h.2 x rfl]
theorem StrRow.same {B : Nat} {w W : World} {a : Option Addr} {ks : List ByteArray} (h : StrRow B w a ks) (hs : Same4 w W) : StrRow B W a ks := by
  rcases h with h | ⟨b, off, e, hb, hc⟩
  · exact .inl h
  · exact .inr ⟨b, off, e, hb, fun i v hv => by rw [← hs.cell]; exact hc i v hv⟩
def RightP (w : World) (e : Ending) (w' : World) : Prop := e = .returned (.bool true) ∧ Same4 w w'
end Go.Proofs.Ytjoopjmcnkiieaa

/- right: a leaf that is the root. Conditions: the tree is there and as it must be. -/
namespace Go.Proofs.Ytjoopjmcnkiieaa
open Go.RowKit Go.Lib
set_option linter.unusedSimpArgs false
set_option linter.unusedVariables false

set_option maxRecDepth 100000 in
set_option maxHeartbeats 32000000 in
theorem right_leaf_t {o tb a b : Nat} {lo hi : Option ByteArray} {w : World} {t : Tr} (ho3 : 3 ≤ o) (ho2 : o ≤ 64) (hm : mem 0 w t) (h1 : ∀ k, fp 0 t k ≤ 1) (hv : inv o 0 a b lo hi t) (hb : b ≤ o) (ho : w.cell? ⟨tb, 0, none⟩ = some (.int .i64 o)) :
    Calls Try.prog 37 #[.pointer (some ⟨tb, 0, none⟩), .pointer (some ⟨t.p, 0, none⟩), .string (bs lo), .string (bs hi), .int .i64 1, .bool true] w (RightP w) := by
  obtain ⟨Q, hQ⟩ : ∃ Q, RightP w = Q := ⟨_, rfl⟩
  have HQ : Hid (∀ u, Same4 w u → Q (.returned (.bool true)) u) := Lib.hid (fun u hb => by rw [← hQ]; exact ⟨rfl, hb⟩)
  rw [hQ]
  have HLS := Lib.hid (least_tree (tb := tb) ho2 hm h1 hv ho)
  have hso := inv_sorted hv
  have hle := inv_len hv
  have HK := Lib.hid (inv_keys hv)
  have HM := Lib.hid hm
  have HV := Lib.hid hv
  have HF1 := Lib.hid h1
  have hn := hm.1
  have HLF : Hid (∀ W, Same4 w W → Calls Try.prog 38 #[.pointer (some ⟨t.p, 0, none⟩)] W fun e w' => e = .returned (.bool true) ∧ W = w') := Lib.hid (fun W hs => by have := leaf_any (hn.same hs); exact this)
  obtain ⟨p, hp⟩ : ∃ p, t.p = p := ⟨_, rfl⟩
  rw [hp] at hn HLS HLF ⊢
  obtain ⟨a1, c1, a2, c2, a3, c3, e1, e2, e3, l1, l2, l3, m1, m2, m3⟩ := hn.forms
  rw [e1, e2, e3] at hn
  obtain ⟨_, _, e4, hrow⟩ := hn.str
  injection e4 with e4 e5 e6
  subst e4
  have d0 := hn.cells.1
  have d1 := hn.cells.2.1
  have d2 := hn.cells.2.2.1
  have HN := Lib.hid hn
  obtain ⟨n, hnn⟩ : ∃ n, t.ks.length = n := ⟨_, rfl⟩
  have HNN := Lib.hid hnn
  have hvs : t.vs.length = n := by rw [hv.1, hnn]
  rw [hvs] at d1
  simp only [List.length_nil] at d2
  have HIS : Hid (∀ W, Same4 w W → Calls Try.prog 49 #[.slice a1 n c1] W fun e w' => e = .returned (.bool true) ∧ Same4 W w') := Lib.hid (fun W hs => by have := sorted_any (c := c1) (hrow.same hs) hso (by omega); rw [hnn] at this; exact this)
  have hno : n ≤ o := by omega
  have hno1 : (n : Int) ≤ o := by omega
  have hno2 : ¬ (o : Int) < n := by omega
  have hno3 : ¬ o < n := by omega
  have hn6 : n ≤ 1000 := by omega
  rw [hnn] at d0
  have HD0 := Lib.hid d0
  have HD1 := Lib.hid d1
  have HD2 := Lib.hid d2
  have HO := Lib.hid ho
  obtain ⟨fs, hfs⟩ : ∃ x, bs lo = x := ⟨_, rfl⟩
  obtain ⟨ts, hts⟩ : ∃ x, bs hi = x := ⟨_, rfl⟩
  have HFS : Hid (bs lo = fs ∧ bs hi = ts) := Lib.hid ⟨hfs, hts⟩
  rw [hfs, hts]
  clear hQ hm h1 hv hb hso hle hp e1 e2 e3 e5 e6 hrow hnn l1 l2 l3 m1 m2 m3 hn ho d0 d1 d2 hfs hts hvs
  go_enter Try.func37, Try.ntmps37
  go_wp2_with fail
  refine wp_region_noPanic ?_
  refine wp_region_J (S := fun u : World => u.cell? ⟨p, 0, none⟩ = some (.slice a1 n c1) ∧ u.cell? ⟨tb, 0, none⟩ = some (.int .i64 o)) (fun _ => false) (by kernel_rfl) ?_
  have hHeld : (fun u : World => u.cell? ⟨p, 0, none⟩ = some (.slice a1 n c1) ∧ u.cell? ⟨tb, 0, none⟩ = some (.int .i64 o)) w.drew := ⟨HD0.out, HO.out⟩
  have HSA : Hid (Same4 w w.drew) := Lib.hid (Same4.refl w).drew'
  refine wpAnyJ_take0 (i := 0) (v := ?_) rfl (by kernel_rfl) (by kernel_rfl) (by kernel_rfl) (fun _ _ _ h => h) (Or.inl ⟨by rfl, ?_⟩) ?_
  rotate_left
  focus ((intro w hSw; clear hSw; go_simp); try with_reducible rfl)
  (try simp only [Act.put, List.getElem_toArray, List.getElem_cons_zero, List.getElem_cons_succ, List.setIfInBounds_toArray, List.set_cons_zero, List.set_cons_succ])
  refine wpAnyJ_take0 (i := 1) (v := ?_) rfl (by kernel_rfl) (by kernel_rfl) (by kernel_rfl) (fun _ _ _ h => h) (Or.inl ⟨by rfl, ?_⟩) ?_
  rotate_left
  focus ((intro w hSw; clear hSw; go_simp); try with_reducible rfl)
  (try simp only [Act.put, List.getElem_toArray, List.getElem_cons_zero, List.getElem_cons_succ, List.setIfInBounds_toArray, List.set_cons_zero, List.set_cons_succ])
  refine wpAnyJ_take0 (i := 2) (v := ?_) rfl (by kernel_rfl) (by kernel_rfl) (by kernel_rfl) (fun _ _ _ h => h) (Or.inl ⟨by rfl, ?_⟩) ?_
  rotate_left
  focus ((intro w hSw; clear hSw; go_simp); try with_reducible rfl)
  (try simp only [Act.put, List.getElem_toArray, List.getElem_cons_zero, List.getElem_cons_succ, List.setIfInBounds_toArray, List.set_cons_zero, List.set_cons_succ])
  refine wpAnyJ_take (i := 3) (v := ?_) rfl (by kernel_rfl) (by kernel_rfl) (by kernel_rfl) (by kernel_rfl) (fun _ _ _ h => h) (Or.inl ⟨by rfl, ?_⟩) (by assumption) ?_
  rotate_left
  focus ((intro w hSw; (try dsimp only at hSw); go_simp); try with_reducible rfl)
  (try simp only [Act.put, List.getElem_toArray, List.getElem_cons_zero, List.getElem_cons_succ, List.setIfInBounds_toArray, List.set_cons_zero, List.set_cons_succ])
  refine wpAnyJ_take0 (i := 4) (v := ?_) rfl (by kernel_rfl) (by kernel_rfl) (by kernel_rfl) (fun _ _ _ h => h) (Or.inl ⟨by rfl, ?_⟩) ?_
  rotate_left
  focus ((intro w hSw; clear hSw; go_simp); try with_reducible rfl)
  (try simp only [Act.put, List.getElem_toArray, List.getElem_cons_zero, List.getElem_cons_succ, List.setIfInBounds_toArray, List.set_cons_zero, List.set_cons_succ])
  refine wpAnyJ_take0 (i := 5) (v := ?_) rfl (by kernel_rfl) (by kernel_rfl) (by kernel_rfl) (fun _ _ _ h => h) (Or.inl ⟨by rfl, ?_⟩) ?_
  rotate_left
  focus ((intro w hSw; clear hSw; go_simp); try with_reducible rfl)
  (try simp only [Act.put, List.getElem_toArray, List.getElem_cons_zero, List.getElem_cons_succ, List.setIfInBounds_toArray, List.set_cons_zero, List.set_cons_succ])
  refine wpAnyJ_take0 (i := 6) (v := ?_) rfl (by kernel_rfl) (by kernel_rfl) (by kernel_rfl) (fun _ _ _ h => h) (Or.inl ⟨by rfl, ?_⟩) ?_
  rotate_left
  focus ((intro w hSw; clear hSw; go_simp); try with_reducible rfl)
  (try simp only [Act.put, List.getElem_toArray, List.getElem_cons_zero, List.getElem_cons_succ, List.setIfInBounds_toArray, List.set_cons_zero, List.set_cons_succ])
  refine wpAnyJ_take0 (i := 7) (v := ?_) rfl (by kernel_rfl) (by kernel_rfl) (by kernel_rfl) (fun _ _ _ h => h) (Or.inl ⟨by rfl, ?_⟩) ?_
  rotate_left
  focus ((intro w hSw; clear hSw; go_simp); try with_reducible rfl)
  (try simp only [Act.put, List.getElem_toArray, List.getElem_cons_zero, List.getElem_cons_succ, List.setIfInBounds_toArray, List.set_cons_zero, List.set_cons_succ])
  refine wpAnyJ_take (i := 8) (v := ?_) rfl (by kernel_rfl) (by kernel_rfl) (by kernel_rfl) (by kernel_rfl) (fun _ _ _ h => h) (Or.inl ⟨by rfl, ?_⟩) (by assumption) ?_
  rotate_left
  focus ((intro w hSw; (try dsimp only at hSw); go_simp); try with_reducible rfl)
  (try simp only [Act.put, List.getElem_toArray, List.getElem_cons_zero, List.getElem_cons_succ, List.setIfInBounds_toArray, List.set_cons_zero, List.set_cons_succ])
  refine wpAnyJ_take0 (i := 9) (v := ?_) rfl (by kernel_rfl) (by kernel_rfl) (by kernel_rfl) (fun _ _ _ h => h) (Or.inl ⟨by rfl, ?_⟩) ?_
  rotate_left
  focus ((intro w hSw; clear hSw; go_simp); try with_reducible rfl)
  (try simp only [Act.put, List.getElem_toArray, List.getElem_cons_zero, List.getElem_cons_succ, List.setIfInBounds_toArray, List.set_cons_zero, List.set_cons_succ])
  refine wpAnyJ_take0 (i := 10) (v := ?_) rfl (by kernel_rfl) (by kernel_rfl) (by kernel_rfl) (fun _ _ _ h => h) (Or.inl ⟨by rfl, ?_⟩) ?_
  rotate_left
  focus ((intro w hSw; clear hSw; go_simp); try with_reducible rfl)
  (try simp only [Act.put, List.getElem_toArray, List.getElem_cons_zero, List.getElem_cons_succ, List.setIfInBounds_toArray, List.set_cons_zero, List.set_cons_succ])
  refine wpAnyJ_take0 (i := 11) (v := ?_) rfl (by kernel_rfl) (by kernel_rfl) (by kernel_rfl) (fun _ _ _ h => h) (Or.inl ⟨by rfl, ?_⟩) ?_
  rotate_left
  focus ((intro w hSw; clear hSw; go_simp); try with_reducible rfl)
  (try simp only [Act.put, List.getElem_toArray, List.getElem_cons_zero, List.getElem_cons_succ, List.setIfInBounds_toArray, List.set_cons_zero, List.set_cons_succ])
  refine wpAnyJ_take0 (i := 12) (v := ?_) rfl (by kernel_rfl) (by kernel_rfl) (by kernel_rfl) (fun _ _ _ h => h) (Or.inl ⟨by rfl, ?_⟩) ?_
  rotate_left
  focus ((intro w hSw; clear hSw; go_simp); try with_reducible rfl)
  (try simp only [Act.put, List.getElem_toArray, List.getElem_cons_zero, List.getElem_cons_succ, List.setIfInBounds_toArray, List.set_cons_zero, List.set_cons_succ])
  refine wpAnyJ_take0 (i := 13) (v := ?_) rfl (by kernel_rfl) (by kernel_rfl) (by kernel_rfl) (fun _ _ _ h => h) (Or.inl ⟨by rfl, ?_⟩) ?_
  rotate_left
  focus ((intro w hSw; clear hSw; go_simp); try with_reducible rfl)
  (try simp only [Act.put, List.getElem_toArray, List.getElem_cons_zero, List.getElem_cons_succ, List.setIfInBounds_toArray, List.set_cons_zero, List.set_cons_succ])
  refine wpAnyJ_take0 (i := 14) (v := undef) rfl (by kernel_rfl) (by kernel_rfl) (by kernel_rfl) (fun _ _ _ h => h) (Or.inr ⟨by rfl, rfl⟩) ?_
  (try simp only [Act.put, List.getElem_toArray, List.getElem_cons_zero, List.getElem_cons_succ, List.setIfInBounds_toArray, List.set_cons_zero, List.set_cons_succ])
  refine wpAnyJ_take0 (i := 15) (v := undef) rfl (by kernel_rfl) (by kernel_rfl) (by kernel_rfl) (fun _ _ _ h => h) (Or.inr ⟨by rfl, rfl⟩) ?_
  (try simp only [Act.put, List.getElem_toArray, List.getElem_cons_zero, List.getElem_cons_succ, List.setIfInBounds_toArray, List.set_cons_zero, List.set_cons_succ])
  refine wpAnyJ_take0 (i := 16) (v := undef) rfl (by kernel_rfl) (by kernel_rfl) (by kernel_rfl) (fun _ _ _ h => h) (Or.inr ⟨by rfl, rfl⟩) ?_
  (try simp only [Act.put, List.getElem_toArray, List.getElem_cons_zero, List.getElem_cons_succ, List.setIfInBounds_toArray, List.set_cons_zero, List.set_cons_succ])
  refine wpAnyJ_take0 (i := 17) (v := undef) rfl (by kernel_rfl) (by kernel_rfl) (by kernel_rfl) (fun _ _ _ h => h) (Or.inr ⟨by rfl, rfl⟩) ?_
  (try simp only [Act.put, List.getElem_toArray, List.getElem_cons_zero, List.getElem_cons_succ, List.setIfInBounds_toArray, List.set_cons_zero, List.set_cons_succ])
  refine wpAnyJ_take0 (i := 18) (v := undef) rfl (by kernel_rfl) (by kernel_rfl) (by kernel_rfl) (fun _ _ _ h => h) (Or.inr ⟨by rfl, rfl⟩) ?_
  (try simp only [Act.put, List.getElem_toArray, List.getElem_cons_zero, List.getElem_cons_succ, List.setIfInBounds_toArray, List.set_cons_zero, List.set_cons_succ])
  refine wpAnyJ_take0 (i := 19) (v := undef) rfl (by kernel_rfl) (by kernel_rfl) (by kernel_rfl) (fun _ _ _ h => h) (Or.inr ⟨by rfl, rfl⟩) ?_
  (try simp only [Act.put, List.getElem_toArray, List.getElem_cons_zero, List.getElem_cons_succ, List.setIfInBounds_toArray, List.set_cons_zero, List.set_cons_succ])
  refine wpAnyJ_take0 (i := 20) (v := undef) rfl (by kernel_rfl) (by kernel_rfl) (by kernel_rfl) (fun _ _ _ h => h) (Or.inr ⟨by rfl, rfl⟩) ?_
  (try simp only [Act.put, List.getElem_toArray, List.getElem_cons_zero, List.getElem_cons_succ, List.setIfInBounds_toArray, List.set_cons_zero, List.set_cons_succ])
  refine wpAnyJ_take0 (i := 21) (v := undef) rfl (by kernel_rfl) (by kernel_rfl) (by kernel_rfl) (fun _ _ _ h => h) (Or.inr ⟨by rfl, rfl⟩) ?_
  (try simp only [Act.put, List.getElem_toArray, List.getElem_cons_zero, List.getElem_cons_succ, List.setIfInBounds_toArray, List.set_cons_zero, List.set_cons_succ])
  refine wpAnyJ_take0 (i := 22) (v := undef) rfl (by kernel_rfl) (by kernel_rfl) (by kernel_rfl) (fun _ _ _ h => h) (Or.inr ⟨by rfl, rfl⟩) ?_
  (try simp only [Act.put, List.getElem_toArray, List.getElem_cons_zero, List.getElem_cons_succ, List.setIfInBounds_toArray, List.set_cons_zero, List.set_cons_succ])
  refine wpAnyJ_take0 (i := 23) (v := ?_) rfl (by kernel_rfl) (by kernel_rfl) (by kernel_rfl) (fun _ _ _ h => h) (Or.inl ⟨by rfl, ?_⟩) ?_
  rotate_left
  focus ((intro w hSw; clear hSw; go_simp); try with_reducible rfl)
  (try simp only [Act.put, List.getElem_toArray, List.getElem_cons_zero, List.getElem_cons_succ, List.setIfInBounds_toArray, List.set_cons_zero, List.set_cons_succ])
  refine wpAnyJ_take0 (i := 24) (v := ?_) rfl (by kernel_rfl) (by kernel_rfl) (by kernel_rfl) (fun _ _ _ h => h) (Or.inl ⟨by rfl, ?_⟩) ?_
  rotate_left
  focus ((intro w hSw; clear hSw; go_simp); try with_reducible rfl)
  (try simp only [Act.put, List.getElem_toArray, List.getElem_cons_zero, List.getElem_cons_succ, List.setIfInBounds_toArray, List.set_cons_zero, List.set_cons_succ])
  refine wpAnyJ_take0 (i := 25) (v := ?_) rfl (by kernel_rfl) (by kernel_rfl) (by kernel_rfl) (fun _ _ _ h => h) (Or.inl ⟨by rfl, ?_⟩) ?_
  rotate_left
  focus ((intro w hSw; clear hSw; go_simp); try with_reducible rfl)
  (try simp only [Act.put, List.getElem_toArray, List.getElem_cons_zero, List.getElem_cons_succ, List.setIfInBounds_toArray, List.set_cons_zero, List.set_cons_succ])
  refine wpAnyJ_take0 (i := 26) (v := ?_) rfl (by kernel_rfl) (by kernel_rfl) (by kernel_rfl) (fun _ _ _ h => h) (Or.inl ⟨by rfl, ?_⟩) ?_
  rotate_left
  focus ((intro w hSw; clear hSw; go_simp); try with_reducible rfl)
  (try simp only [Act.put, List.getElem_toArray, List.getElem_cons_zero, List.getElem_cons_succ, List.setIfInBounds_toArray, List.set_cons_zero, List.set_cons_succ])
  refine wpAnyJ_take0 (i := 28) (v := ?_) rfl (by kernel_rfl) (by kernel_rfl) (by kernel_rfl) (fun _ _ _ h => h) (Or.inl ⟨by rfl, ?_⟩) ?_
  rotate_left
  focus ((intro w hSw; clear hSw; go_simp); try with_reducible rfl)
  (try simp only [Act.put, List.getElem_toArray, List.getElem_cons_zero, List.getElem_cons_succ, List.setIfInBounds_toArray, List.set_cons_zero, List.set_cons_succ])
  refine wpAnyJ_take0 (i := 29) (v := ?_) rfl (by kernel_rfl) (by kernel_rfl) (by kernel_rfl) (fun _ _ _ h => h) (Or.inl ⟨by rfl, ?_⟩) ?_
  rotate_left
  focus ((intro w hSw; clear hSw; go_simp); try with_reducible rfl)
  (try simp only [Act.put, List.getElem_toArray, List.getElem_cons_zero, List.getElem_cons_succ, List.setIfInBounds_toArray, List.set_cons_zero, List.set_cons_succ])
  refine wpAnyJ_ready (rs := [27]) (by kernel_rfl) (by simp) ?_
  refine AllReadyJ.cons rfl (fun KK hKK => ?_) AllReadyJ.nil
  go_simp
  go_at_call 38
  refine (HLF.out _ HSA.out).mono ?_
  rintro e u1 ⟨rfl, rfl⟩
  refine hKK.out _ _ (fun _ h => h) ?_
  clear hKK KK
  (try simp only [Act.put, List.getElem_toArray, List.getElem_cons_zero, List.getElem_cons_succ, List.setIfInBounds_toArray, List.set_cons_zero, List.set_cons_succ])
  refine wpAnyJ_take0 (i := 30) (v := ?_) rfl (by kernel_rfl) (by kernel_rfl) (by kernel_rfl) (fun _ _ _ h => h) (Or.inl ⟨by rfl, ?_⟩) ?_
  rotate_left
  focus ((intro w hSw; clear hSw; go_simp); try with_reducible rfl)
  (try simp only [Act.put, List.getElem_toArray, List.getElem_cons_zero, List.getElem_cons_succ, List.setIfInBounds_toArray, List.set_cons_zero, List.set_cons_succ])
  refine wpAnyJ_take0 (i := 31) (v := ?_) rfl (by kernel_rfl) (by kernel_rfl) (by kernel_rfl) (fun _ _ _ h => h) (Or.inl ⟨by rfl, ?_⟩) ?_
  rotate_left
  focus ((intro w hSw; clear hSw; go_simp); try with_reducible rfl)
  (try simp only [Act.put, List.getElem_toArray, List.getElem_cons_zero, List.getElem_cons_succ, List.setIfInBounds_toArray, List.set_cons_zero, List.set_cons_succ])
  refine wpAnyJ_take0 (i := 32) (v := ?_) rfl (by kernel_rfl) (by kernel_rfl) (by kernel_rfl) (fun _ _ _ h => h) (Or.inl ⟨by rfl, ?_⟩) ?_
  rotate_left
  focus ((intro w hSw; clear hSw; go_simp); try with_reducible rfl)
  (try simp only [Act.put, List.getElem_toArray, List.getElem_cons_zero, List.getElem_cons_succ, List.setIfInBounds_toArray, List.set_cons_zero, List.set_cons_succ])
  refine wpAnyJ_take0 (i := 33) (v := ?_) rfl (by kernel_rfl) (by kernel_rfl) (by kernel_rfl) (fun _ _ _ h => h) (Or.inl ⟨by rfl, ?_⟩) ?_
  rotate_left
  focus ((intro w hSw; clear hSw; go_simp); try with_reducible rfl)
  (try simp only [Act.put, List.getElem_toArray, List.getElem_cons_zero, List.getElem_cons_succ, List.setIfInBounds_toArray, List.set_cons_zero, List.set_cons_succ])
  refine wpAnyJ_take0 (i := 34) (v := ?_) rfl (by kernel_rfl) (by kernel_rfl) (by kernel_rfl) (fun _ _ _ h => h) (Or.inl ⟨by rfl, ?_⟩) ?_
  rotate_left
  focus ((intro w hSw; clear hSw; go_simp); try with_reducible rfl)
  (try simp only [Act.put, List.getElem_toArray, List.getElem_cons_zero, List.getElem_cons_succ, List.setIfInBounds_toArray, List.set_cons_zero, List.set_cons_succ])
  refine wpAnyJ_take0 (i := 35) (v := ?_) rfl (by kernel_rfl) (by kernel_rfl) (by kernel_rfl) (fun _ _ _ h => h) (Or.inl ⟨by rfl, ?_⟩) ?_
  rotate_left
  focus ((intro w hSw; clear hSw; go_simp); try with_reducible rfl)
  (try simp only [Act.put, List.getElem_toArray, List.getElem_cons_zero, List.getElem_cons_succ, List.setIfInBounds_toArray, List.set_cons_zero, List.set_cons_succ])
  refine wpAnyJ_take (i := 36) (v := ?_) rfl (by kernel_rfl) (by kernel_rfl) (by kernel_rfl) (by kernel_rfl) (fun _ _ _ h => h) (Or.inl ⟨by rfl, ?_⟩) (by assumption) ?_
  rotate_left
  focus ((intro w hSw; (try dsimp only at hSw); go_simp); try with_reducible rfl)
  (try simp only [Act.put, List.getElem_toArray, List.getElem_cons_zero, List.getElem_cons_succ, List.setIfInBounds_toArray, List.set_cons_zero, List.set_cons_succ])
  refine wpAnyJ_ready (rs := [37]) (by kernel_rfl) (by simp) ?_
  refine AllReadyJ.cons rfl (fun KK hKK => ?_) AllReadyJ.nil
  go_simp
  go_at_call 49
  refine (HIS.out _ HSA.out).mono ?_
  rintro e u1 ⟨rfl, hs9⟩
  have HS1 := Lib.hid (HSA.out.trans hs9)
  have hHeld2 : (fun u : World => u.cell? ⟨p, 0, none⟩ = some (.slice a1 n c1) ∧ u.cell? ⟨tb, 0, none⟩ = some (.int .i64 o)) u1 := ⟨by rw [← HS1.out.cell]; exact HD0.out, by rw [← HS1.out.cell]; exact HO.out⟩
  refine hKK.out _ _ (fun _ _ => hHeld2) ?_
  clear hKK KK hHeld hs9
  have hHeld := hHeld2
  clear hHeld2
  (try simp only [Act.put, List.getElem_toArray, List.getElem_cons_zero, List.getElem_cons_succ, List.setIfInBounds_toArray, List.set_cons_zero, List.set_cons_succ])
  refine wpAnyJ_take0 (i := 38) (v := ?_) rfl (by kernel_rfl) (by kernel_rfl) (by kernel_rfl) (fun _ _ _ h => h) (Or.inl ⟨by rfl, ?_⟩) ?_
  rotate_left
  focus ((intro w hSw; clear hSw; go_simp); try with_reducible rfl)
  (try simp only [Act.put, List.getElem_toArray, List.getElem_cons_zero, List.getElem_cons_succ, List.setIfInBounds_toArray, List.set_cons_zero, List.set_cons_succ])
  refine wpAnyJ_take0 (i := 39) (v := ?_) rfl (by kernel_rfl) (by kernel_rfl) (by kernel_rfl) (fun _ _ _ h => h) (Or.inl ⟨by rfl, ?_⟩) ?_
  rotate_left
  focus ((intro w hSw; clear hSw; go_simp); try with_reducible rfl)
  (try simp only [Act.put, List.getElem_toArray, List.getElem_cons_zero, List.getElem_cons_succ, List.setIfInBounds_toArray, List.set_cons_zero, List.set_cons_succ])
  refine wpAnyJ_done (by kernel_rfl) ?_ _
  refine NoPanic.normal ?_
  go_wp2_with fail
  go_loopw [64] (fun iv wr => ∃ j : Nat, iv = .int .i64 j ∧ j ≤ n ∧ Hid (Same4 w wr)) (fun iv _ => n - (intOf iv).toNat)
  case atStart => exact ⟨0, rfl, Nat.zero_le _, Lib.hid HS1.out⟩
  case round =>
    (try clear HS1 hHeld)
    obtain ⟨j, rfl, hj, HSW⟩ := hrel
    have hj0 : (0 : Int) ≤ j := by omega
    by_cases hjn : j < n
    · have hjn' : (j : Int) < n := by omega
      obtain ⟨k, hk⟩ : ∃ k, t.ks[j]? = some k := get_some (by have := HNN.out; omega)
      obtain ⟨g1, rfl, kc, _⟩ := HN.out.key hk
      rw [HSW.out.cell] at kc
      have HWI := Lib.hid (within_any k fs ts wr)
      have hwi := inR_within (HK.out k (List.mem_of_getElem? hk))
      rw [HFS.out.1, HFS.out.2] at hwi
      rw [hwi] at HWI
      have hj1 : IntKind.i64.wrap ((j : Int) + 1) = (j : Int) + 1 := IntWalk.i64_in _ (by omega)
      clear hk hwi
      go_wp2_with (go_at_call 36; refine HWI.out.mono ?_; clear HWI; rintro e w' ⟨rfl, rfl⟩)
      go_roundw
      case rel => exact ⟨j + 1, by go_num, by omega, HSW⟩
      case measure => simp [intOf]; omega
    · have hjn' : ¬ (j : Int) < n := by omega
      have d2 : wr.cell? ⟨p, 2, none⟩ = some (.slice a3 0 c3) := by rw [← HSW.out.cell]; exact HD2.out
      clear hj
      go_wp2_with fail
      go_loopw [79] (fun iv wr => iv = .int .i64 0 ∧ Hid (Same4 w wr)) (fun _ _ => 0)
      case atStart => exact ⟨rfl, HSW⟩
      case round =>
        clear HSW d2
        obtain ⟨rfl, HSW⟩ := hrel
        go_wp2_with fail
        refine wp_region_noPanic ?_
        refine wp_region_J (S := fun u : World => u.cell? ⟨p, 0, none⟩ = some (.slice a1 n c1) ∧ u.cell? ⟨p, 1, none⟩ = some (.slice a2 n c2) ∧ u.cell? ⟨p, 2, none⟩ = some (.slice a3 0 c3)) (fun _ => false) (by kernel_rfl) ?_
        have HSB : Hid (Same4 w wr.drew) := Lib.hid HSW.out.drew'
        have hHeld : (fun u : World => u.cell? ⟨p, 0, none⟩ = some (.slice a1 n c1) ∧ u.cell? ⟨p, 1, none⟩ = some (.slice a2 n c2) ∧ u.cell? ⟨p, 2, none⟩ = some (.slice a3 0 c3)) wr.drew := ⟨by rw [← HSB.out.cell]; exact HD0.out, by rw [← HSB.out.cell]; exact HD1.out, by rw [← HSB.out.cell]; exact HD2.out⟩
        refine wpAnyJ_take0 (i := 0) (v := ?_) rfl (by kernel_rfl) (by kernel_rfl) (by kernel_rfl) (fun _ _ _ h => h) (Or.inl ⟨by rfl, ?_⟩) ?_
        rotate_left
        focus ((intro w hSw; clear hSw; go_simp); try with_reducible rfl)
        (try simp only [Act.put, List.getElem_toArray, List.getElem_cons_zero, List.getElem_cons_succ, List.setIfInBounds_toArray, List.set_cons_zero, List.set_cons_succ])
        refine wpAnyJ_ready (rs := [1]) (by kernel_rfl) (by simp) ?_
        refine AllReadyJ.cons rfl (fun KK hKK => ?_) AllReadyJ.nil
        go_simp
        go_at_call 38
        refine (HLF.out _ HSB.out).mono ?_
        rintro e u1 ⟨rfl, rfl⟩
        refine hKK.out _ _ (fun _ h => h) ?_
        clear hKK KK
        (try simp only [Act.put, List.getElem_toArray, List.getElem_cons_zero, List.getElem_cons_succ, List.setIfInBounds_toArray, List.set_cons_zero, List.set_cons_succ])
        refine wpAnyJ_take0 (i := 2) (v := ?_) rfl (by kernel_rfl) (by kernel_rfl) (by kernel_rfl) (fun _ _ _ h => h) (Or.inl ⟨by rfl, ?_⟩) ?_
        rotate_left
        focus ((intro w hSw; clear hSw; go_simp); try with_reducible rfl)
        (try simp only [Act.put, List.getElem_toArray, List.getElem_cons_zero, List.getElem_cons_succ, List.setIfInBounds_toArray, List.set_cons_zero, List.set_cons_succ])
        refine wpAnyJ_take0 (i := 3) (v := ?_) rfl (by kernel_rfl) (by kernel_rfl) (by kernel_rfl) (fun _ _ _ h => h) (Or.inl ⟨by rfl, ?_⟩) ?_
        rotate_left
        focus ((intro w hSw; clear hSw; go_simp); try with_reducible rfl)
        (try simp only [Act.put, List.getElem_toArray, List.getElem_cons_zero, List.getElem_cons_succ, List.setIfInBounds_toArray, List.set_cons_zero, List.set_cons_succ])
        refine wpAnyJ_take0 (i := 4) (v := ?_) rfl (by kernel_rfl) (by kernel_rfl) (by kernel_rfl) (fun _ _ _ h => h) (Or.inl ⟨by rfl, ?_⟩) ?_
        rotate_left
        focus ((intro w hSw; clear hSw; go_simp); try with_reducible rfl)
        (try simp only [Act.put, List.getElem_toArray, List.getElem_cons_zero, List.getElem_cons_succ, List.setIfInBounds_toArray, List.set_cons_zero, List.set_cons_succ])
        refine wpAnyJ_take0 (i := 5) (v := ?_) rfl (by kernel_rfl) (by kernel_rfl) (by kernel_rfl) (fun _ _ _ h => h) (Or.inl ⟨by rfl, ?_⟩) ?_
        rotate_left
        focus ((intro w hSw; clear hSw; go_simp); try with_reducible rfl)
        (try simp only [Act.put, List.getElem_toArray, List.getElem_cons_zero, List.getElem_cons_succ, List.setIfInBounds_toArray, List.set_cons_zero, List.set_cons_succ])
        refine wpAnyJ_take (i := 6) (v := ?_) rfl (by kernel_rfl) (by kernel_rfl) (by kernel_rfl) (by kernel_rfl) (fun _ _ _ h => h) (Or.inl ⟨by rfl, ?_⟩) (by assumption) ?_
        rotate_left
        focus ((intro w hSw; (try dsimp only at hSw); go_simp); try with_reducible rfl)
        (try simp only [Act.put, List.getElem_toArray, List.getElem_cons_zero, List.getElem_cons_succ, List.setIfInBounds_toArray, List.set_cons_zero, List.set_cons_succ])
        refine wpAnyJ_take0 (i := 7) (v := ?_) rfl (by kernel_rfl) (by kernel_rfl) (by kernel_rfl) (fun _ _ _ h => h) (Or.inl ⟨by rfl, ?_⟩) ?_
        rotate_left
        focus ((intro w hSw; clear hSw; go_simp); try with_reducible rfl)
        (try simp only [Act.put, List.getElem_toArray, List.getElem_cons_zero, List.getElem_cons_succ, List.setIfInBounds_toArray, List.set_cons_zero, List.set_cons_succ])
        refine wpAnyJ_take0 (i := 8) (v := ?_) rfl (by kernel_rfl) (by kernel_rfl) (by kernel_rfl) (fun _ _ _ h => h) (Or.inl ⟨by rfl, ?_⟩) ?_
        rotate_left
        focus ((intro w hSw; clear hSw; go_simp); try with_reducible rfl)
        (try simp only [Act.put, List.getElem_toArray, List.getElem_cons_zero, List.getElem_cons_succ, List.setIfInBounds_toArray, List.set_cons_zero, List.set_cons_succ])
        refine wpAnyJ_take0 (i := 9) (v := ?_) rfl (by kernel_rfl) (by kernel_rfl) (by kernel_rfl) (fun _ _ _ h => h) (Or.inl ⟨by rfl, ?_⟩) ?_
        rotate_left
        focus ((intro w hSw; clear hSw; go_simp); try with_reducible rfl)
        (try simp only [Act.put, List.getElem_toArray, List.getElem_cons_zero, List.getElem_cons_succ, List.setIfInBounds_toArray, List.set_cons_zero, List.set_cons_succ])
        refine wpAnyJ_take0 (i := 10) (v := ?_) rfl (by kernel_rfl) (by kernel_rfl) (by kernel_rfl) (fun _ _ _ h => h) (Or.inl ⟨by rfl, ?_⟩) ?_
        rotate_left
        focus ((intro w hSw; clear hSw; go_simp); try with_reducible rfl)
        (try simp only [Act.put, List.getElem_toArray, List.getElem_cons_zero, List.getElem_cons_succ, List.setIfInBounds_toArray, List.set_cons_zero, List.set_cons_succ])
        refine wpAnyJ_take (i := 11) (v := ?_) rfl (by kernel_rfl) (by kernel_rfl) (by kernel_rfl) (by kernel_rfl) (fun _ _ _ h => h) (Or.inl ⟨by rfl, ?_⟩) (by assumption) ?_
        rotate_left
        focus ((intro w hSw; (try dsimp only at hSw); go_simp); try with_reducible rfl)
        (try simp only [Act.put, List.getElem_toArray, List.getElem_cons_zero, List.getElem_cons_succ, List.setIfInBounds_toArray, List.set_cons_zero, List.set_cons_succ])
        refine wpAnyJ_take0 (i := 12) (v := ?_) rfl (by kernel_rfl) (by kernel_rfl) (by kernel_rfl) (fun _ _ _ h => h) (Or.inl ⟨by rfl, ?_⟩) ?_
        rotate_left
        focus ((intro w hSw; clear hSw; go_simp); try with_reducible rfl)
        (try simp only [Act.put, List.getElem_toArray, List.getElem_cons_zero, List.getElem_cons_succ, List.setIfInBounds_toArray, List.set_cons_zero, List.set_cons_succ])
        refine wpAnyJ_take0 (i := 13) (v := ?_) rfl (by kernel_rfl) (by kernel_rfl) (by kernel_rfl) (fun _ _ _ h => h) (Or.inl ⟨by rfl, ?_⟩) ?_
        rotate_left
        focus ((intro w hSw; clear hSw; go_simp); try with_reducible rfl)
        (try simp only [Act.put, List.getElem_toArray, List.getElem_cons_zero, List.getElem_cons_succ, List.setIfInBounds_toArray, List.set_cons_zero, List.set_cons_succ])
        refine wpAnyJ_take0 (i := 14) (v := ?_) rfl (by kernel_rfl) (by kernel_rfl) (by kernel_rfl) (fun _ _ _ h => h) (Or.inl ⟨by rfl, ?_⟩) ?_
        rotate_left
        focus ((intro w hSw; clear hSw; go_simp); try with_reducible rfl)
        (try simp only [Act.put, List.getElem_toArray, List.getElem_cons_zero, List.getElem_cons_succ, List.setIfInBounds_toArray, List.set_cons_zero, List.set_cons_succ])
        refine wpAnyJ_take0 (i := 15) (v := ?_) rfl (by kernel_rfl) (by kernel_rfl) (by kernel_rfl) (fun _ _ _ h => h) (Or.inl ⟨by rfl, ?_⟩) ?_
        rotate_left
        focus ((intro w hSw; clear hSw; go_simp); try with_reducible rfl)
        (try simp only [Act.put, List.getElem_toArray, List.getElem_cons_zero, List.getElem_cons_succ, List.setIfInBounds_toArray, List.set_cons_zero, List.set_cons_succ])
        refine wpAnyJ_take0 (i := 16) (v := undef) rfl (by kernel_rfl) (by kernel_rfl) (by kernel_rfl) (fun _ _ _ h => h) (Or.inr ⟨by rfl, rfl⟩) ?_
        (try simp only [Act.put, List.getElem_toArray, List.getElem_cons_zero, List.getElem_cons_succ, List.setIfInBounds_toArray, List.set_cons_zero, List.set_cons_succ])
        refine wpAnyJ_take0 (i := 17) (v := undef) rfl (by kernel_rfl) (by kernel_rfl) (by kernel_rfl) (fun _ _ _ h => h) (Or.inr ⟨by rfl, rfl⟩) ?_
        (try simp only [Act.put, List.getElem_toArray, List.getElem_cons_zero, List.getElem_cons_succ, List.setIfInBounds_toArray, List.set_cons_zero, List.set_cons_succ])
        refine wpAnyJ_take0 (i := 18) (v := undef) rfl (by kernel_rfl) (by kernel_rfl) (by kernel_rfl) (fun _ _ _ h => h) (Or.inr ⟨by rfl, rfl⟩) ?_
        (try simp only [Act.put, List.getElem_toArray, List.getElem_cons_zero, List.getElem_cons_succ, List.setIfInBounds_toArray, List.set_cons_zero, List.set_cons_succ])
        refine wpAnyJ_take0 (i := 19) (v := undef) rfl (by kernel_rfl) (by kernel_rfl) (by kernel_rfl) (fun _ _ _ h => h) (Or.inr ⟨by rfl, rfl⟩) ?_
        (try simp only [Act.put, List.getElem_toArray, List.getElem_cons_zero, List.getElem_cons_succ, List.setIfInBounds_toArray, List.set_cons_zero, List.set_cons_succ])
        refine wpAnyJ_take0 (i := 20) (v := undef) rfl (by kernel_rfl) (by kernel_rfl) (by kernel_rfl) (fun _ _ _ h => h) (Or.inr ⟨by rfl, rfl⟩) ?_
        (try simp only [Act.put, List.getElem_toArray, List.getElem_cons_zero, List.getElem_cons_succ, List.setIfInBounds_toArray, List.set_cons_zero, List.set_cons_succ])
        refine wpAnyJ_take0 (i := 21) (v := undef) rfl (by kernel_rfl) (by kernel_rfl) (by kernel_rfl) (fun _ _ _ h => h) (Or.inr ⟨by rfl, rfl⟩) ?_
        (try simp only [Act.put, List.getElem_toArray, List.getElem_cons_zero, List.getElem_cons_succ, List.setIfInBounds_toArray, List.set_cons_zero, List.set_cons_succ])
        refine wpAnyJ_take0 (i := 22) (v := undef) rfl (by kernel_rfl) (by kernel_rfl) (by kernel_rfl) (fun _ _ _ h => h) (Or.inr ⟨by rfl, rfl⟩) ?_
        (try simp only [Act.put, List.getElem_toArray, List.getElem_cons_zero, List.getElem_cons_succ, List.setIfInBounds_toArray, List.set_cons_zero, List.set_cons_succ])
        refine wpAnyJ_take0 (i := 23) (v := undef) rfl (by kernel_rfl) (by kernel_rfl) (by kernel_rfl) (fun _ _ _ h => h) (Or.inr ⟨by rfl, rfl⟩) ?_
        (try simp only [Act.put, List.getElem_toArray, List.getElem_cons_zero, List.getElem_cons_succ, List.setIfInBounds_toArray, List.set_cons_zero, List.set_cons_succ])
        refine wpAnyJ_take0 (i := 24) (v := undef) rfl (by kernel_rfl) (by kernel_rfl) (by kernel_rfl) (fun _ _ _ h => h) (Or.inr ⟨by rfl, rfl⟩) ?_
        (try simp only [Act.put, List.getElem_toArray, List.getElem_cons_zero, List.getElem_cons_succ, List.setIfInBounds_toArray, List.set_cons_zero, List.set_cons_succ])
        refine wpAnyJ_take0 (i := 25) (v := undef) rfl (by kernel_rfl) (by kernel_rfl) (by kernel_rfl) (fun _ _ _ h => h) (Or.inr ⟨by rfl, rfl⟩) ?_
        (try simp only [Act.put, List.getElem_toArray, List.getElem_cons_zero, List.getElem_cons_succ, List.setIfInBounds_toArray, List.set_cons_zero, List.set_cons_succ])
        refine wpAnyJ_take0 (i := 26) (v := undef) rfl (by kernel_rfl) (by kernel_rfl) (by kernel_rfl) (fun _ _ _ h => h) (Or.inr ⟨by rfl, rfl⟩) ?_
        (try simp only [Act.put, List.getElem_toArray, List.getElem_cons_zero, List.getElem_cons_succ, List.setIfInBounds_toArray, List.set_cons_zero, List.set_cons_succ])
        refine wpAnyJ_take0 (i := 27) (v := undef) rfl (by kernel_rfl) (by kernel_rfl) (by kernel_rfl) (fun _ _ _ h => h) (Or.inr ⟨by rfl, rfl⟩) ?_
        (try simp only [Act.put, List.getElem_toArray, List.getElem_cons_zero, List.getElem_cons_succ, List.setIfInBounds_toArray, List.set_cons_zero, List.set_cons_succ])
        refine wpAnyJ_take0 (i := 28) (v := ?_) rfl (by kernel_rfl) (by kernel_rfl) (by kernel_rfl) (fun _ _ _ h => h) (Or.inl ⟨by rfl, ?_⟩) ?_
        rotate_left
        focus ((intro w hSw; clear hSw; go_simp); try with_reducible rfl)
        (try simp only [Act.put, List.getElem_toArray, List.getElem_cons_zero, List.getElem_cons_succ, List.setIfInBounds_toArray, List.set_cons_zero, List.set_cons_succ])
        refine wpAnyJ_take0 (i := 29) (v := ?_) rfl (by kernel_rfl) (by kernel_rfl) (by kernel_rfl) (fun _ _ _ h => h) (Or.inl ⟨by rfl, ?_⟩) ?_
        rotate_left
        focus ((intro w hSw; clear hSw; go_simp); try with_reducible rfl)
        (try simp only [Act.put, List.getElem_toArray, List.getElem_cons_zero, List.getElem_cons_succ, List.setIfInBounds_toArray, List.set_cons_zero, List.set_cons_succ])
        refine wpAnyJ_done (by kernel_rfl) ?_ _
        refine NoPanic.normal ?_
        go_wp2_with fail
        exact HQ.out _ HSB.out
end Go.Proofs.Ytjoopjmcnkiieaa

/- right: a leaf below the root. Conditions: the tree is there and as it must be. -/
namespace Go.Proofs.Ytjoopjmcnkiieaa
open Go.RowKit Go.Lib
set_option linter.unusedSimpArgs false
set_option linter.unusedVariables false

set_option maxRecDepth 100000 in
set_option maxHeartbeats 32000000 in
theorem right_leaf_f {o tb a b : Nat} {lo hi : Option ByteArray} {w : World} {t : Tr} (ho3 : 3 ≤ o) (ho2 : o ≤ 64) (hm : mem 0 w t) (h1 : ∀ k, fp 0 t k ≤ 1) (hv : inv o 0 a b lo hi t) (hb : b ≤ o) (hl : lst o 0 ≤ t.ks.length) (ho : w.cell? ⟨tb, 0, none⟩ = some (.int .i64 o)) :
    Calls Try.prog 37 #[.pointer (some ⟨tb, 0, none⟩), .pointer (some ⟨t.p, 0, none⟩), .string (bs lo), .string (bs hi), .int .i64 1, .bool false] w (RightP w) := by
  obtain ⟨Q, hQ⟩ : ∃ Q, RightP w = Q := ⟨_, rfl⟩
  have HQ : Hid (∀ u, Same4 w u → Q (.returned (.bool true)) u) := Lib.hid (fun u hb => by rw [← hQ]; exact ⟨rfl, hb⟩)
  rw [hQ]
  have HLS := Lib.hid (least_tree (tb := tb) ho2 hm h1 hv ho)
  have hso := inv_sorted hv
  have hle := inv_len hv
  have HK := Lib.hid (inv_keys hv)
  have HM := Lib.hid hm
  have HV := Lib.hid hv
  have HF1 := Lib.hid h1
  have hn := hm.1
  have HLF : Hid (∀ W, Same4 w W → Calls Try.prog 38 #[.pointer (some ⟨t.p, 0, none⟩)] W fun e w' => e = .returned (.bool true) ∧ W = w') := Lib.hid (fun W hs => by have := leaf_any (hn.same hs); exact this)
  obtain ⟨p, hp⟩ : ∃ p, t.p = p := ⟨_, rfl⟩
  rw [hp] at hn HLS HLF ⊢
  obtain ⟨a1, c1, a2, c2, a3, c3, e1, e2, e3, l1, l2, l3, m1, m2, m3⟩ := hn.forms
  rw [e1, e2, e3] at hn
  obtain ⟨_, _, e4, hrow⟩ := hn.str
  injection e4 with e4 e5 e6
  subst e4
  have d0 := hn.cells.1
  have d1 := hn.cells.2.1
  have d2 := hn.cells.2.2.1
  have HN := Lib.hid hn
  obtain ⟨n, hnn⟩ : ∃ n, t.ks.length = n := ⟨_, rfl⟩
  have HNN := Lib.hid hnn
  have hvs : t.vs.length = n := by rw [hv.1, hnn]
  rw [hvs] at d1
  simp only [List.length_nil] at d2
  have HIS : Hid (∀ W, Same4 w W → Calls Try.prog 49 #[.slice a1 n c1] W fun e w' => e = .returned (.bool true) ∧ Same4 W w') := Lib.hid (fun W hs => by have := sorted_any (c := c1) (hrow.same hs) hso (by omega); rw [hnn] at this; exact this)
  have hno : n ≤ o := by omega
  have hno1 : (n : Int) ≤ o := by omega
  have hno2 : ¬ (o : Int) < n := by omega
  have hno3 : ¬ o < n := by omega
  have hn6 : n ≤ 1000 := by omega
  obtain ⟨lt, hlt⟩ : ∃ x, lst o 0 = x := ⟨_, rfl⟩
  rw [hlt] at HLS
  have hln1 : (lt : Int) ≤ n := by omega
  have hln2 : ¬ (n : Int) < lt := by omega
  have hln3 : ¬ n < lt := by omega
  rw [hnn] at d0
  have HD0 := Lib.hid d0
  have HD1 := Lib.hid d1
  have HD2 := Lib.hid d2
  have HO := Lib.hid ho
  obtain ⟨fs, hfs⟩ : ∃ x, bs lo = x := ⟨_, rfl⟩
  obtain ⟨ts, hts⟩ : ∃ x, bs hi = x := ⟨_, rfl⟩
  have HFS : Hid (bs lo = fs ∧ bs hi = ts) := Lib.hid ⟨hfs, hts⟩
  rw [hfs, hts]
  clear hQ hm h1 hv hb hso hle hp e1 e2 e3 e5 e6 hrow hnn l1 l2 l3 m1 m2 m3 hn ho d0 d1 d2 hfs hts hvs hlt hl
  go_enter Try.func37, Try.ntmps37
  go_wp2_with fail
  refine wp_region_noPanic ?_
  refine wp_region_J (S := fun u : World => u.cell? ⟨p, 0, none⟩ = some (.slice a1 n c1) ∧ u.cell? ⟨tb, 0, none⟩ = some (.int .i64 o)) (fun _ => false) (by kernel_rfl) ?_
  have hHeld : (fun u : World => u.cell? ⟨p, 0, none⟩ = some (.slice a1 n c1) ∧ u.cell? ⟨tb, 0, none⟩ = some (.int .i64 o)) w.drew := ⟨HD0.out, HO.out⟩
  have HSA : Hid (Same4 w w.drew) := Lib.hid (Same4.refl w).drew'
  refine wpAnyJ_take0 (i := 0) (v := ?_) rfl (by kernel_rfl) (by kernel_rfl) (by kernel_rfl) (fun _ _ _ h => h) (Or.inl ⟨by rfl, ?_⟩) ?_
  rotate_left
  focus ((intro w hSw; clear hSw; go_simp); try with_reducible rfl)
  (try simp only [Act.put, List.getElem_toArray, List.getElem_cons_zero, List.getElem_cons_succ, List.setIfInBounds_toArray, List.set_cons_zero, List.set_cons_succ])
  refine wpAnyJ_take0 (i := 1) (v := ?_) rfl (by kernel_rfl) (by kernel_rfl) (by kernel_rfl) (fun _ _ _ h => h) (Or.inl ⟨by rfl, ?_⟩) ?_
  rotate_left
  focus ((intro w hSw; clear hSw; go_simp); try with_reducible rfl)
  (try simp only [Act.put, List.getElem_toArray, List.getElem_cons_zero, List.getElem_cons_succ, List.setIfInBounds_toArray, List.set_cons_zero, List.set_cons_succ])
  refine wpAnyJ_take0 (i := 2) (v := ?_) rfl (by kernel_rfl) (by kernel_rfl) (by kernel_rfl) (fun _ _ _ h => h) (Or.inl ⟨by rfl, ?_⟩) ?_
  rotate_left
  focus ((intro w hSw; clear hSw; go_simp); try with_reducible rfl)
  (try simp only [Act.put, List.getElem_toArray, List.getElem_cons_zero, List.getElem_cons_succ, List.setIfInBounds_toArray, List.set_cons_zero, List.set_cons_succ])
  refine wpAnyJ_take (i := 3) (v := ?_) rfl (by kernel_rfl) (by kernel_rfl) (by kernel_rfl) (by kernel_rfl) (fun _ _ _ h => h) (Or.inl ⟨by rfl, ?_⟩) (by assumption) ?_
  rotate_left
  focus ((intro w hSw; (try dsimp only at hSw); go_simp); try with_reducible rfl)
  (try simp only [Act.put, List.getElem_toArray, List.getElem_cons_zero, List.getElem_cons_succ, List.setIfInBounds_toArray, List.set_cons_zero, List.set_cons_succ])
  refine wpAnyJ_take0 (i := 4) (v := ?_) rfl (by kernel_rfl) (by kernel_rfl) (by kernel_rfl) (fun _ _ _ h => h) (Or.inl ⟨by rfl, ?_⟩) ?_
  rotate_left
  focus ((intro w hSw; clear hSw; go_simp); try with_reducible rfl)
  (try simp only [Act.put, List.getElem_toArray, List.getElem_cons_zero, List.getElem_cons_succ, List.setIfInBounds_toArray, List.set_cons_zero, List.set_cons_succ])
  refine wpAnyJ_take0 (i := 5) (v := ?_) rfl (by kernel_rfl) (by kernel_rfl) (by kernel_rfl) (fun _ _ _ h => h) (Or.inl ⟨by rfl, ?_⟩) ?_
  rotate_left
  focus ((intro w hSw; clear hSw; go_simp); try with_reducible rfl)
  (try simp only [Act.put, List.getElem_toArray, List.getElem_cons_zero, List.getElem_cons_succ, List.setIfInBounds_toArray, List.set_cons_zero, List.set_cons_succ])
  refine wpAnyJ_take0 (i := 6) (v := ?_) rfl (by kernel_rfl) (by kernel_rfl) (by kernel_rfl) (fun _ _ _ h => h) (Or.inl ⟨by rfl, ?_⟩) ?_
  rotate_left
  focus ((intro w hSw; clear hSw; go_simp); try with_reducible rfl)
  (try simp only [Act.put, List.getElem_toArray, List.getElem_cons_zero, List.getElem_cons_succ, List.setIfInBounds_toArray, List.set_cons_zero, List.set_cons_succ])
  refine wpAnyJ_take0 (i := 7) (v := ?_) rfl (by kernel_rfl) (by kernel_rfl) (by kernel_rfl) (fun _ _ _ h => h) (Or.inl ⟨by rfl, ?_⟩) ?_
  rotate_left
  focus ((intro w hSw; clear hSw; go_simp); try with_reducible rfl)
  (try simp only [Act.put, List.getElem_toArray, List.getElem_cons_zero, List.getElem_cons_succ, List.setIfInBounds_toArray, List.set_cons_zero, List.set_cons_succ])
  refine wpAnyJ_take (i := 8) (v := ?_) rfl (by kernel_rfl) (by kernel_rfl) (by kernel_rfl) (by kernel_rfl) (fun _ _ _ h => h) (Or.inl ⟨by rfl, ?_⟩) (by assumption) ?_
  rotate_left
  focus ((intro w hSw; (try dsimp only at hSw); go_simp); try with_reducible rfl)
  (try simp only [Act.put, List.getElem_toArray, List.getElem_cons_zero, List.getElem_cons_succ, List.setIfInBounds_toArray, List.set_cons_zero, List.set_cons_succ])
  refine wpAnyJ_take0 (i := 9) (v := ?_) rfl (by kernel_rfl) (by kernel_rfl) (by kernel_rfl) (fun _ _ _ h => h) (Or.inl ⟨by rfl, ?_⟩) ?_
  rotate_left
  focus ((intro w hSw; clear hSw; go_simp); try with_reducible rfl)
  (try simp only [Act.put, List.getElem_toArray, List.getElem_cons_zero, List.getElem_cons_succ, List.setIfInBounds_toArray, List.set_cons_zero, List.set_cons_succ])
  refine wpAnyJ_take0 (i := 10) (v := ?_) rfl (by kernel_rfl) (by kernel_rfl) (by kernel_rfl) (fun _ _ _ h => h) (Or.inl ⟨by rfl, ?_⟩) ?_
  rotate_left
  focus ((intro w hSw; clear hSw; go_simp); try with_reducible rfl)
  (try simp only [Act.put, List.getElem_toArray, List.getElem_cons_zero, List.getElem_cons_succ, List.setIfInBounds_toArray, List.set_cons_zero, List.set_cons_succ])
  refine wpAnyJ_take0 (i := 11) (v := ?_) rfl (by kernel_rfl) (by kernel_rfl) (by kernel_rfl) (fun _ _ _ h => h) (Or.inl ⟨by rfl, ?_⟩) ?_
  rotate_left
  focus ((intro w hSw; clear hSw; go_simp); try with_reducible rfl)
  (try simp only [Act.put, List.getElem_toArray, List.getElem_cons_zero, List.getElem_cons_succ, List.setIfInBounds_toArray, List.set_cons_zero, List.set_cons_succ])
  refine wpAnyJ_take0 (i := 12) (v := ?_) rfl (by kernel_rfl) (by kernel_rfl) (by kernel_rfl) (fun _ _ _ h => h) (Or.inl ⟨by rfl, ?_⟩) ?_
  rotate_left
  focus ((intro w hSw; clear hSw; go_simp); try with_reducible rfl)
  (try simp only [Act.put, List.getElem_toArray, List.getElem_cons_zero, List.getElem_cons_succ, List.setIfInBounds_toArray, List.set_cons_zero, List.set_cons_succ])
  refine wpAnyJ_take0 (i := 13) (v := ?_) rfl (by kernel_rfl) (by kernel_rfl) (by kernel_rfl) (fun _ _ _ h => h) (Or.inl ⟨by rfl, ?_⟩) ?_
  rotate_left
  focus ((intro w hSw; clear hSw; go_simp); try with_reducible rfl)
  (try simp only [Act.put, List.getElem_toArray, List.getElem_cons_zero, List.getElem_cons_succ, List.setIfInBounds_toArray, List.set_cons_zero, List.set_cons_succ])
  refine wpAnyJ_take0 (i := 14) (v := ?_) rfl (by kernel_rfl) (by kernel_rfl) (by kernel_rfl) (fun _ _ _ h => h) (Or.inl ⟨by rfl, ?_⟩) ?_
  rotate_left
  focus ((intro w hSw; clear hSw; go_simp); try with_reducible rfl)
  (try simp only [Act.put, List.getElem_toArray, List.getElem_cons_zero, List.getElem_cons_succ, List.setIfInBounds_toArray, List.set_cons_zero, List.set_cons_succ])
  refine wpAnyJ_take0 (i := 15) (v := ?_) rfl (by kernel_rfl) (by kernel_rfl) (by kernel_rfl) (fun _ _ _ h => h) (Or.inl ⟨by rfl, ?_⟩) ?_
  rotate_left
  focus ((intro w hSw; clear hSw; go_simp); try with_reducible rfl)
  (try simp only [Act.put, List.getElem_toArray, List.getElem_cons_zero, List.getElem_cons_succ, List.setIfInBounds_toArray, List.set_cons_zero, List.set_cons_succ])
  refine wpAnyJ_take0 (i := 16) (v := ?_) rfl (by kernel_rfl) (by kernel_rfl) (by kernel_rfl) (fun _ _ _ h => h) (Or.inl ⟨by rfl, ?_⟩) ?_
  rotate_left
  focus ((intro w hSw; clear hSw; go_simp); try with_reducible rfl)
  (try simp only [Act.put, List.getElem_toArray, List.getElem_cons_zero, List.getElem_cons_succ, List.setIfInBounds_toArray, List.set_cons_zero, List.set_cons_succ])
  refine wpAnyJ_take (i := 17) (v := ?_) rfl (by kernel_rfl) (by kernel_rfl) (by kernel_rfl) (by kernel_rfl) (fun _ _ _ h => h) (Or.inl ⟨by rfl, ?_⟩) (by assumption) ?_
  rotate_left
  focus ((intro w hSw; (try dsimp only at hSw); go_simp); try with_reducible rfl)
  (try simp only [Act.put, List.getElem_toArray, List.getElem_cons_zero, List.getElem_cons_succ, List.setIfInBounds_toArray, List.set_cons_zero, List.set_cons_succ])
  refine wpAnyJ_take0 (i := 18) (v := ?_) rfl (by kernel_rfl) (by kernel_rfl) (by kernel_rfl) (fun _ _ _ h => h) (Or.inl ⟨by rfl, ?_⟩) ?_
  rotate_left
  focus ((intro w hSw; clear hSw; go_simp); try with_reducible rfl)
  (try simp only [Act.put, List.getElem_toArray, List.getElem_cons_zero, List.getElem_cons_succ, List.setIfInBounds_toArray, List.set_cons_zero, List.set_cons_succ])
  refine wpAnyJ_take0 (i := 19) (v := ?_) rfl (by kernel_rfl) (by kernel_rfl) (by kernel_rfl) (fun _ _ _ h => h) (Or.inl ⟨by rfl, ?_⟩) ?_
  rotate_left
  focus ((intro w hSw; clear hSw; go_simp); try with_reducible rfl)
  (try simp only [Act.put, List.getElem_toArray, List.getElem_cons_zero, List.getElem_cons_succ, List.setIfInBounds_toArray, List.set_cons_zero, List.set_cons_succ])
  refine wpAnyJ_take0 (i := 20) (v := ?_) rfl (by kernel_rfl) (by kernel_rfl) (by kernel_rfl) (fun _ _ _ h => h) (Or.inl ⟨by rfl, ?_⟩) ?_
  rotate_left
  focus ((intro w hSw; clear hSw; go_simp); try with_reducible rfl)
  (try simp only [Act.put, List.getElem_toArray, List.getElem_cons_zero, List.getElem_cons_succ, List.setIfInBounds_toArray, List.set_cons_zero, List.set_cons_succ])
  refine wpAnyJ_ready (rs := [21]) (by kernel_rfl) (by simp) ?_
  refine AllReadyJ.cons rfl (fun KK hKK => ?_) AllReadyJ.nil
  go_simp
  go_at_call 48
  refine (HLS.out _ HSA.out).mono ?_
  rintro e u1 ⟨rfl, rfl⟩
  refine hKK.out _ _ (fun _ h => h) ?_
  clear hKK KK
  (try simp only [Act.put, List.getElem_toArray, List.getElem_cons_zero, List.getElem_cons_succ, List.setIfInBounds_toArray, List.set_cons_zero, List.set_cons_succ])
  refine wpAnyJ_take0 (i := 22) (v := ?_) rfl (by kernel_rfl) (by kernel_rfl) (by kernel_rfl) (fun _ _ _ h => h) (Or.inl ⟨by rfl, ?_⟩) ?_
  rotate_left
  focus ((intro w hSw; clear hSw; go_simp); try with_reducible rfl)
  (try simp only [Act.put, List.getElem_toArray, List.getElem_cons_zero, List.getElem_cons_succ, List.setIfInBounds_toArray, List.set_cons_zero, List.set_cons_succ])
  refine wpAnyJ_take0 (i := 23) (v := ?_) rfl (by kernel_rfl) (by kernel_rfl) (by kernel_rfl) (fun _ _ _ h => h) (Or.inl ⟨by rfl, ?_⟩) ?_
  rotate_left
  focus ((intro w hSw; clear hSw; go_simp); try with_reducible rfl)
  (try simp only [Act.put, List.getElem_toArray, List.getElem_cons_zero, List.getElem_cons_succ, List.setIfInBounds_toArray, List.set_cons_zero, List.set_cons_succ])
  refine wpAnyJ_take0 (i := 24) (v := ?_) rfl (by kernel_rfl) (by kernel_rfl) (by kernel_rfl) (fun _ _ _ h => h) (Or.inl ⟨by rfl, ?_⟩) ?_
  rotate_left
  focus ((intro w hSw; clear hSw; go_simp); try with_reducible rfl)
  (try simp only [Act.put, List.getElem_toArray, List.getElem_cons_zero, List.getElem_cons_succ, List.setIfInBounds_toArray, List.set_cons_zero, List.set_cons_succ])
  refine wpAnyJ_take0 (i := 25) (v := ?_) rfl (by kernel_rfl) (by kernel_rfl) (by kernel_rfl) (fun _ _ _ h => h) (Or.inl ⟨by rfl, ?_⟩) ?_
  rotate_left
  focus ((intro w hSw; clear hSw; go_simp); try with_reducible rfl)
  (try simp only [Act.put, List.getElem_toArray, List.getElem_cons_zero, List.getElem_cons_succ, List.setIfInBounds_toArray, List.set_cons_zero, List.set_cons_succ])
  refine wpAnyJ_take0 (i := 26) (v := ?_) rfl (by kernel_rfl) (by kernel_rfl) (by kernel_rfl) (fun _ _ _ h => h) (Or.inl ⟨by rfl, ?_⟩) ?_
  rotate_left
  focus ((intro w hSw; clear hSw; go_simp); try with_reducible rfl)
  (try simp only [Act.put, List.getElem_toArray, List.getElem_cons_zero, List.getElem_cons_succ, List.setIfInBounds_toArray, List.set_cons_zero, List.set_cons_succ])
  refine wpAnyJ_take0 (i := 28) (v := ?_) rfl (by kernel_rfl) (by kernel_rfl) (by kernel_rfl) (fun _ _ _ h => h) (Or.inl ⟨by rfl, ?_⟩) ?_
  rotate_left
  focus ((intro w hSw; clear hSw; go_simp); try with_reducible rfl)
  (try simp only [Act.put, List.getElem_toArray, List.getElem_cons_zero, List.getElem_cons_succ, List.setIfInBounds_toArray, List.set_cons_zero, List.set_cons_succ])
  refine wpAnyJ_take0 (i := 29) (v := ?_) rfl (by kernel_rfl) (by kernel_rfl) (by kernel_rfl) (fun _ _ _ h => h) (Or.inl ⟨by rfl, ?_⟩) ?_
  rotate_left
  focus ((intro w hSw; clear hSw; go_simp); try with_reducible rfl)
  (try simp only [Act.put, List.getElem_toArray, List.getElem_cons_zero, List.getElem_cons_succ, List.setIfInBounds_toArray, List.set_cons_zero, List.set_cons_succ])
  refine wpAnyJ_ready (rs := [27]) (by kernel_rfl) (by simp) ?_
  refine AllReadyJ.cons rfl (fun KK hKK => ?_) AllReadyJ.nil
  go_simp
  go_at_call 38
  refine (HLF.out _ HSA.out).mono ?_
  rintro e u1 ⟨rfl, rfl⟩
  refine hKK.out _ _ (fun _ h => h) ?_
  clear hKK KK
  (try simp only [Act.put, List.getElem_toArray, List.getElem_cons_zero, List.getElem_cons_succ, List.setIfInBounds_toArray, List.set_cons_zero, List.set_cons_succ])
  refine wpAnyJ_take0 (i := 30) (v := ?_) rfl (by kernel_rfl) (by kernel_rfl) (by kernel_rfl) (fun _ _ _ h => h) (Or.inl ⟨by rfl, ?_⟩) ?_
  rotate_left
  focus ((intro w hSw; clear hSw; go_simp); try with_reducible rfl)
  (try simp only [Act.put, List.getElem_toArray, List.getElem_cons_zero, List.getElem_cons_succ, List.setIfInBounds_toArray, List.set_cons_zero, List.set_cons_succ])
  refine wpAnyJ_take0 (i := 31) (v := ?_) rfl (by kernel_rfl) (by kernel_rfl) (by kernel_rfl) (fun _ _ _ h => h) (Or.inl ⟨by rfl, ?_⟩) ?_
  rotate_left
  focus ((intro w hSw; clear hSw; go_simp); try with_reducible rfl)
  (try simp only [Act.put, List.getElem_toArray, List.getElem_cons_zero, List.getElem_cons_succ, List.setIfInBounds_toArray, List.set_cons_zero, List.set_cons_succ])
  refine wpAnyJ_take0 (i := 32) (v := ?_) rfl (by kernel_rfl) (by kernel_rfl) (by kernel_rfl) (fun _ _ _ h => h) (Or.inl ⟨by rfl, ?_⟩) ?_
  rotate_left
  focus ((intro w hSw; clear hSw; go_simp); try with_reducible rfl)
  (try simp only [Act.put, List.getElem_toArray, List.getElem_cons_zero, List.getElem_cons_succ, List.setIfInBounds_toArray, List.set_cons_zero, List.set_cons_succ])
  refine wpAnyJ_take0 (i := 33) (v := ?_) rfl (by kernel_rfl) (by kernel_rfl) (by kernel_rfl) (fun _ _ _ h => h) (Or.inl ⟨by rfl, ?_⟩) ?_
  rotate_left
  focus ((intro w hSw; clear hSw; go_simp); try with_reducible rfl)
  (try simp only [Act.put, List.getElem_toArray, List.getElem_cons_zero, List.getElem_cons_succ, List.setIfInBounds_toArray, List.set_cons_zero, List.set_cons_succ])
  refine wpAnyJ_take0 (i := 34) (v := ?_) rfl (by kernel_rfl) (by kernel_rfl) (by kernel_rfl) (fun _ _ _ h => h) (Or.inl ⟨by rfl, ?_⟩) ?_
  rotate_left
  focus ((intro w hSw; clear hSw; go_simp); try with_reducible rfl)
  (try simp only [Act.put, List.getElem_toArray, List.getElem_cons_zero, List.getElem_cons_succ, List.setIfInBounds_toArray, List.set_cons_zero, List.set_cons_succ])
  refine wpAnyJ_take0 (i := 35) (v := ?_) rfl (by kernel_rfl) (by kernel_rfl) (by kernel_rfl) (fun _ _ _ h => h) (Or.inl ⟨by rfl, ?_⟩) ?_
  rotate_left
  focus ((intro w hSw; clear hSw; go_simp); try with_reducible rfl)
  (try simp only [Act.put, List.getElem_toArray, List.getElem_cons_zero, List.getElem_cons_succ, List.setIfInBounds_toArray, List.set_cons_zero, List.set_cons_succ])
  refine wpAnyJ_take (i := 36) (v := ?_) rfl (by kernel_rfl) (by kernel_rfl) (by kernel_rfl) (by kernel_rfl) (fun _ _ _ h => h) (Or.inl ⟨by rfl, ?_⟩) (by assumption) ?_
  rotate_left
  focus ((intro w hSw; (try dsimp only at hSw); go_simp); try with_reducible rfl)
  (try simp only [Act.put, List.getElem_toArray, List.getElem_cons_zero, List.getElem_cons_succ, List.setIfInBounds_toArray, List.set_cons_zero, List.set_cons_succ])
  refine wpAnyJ_ready (rs := [37]) (by kernel_rfl) (by simp) ?_
  refine AllReadyJ.cons rfl (fun KK hKK => ?_) AllReadyJ.nil
  go_simp
  go_at_call 49
  refine (HIS.out _ HSA.out).mono ?_
  rintro e u1 ⟨rfl, hs9⟩
  have HS1 := Lib.hid (HSA.out.trans hs9)
  have hHeld2 : (fun u : World => u.cell? ⟨p, 0, none⟩ = some (.slice a1 n c1) ∧ u.cell? ⟨tb, 0, none⟩ = some (.int .i64 o)) u1 := ⟨by rw [← HS1.out.cell]; exact HD0.out, by rw [← HS1.out.cell]; exact HO.out⟩
  refine hKK.out _ _ (fun _ _ => hHeld2) ?_
  clear hKK KK hHeld hs9
  have hHeld := hHeld2
  clear hHeld2
  (try simp only [Act.put, List.getElem_toArray, List.getElem_cons_zero, List.getElem_cons_succ, List.setIfInBounds_toArray, List.set_cons_zero, List.set_cons_succ])
  refine wpAnyJ_take0 (i := 38) (v := ?_) rfl (by kernel_rfl) (by kernel_rfl) (by kernel_rfl) (fun _ _ _ h => h) (Or.inl ⟨by rfl, ?_⟩) ?_
  rotate_left
  focus ((intro w hSw; clear hSw; go_simp); try with_reducible rfl)
  (try simp only [Act.put, List.getElem_toArray, List.getElem_cons_zero, List.getElem_cons_succ, List.setIfInBounds_toArray, List.set_cons_zero, List.set_cons_succ])
  refine wpAnyJ_take0 (i := 39) (v := ?_) rfl (by kernel_rfl) (by kernel_rfl) (by kernel_rfl) (fun _ _ _ h => h) (Or.inl ⟨by rfl, ?_⟩) ?_
  rotate_left
  focus ((intro w hSw; clear hSw; go_simp); try with_reducible rfl)
  (try simp only [Act.put, List.getElem_toArray, List.getElem_cons_zero, List.getElem_cons_succ, List.setIfInBounds_toArray, List.set_cons_zero, List.set_cons_succ])
  refine wpAnyJ_done (by kernel_rfl) ?_ _
  refine NoPanic.normal ?_
  go_wp2_with fail
  go_loopw [64] (fun iv wr => ∃ j : Nat, iv = .int .i64 j ∧ j ≤ n ∧ Hid (Same4 w wr)) (fun iv _ => n - (intOf iv).toNat)
  case atStart => exact ⟨0, rfl, Nat.zero_le _, Lib.hid HS1.out⟩
  case round =>
    (try clear HS1 hHeld)
    obtain ⟨j, rfl, hj, HSW⟩ := hrel
    have hj0 : (0 : Int) ≤ j := by omega
    by_cases hjn : j < n
    · have hjn' : (j : Int) < n := by omega
      obtain ⟨k, hk⟩ : ∃ k, t.ks[j]? = some k := get_some (by have := HNN.out; omega)
      obtain ⟨g1, rfl, kc, _⟩ := HN.out.key hk
      rw [HSW.out.cell] at kc
      have HWI := Lib.hid (within_any k fs ts wr)
      have hwi := inR_within (HK.out k (List.mem_of_getElem? hk))
      rw [HFS.out.1, HFS.out.2] at hwi
      rw [hwi] at HWI
      have hj1 : IntKind.i64.wrap ((j : Int) + 1) = (j : Int) + 1 := IntWalk.i64_in _ (by omega)
      clear hk hwi
      go_wp2_with (go_at_call 36; refine HWI.out.mono ?_; clear HWI; rintro e w' ⟨rfl, rfl⟩)
      go_roundw
      case rel => exact ⟨j + 1, by go_num, by omega, HSW⟩
      case measure => simp [intOf]; omega
    · have hjn' : ¬ (j : Int) < n := by omega
      have d2 : wr.cell? ⟨p, 2, none⟩ = some (.slice a3 0 c3) := by rw [← HSW.out.cell]; exact HD2.out
      clear hj
      go_wp2_with fail
      go_loopw [79] (fun iv wr => iv = .int .i64 0 ∧ Hid (Same4 w wr)) (fun _ _ => 0)
      case atStart => exact ⟨rfl, HSW⟩
      case round =>
        clear HSW d2
        obtain ⟨rfl, HSW⟩ := hrel
        go_wp2_with fail
        refine wp_region_noPanic ?_
        refine wp_region_J (S := fun u : World => u.cell? ⟨p, 0, none⟩ = some (.slice a1 n c1) ∧ u.cell? ⟨p, 1, none⟩ = some (.slice a2 n c2) ∧ u.cell? ⟨p, 2, none⟩ = some (.slice a3 0 c3)) (fun _ => false) (by kernel_rfl) ?_
        have HSB : Hid (Same4 w wr.drew) := Lib.hid HSW.out.drew'
        have hHeld : (fun u : World => u.cell? ⟨p, 0, none⟩ = some (.slice a1 n c1) ∧ u.cell? ⟨p, 1, none⟩ = some (.slice a2 n c2) ∧ u.cell? ⟨p, 2, none⟩ = some (.slice a3 0 c3)) wr.drew := ⟨by rw [← HSB.out.cell]; exact HD0.out, by rw [← HSB.out.cell]; exact HD1.out, by rw [← HSB.out.cell]; exact HD2.out⟩
        refine wpAnyJ_take0 (i := 0) (v := ?_) rfl (by kernel_rfl) (by kernel_rfl) (by kernel_rfl) (fun _ _ _ h => h) (Or.inl ⟨by rfl, ?_⟩) ?_
        rotate_left
        focus ((intro w hSw; clear hSw; go_simp); try with_reducible rfl)
        (try simp only [Act.put, List.getElem_toArray, List.getElem_cons_zero, List.getElem_cons_succ, List.setIfInBounds_toArray, List.set_cons_zero, List.set_cons_succ])
        refine wpAnyJ_ready (rs := [1]) (by kernel_rfl) (by simp) ?_
        refine AllReadyJ.cons rfl (fun KK hKK => ?_) AllReadyJ.nil
        go_simp
        go_at_call 38
        refine (HLF.out _ HSB.out).mono ?_
        rintro e u1 ⟨rfl, rfl⟩
        refine hKK.out _ _ (fun _ h => h) ?_
        clear hKK KK
        (try simp only [Act.put, List.getElem_toArray, List.getElem_cons_zero, List.getElem_cons_succ, List.setIfInBounds_toArray, List.set_cons_zero, List.set_cons_succ])
        refine wpAnyJ_take0 (i := 2) (v := ?_) rfl (by kernel_rfl) (by kernel_rfl) (by kernel_rfl) (fun _ _ _ h => h) (Or.inl ⟨by rfl, ?_⟩) ?_
        rotate_left
        focus ((intro w hSw; clear hSw; go_simp); try with_reducible rfl)
        (try simp only [Act.put, List.getElem_toArray, List.getElem_cons_zero, List.getElem_cons_succ, List.setIfInBounds_toArray, List.set_cons_zero, List.set_cons_succ])
        refine wpAnyJ_take0 (i := 3) (v := ?_) rfl (by kernel_rfl) (by kernel_rfl) (by kernel_rfl) (fun _ _ _ h => h) (Or.inl ⟨by rfl, ?_⟩) ?_
        rotate_left
        focus ((intro w hSw; clear hSw; go_simp); try with_reducible rfl)
        (try simp only [Act.put, List.getElem_toArray, List.getElem_cons_zero, List.getElem_cons_succ, List.setIfInBounds_toArray, List.set_cons_zero, List.set_cons_succ])
        refine wpAnyJ_take0 (i := 4) (v := ?_) rfl (by kernel_rfl) (by kernel_rfl) (by kernel_rfl) (fun _ _ _ h => h) (Or.inl ⟨by rfl, ?_⟩) ?_
        rotate_left
        focus ((intro w hSw; clear hSw; go_simp); try with_reducible rfl)
        (try simp only [Act.put, List.getElem_toArray, List.getElem_cons_zero, List.getElem_cons_succ, List.setIfInBounds_toArray, List.set_cons_zero, List.set_cons_succ])
        refine wpAnyJ_take0 (i := 5) (v := ?_) rfl (by kernel_rfl) (by kernel_rfl) (by kernel_rfl) (fun _ _ _ h => h) (Or.inl ⟨by rfl, ?_⟩) ?_
        rotate_left
        focus ((intro w hSw; clear hSw; go_simp); try with_reducible rfl)
        (try simp only [Act.put, List.getElem_toArray, List.getElem_cons_zero, List.getElem_cons_succ, List.setIfInBounds_toArray, List.set_cons_zero, List.set_cons_succ])
        refine wpAnyJ_take (i := 6) (v := ?_) rfl (by kernel_rfl) (by kernel_rfl) (by kernel_rfl) (by kernel_rfl) (fun _ _ _ h => h) (Or.inl ⟨by rfl, ?_⟩) (by assumption) ?_
        rotate_left
        focus ((intro w hSw; (try dsimp only at hSw); go_simp); try with_reducible rfl)
        (try simp only [Act.put, List.getElem_toArray, List.getElem_cons_zero, List.getElem_cons_succ, List.setIfInBounds_toArray, List.set_cons_zero, List.set_cons_succ])
        refine wpAnyJ_take0 (i := 7) (v := ?_) rfl (by kernel_rfl) (by kernel_rfl) (by kernel_rfl) (fun _ _ _ h => h) (Or.inl ⟨by rfl, ?_⟩) ?_
        rotate_left
        focus ((intro w hSw; clear hSw; go_simp); try with_reducible rfl)
        (try simp only [Act.put, List.getElem_toArray, List.getElem_cons_zero, List.getElem_cons_succ, List.setIfInBounds_toArray, List.set_cons_zero, List.set_cons_succ])
        refine wpAnyJ_take0 (i := 8) (v := ?_) rfl (by kernel_rfl) (by kernel_rfl) (by kernel_rfl) (fun _ _ _ h => h) (Or.inl ⟨by rfl, ?_⟩) ?_
        rotate_left
        focus ((intro w hSw; clear hSw; go_simp); try with_reducible rfl)
        (try simp only [Act.put, List.getElem_toArray, List.getElem_cons_zero, List.getElem_cons_succ, List.setIfInBounds_toArray, List.set_cons_zero, List.set_cons_succ])
        refine wpAnyJ_take0 (i := 9) (v := ?_) rfl (by kernel_rfl) (by kernel_rfl) (by kernel_rfl) (fun _ _ _ h => h) (Or.inl ⟨by rfl, ?_⟩) ?_
        rotate_left
        focus ((intro w hSw; clear hSw; go_simp); try with_reducible rfl)
        (try simp only [Act.put, List.getElem_toArray, List.getElem_cons_zero, List.getElem_cons_succ, List.setIfInBounds_toArray, List.set_cons_zero, List.set_cons_succ])
        refine wpAnyJ_take0 (i := 10) (v := ?_) rfl (by kernel_rfl) (by kernel_rfl) (by kernel_rfl) (fun _ _ _ h => h) (Or.inl ⟨by rfl, ?_⟩) ?_
        rotate_left
        focus ((intro w hSw; clear hSw; go_simp); try with_reducible rfl)
        (try simp only [Act.put, List.getElem_toArray, List.getElem_cons_zero, List.getElem_cons_succ, List.setIfInBounds_toArray, List.set_cons_zero, List.set_cons_succ])
        refine wpAnyJ_take (i := 11) (v := ?_) rfl (by kernel_rfl) (by kernel_rfl) (by kernel_rfl) (by kernel_rfl) (fun _ _ _ h => h) (Or.inl ⟨by rfl, ?_⟩) (by assumption) ?_
        rotate_left
        focus ((intro w hSw; (try dsimp only at hSw); go_simp); try with_reducible rfl)
        (try simp only [Act.put, List.getElem_toArray, List.getElem_cons_zero, List.getElem_cons_succ, List.setIfInBounds_toArray, List.set_cons_zero, List.set_cons_succ])
        refine wpAnyJ_take0 (i := 12) (v := ?_) rfl (by kernel_rfl) (by kernel_rfl) (by kernel_rfl) (fun _ _ _ h => h) (Or.inl ⟨by rfl, ?_⟩) ?_
        rotate_left
        focus ((intro w hSw; clear hSw; go_simp); try with_reducible rfl)
        (try simp only [Act.put, List.getElem_toArray, List.getElem_cons_zero, List.getElem_cons_succ, List.setIfInBounds_toArray, List.set_cons_zero, List.set_cons_succ])
        refine wpAnyJ_take0 (i := 13) (v := ?_) rfl (by kernel_rfl) (by kernel_rfl) (by kernel_rfl) (fun _ _ _ h => h) (Or.inl ⟨by rfl, ?_⟩) ?_
        rotate_left
        focus ((intro w hSw; clear hSw; go_simp); try with_reducible rfl)
        (try simp only [Act.put, List.getElem_toArray, List.getElem_cons_zero, List.getElem_cons_succ, List.setIfInBounds_toArray, List.set_cons_zero, List.set_cons_succ])
        refine wpAnyJ_take0 (i := 14) (v := ?_) rfl (by kernel_rfl) (by kernel_rfl) (by kernel_rfl) (fun _ _ _ h => h) (Or.inl ⟨by rfl, ?_⟩) ?_
        rotate_left
        focus ((intro w hSw; clear hSw; go_simp); try with_reducible rfl)
        (try simp only [Act.put, List.getElem_toArray, List.getElem_cons_zero, List.getElem_cons_succ, List.setIfInBounds_toArray, List.set_cons_zero, List.set_cons_succ])
        refine wpAnyJ_take0 (i := 15) (v := ?_) rfl (by kernel_rfl) (by kernel_rfl) (by kernel_rfl) (fun _ _ _ h => h) (Or.inl ⟨by rfl, ?_⟩) ?_
        rotate_left
        focus ((intro w hSw; clear hSw; go_simp); try with_reducible rfl)
        (try simp only [Act.put, List.getElem_toArray, List.getElem_cons_zero, List.getElem_cons_succ, List.setIfInBounds_toArray, List.set_cons_zero, List.set_cons_succ])
        refine wpAnyJ_take0 (i := 16) (v := undef) rfl (by kernel_rfl) (by kernel_rfl) (by kernel_rfl) (fun _ _ _ h => h) (Or.inr ⟨by rfl, rfl⟩) ?_
        (try simp only [Act.put, List.getElem_toArray, List.getElem_cons_zero, List.getElem_cons_succ, List.setIfInBounds_toArray, List.set_cons_zero, List.set_cons_succ])
        refine wpAnyJ_take0 (i := 17) (v := undef) rfl (by kernel_rfl) (by kernel_rfl) (by kernel_rfl) (fun _ _ _ h => h) (Or.inr ⟨by rfl, rfl⟩) ?_
        (try simp only [Act.put, List.getElem_toArray, List.getElem_cons_zero, List.getElem_cons_succ, List.setIfInBounds_toArray, List.set_cons_zero, List.set_cons_succ])
        refine wpAnyJ_take0 (i := 18) (v := undef) rfl (by kernel_rfl) (by kernel_rfl) (by kernel_rfl) (fun _ _ _ h => h) (Or.inr ⟨by rfl, rfl⟩) ?_
        (try simp only [Act.put, List.getElem_toArray, List.getElem_cons_zero, List.getElem_cons_succ, List.setIfInBounds_toArray, List.set_cons_zero, List.set_cons_succ])
        refine wpAnyJ_take0 (i := 19) (v := undef) rfl (by kernel_rfl) (by kernel_rfl) (by kernel_rfl) (fun _ _ _ h => h) (Or.inr ⟨by rfl, rfl⟩) ?_
        (try simp only [Act.put, List.getElem_toArray, List.getElem_cons_zero, List.getElem_cons_succ, List.setIfInBounds_toArray, List.set_cons_zero, List.set_cons_succ])
        refine wpAnyJ_take0 (i := 20) (v := undef) rfl (by kernel_rfl) (by kernel_rfl) (by kernel_rfl) (fun _ _ _ h => h) (Or.inr ⟨by rfl, rfl⟩) ?_
        (try simp only [Act.put, List.getElem_toArray, List.getElem_cons_zero, List.getElem_cons_succ, List.setIfInBounds_toArray, List.set_cons_zero, List.set_cons_succ])
        refine wpAnyJ_take0 (i := 21) (v := undef) rfl (by kernel_rfl) (by kernel_rfl) (by kernel_rfl) (fun _ _ _ h => h) (Or.inr ⟨by rfl, rfl⟩) ?_
        (try simp only [Act.put, List.getElem_toArray, List.getElem_cons_zero, List.getElem_cons_succ, List.setIfInBounds_toArray, List.set_cons_zero, List.set_cons_succ])
        refine wpAnyJ_take0 (i := 22) (v := undef) rfl (by kernel_rfl) (by kernel_rfl) (by kernel_rfl) (fun _ _ _ h => h) (Or.inr ⟨by rfl, rfl⟩) ?_
        (try simp only [Act.put, List.getElem_toArray, List.getElem_cons_zero, List.getElem_cons_succ, List.setIfInBounds_toArray, List.set_cons_zero, List.set_cons_succ])
        refine wpAnyJ_take0 (i := 23) (v := undef) rfl (by kernel_rfl) (by kernel_rfl) (by kernel_rfl) (fun _ _ _ h => h) (Or.inr ⟨by rfl, rfl⟩) ?_
        (try simp only [Act.put, List.getElem_toArray, List.getElem_cons_zero, List.getElem_cons_succ, List.setIfInBounds_toArray, List.set_cons_zero, List.set_cons_succ])
        refine wpAnyJ_take0 (i := 24) (v := undef) rfl (by kernel_rfl) (by kernel_rfl) (by kernel_rfl) (fun _ _ _ h => h) (Or.inr ⟨by rfl, rfl⟩) ?_
        (try simp only [Act.put, List.getElem_toArray, List.getElem_cons_zero, List.getElem_cons_succ, List.setIfInBounds_toArray, List.set_cons_zero, List.set_cons_succ])
        refine wpAnyJ_take0 (i := 25) (v := undef) rfl (by kernel_rfl) (by kernel_rfl) (by kernel_rfl) (fun _ _ _ h => h) (Or.inr ⟨by rfl, rfl⟩) ?_
        (try simp only [Act.put, List.getElem_toArray, List.getElem_cons_zero, List.getElem_cons_succ, List.setIfInBounds_toArray, List.set_cons_zero, List.set_cons_succ])
        refine wpAnyJ_take0 (i := 26) (v := undef) rfl (by kernel_rfl) (by kernel_rfl) (by kernel_rfl) (fun _ _ _ h => h) (Or.inr ⟨by rfl, rfl⟩) ?_
        (try simp only [Act.put, List.getElem_toArray, List.getElem_cons_zero, List.getElem_cons_succ, List.setIfInBounds_toArray, List.set_cons_zero, List.set_cons_succ])
        refine wpAnyJ_take0 (i := 27) (v := undef) rfl (by kernel_rfl) (by kernel_rfl) (by kernel_rfl) (fun _ _ _ h => h) (Or.inr ⟨by rfl, rfl⟩) ?_
        (try simp only [Act.put, List.getElem_toArray, List.getElem_cons_zero, List.getElem_cons_succ, List.setIfInBounds_toArray, List.set_cons_zero, List.set_cons_succ])
        refine wpAnyJ_take0 (i := 28) (v := ?_) rfl (by kernel_rfl) (by kernel_rfl) (by kernel_rfl) (fun _ _ _ h => h) (Or.inl ⟨by rfl, ?_⟩) ?_
        rotate_left
        focus ((intro w hSw; clear hSw; go_simp); try with_reducible rfl)
        (try simp only [Act.put, List.getElem_toArray, List.getElem_cons_zero, List.getElem_cons_succ, List.setIfInBounds_toArray, List.set_cons_zero, List.set_cons_succ])
        refine wpAnyJ_take0 (i := 29) (v := ?_) rfl (by kernel_rfl) (by kernel_rfl) (by kernel_rfl) (fun _ _ _ h => h) (Or.inl ⟨by rfl, ?_⟩) ?_
        rotate_left
        focus ((intro w hSw; clear hSw; go_simp); try with_reducible rfl)
        (try simp only [Act.put, List.getElem_toArray, List.getElem_cons_zero, List.getElem_cons_succ, List.setIfInBounds_toArray, List.set_cons_zero, List.set_cons_succ])
        refine wpAnyJ_done (by kernel_rfl) ?_ _
        refine NoPanic.normal ?_
        go_wp2_with fail
        exact HQ.out _ HSB.out
end Go.Proofs.Ytjoopjmcnkiieaa

/- right: a fork that is the root. Conditions: the tree is there and as it must be. -/
namespace Go.Proofs.Ytjoopjmcnkiieaa
open Go.RowKit Go.Lib
set_option linter.unusedSimpArgs false
set_option linter.unusedVariables false

set_option maxRecDepth 100000 in
set_option maxHeartbeats 32000000 in
theorem right_fork_t {o tb d a b : Nat} {lo hi : Option ByteArray} {w : World} {t : Tr} (ho3 : 3 ≤ o) (ho2 : o ≤ 64) (hm : mem (d + 1) w t) (h1 : ∀ k, fp (d + 1) t k ≤ 1) (hv : inv o (d + 1) a b lo hi t) (hb : b ≤ o) (hd : d ≤ 1000000) (ho : w.cell? ⟨tb, 0, none⟩ = some (.int .i64 o))
    (hrec : ∀ (lo hi : Option ByteArray) (c : Tr) (u : World), mem d u c → (∀ k, fp d c k ≤ 1) → inv o d (lst o d) o lo hi c → Same4 w u → Calls Try.prog 37 #[.pointer (some ⟨tb, 0, none⟩), .pointer (some ⟨c.p, 0, none⟩), .string (bs lo), .string (bs hi), .int .i64 ((d : Int) + 1), .bool false] u (RightP u)) :
    Calls Try.prog 37 #[.pointer (some ⟨tb, 0, none⟩), .pointer (some ⟨t.p, 0, none⟩), .string (bs lo), .string (bs hi), .int .i64 ((d : Int) + 2), .bool true] w (RightP w) := by
  obtain ⟨Q, hQ⟩ : ∃ Q, RightP w = Q := ⟨_, rfl⟩
  have HQ : Hid (∀ u, Same4 w u → Q (.returned (.bool true)) u) := Lib.hid (fun u hb => by rw [← hQ]; exact ⟨rfl, hb⟩)
  rw [hQ]
  have HLS := Lib.hid (least_tree (tb := tb) ho2 hm h1 hv ho)
  have hso := inv_sorted hv
  have hle := inv_len hv
  have HK := Lib.hid (inv_keys hv)
  have HM := Lib.hid hm
  have HV := Lib.hid hv
  have HF1 := Lib.hid h1
  have hn := hm.1
  have hlen := hv.1.len
  have HLF : Hid (∀ W, Same4 w W → Calls Try.prog 38 #[.pointer (some ⟨t.p, 0, none⟩)] W fun e w' => e = .returned (.bool false) ∧ W = w') := Lib.hid (fun W hs => by
    have := leaf_any (hn.same hs)
    rw [show (t.cs.map Tr.p).isEmpty = false from by cases hc : t.cs with | nil => rw [hc] at hlen; simp at hlen | cons _ _ => rfl] at this
    exact this)
  obtain ⟨p, hp⟩ : ∃ p, t.p = p := ⟨_, rfl⟩
  rw [hp] at hn HLS HLF ⊢
  obtain ⟨a1, c1, a2, c2, a3, c3, e1, e2, e3, l1, l2, l3, m1, m2, m3⟩ := hn.forms
  rw [e1, e2, e3] at hn
  obtain ⟨_, _, e4, hrow⟩ := hn.str
  injection e4 with e4 e5 e6
  subst e4
  have d0 := hn.cells.1
  have d1 := hn.cells.2.1
  have d2 := hn.cells.2.2.1
  have HN := Lib.hid hn
  obtain ⟨n, hnn⟩ : ∃ n, t.ks.length = n := ⟨_, rfl⟩
  have HNN := Lib.hid hnn
  obtain ⟨m, hmm⟩ : ∃ m, (t.cs.map Tr.p).length = m := ⟨_, rfl⟩
  have HMM := Lib.hid hmm
  rw [hmm] at d2
  simp only [List.length_nil] at d1
  have hmn : m = n + 1 := by rw [← hmm, List.length_map, ← hnn]; exact hlen
  have HIS : Hid (∀ W, Same4 w W → Calls Try.prog 49 #[.slice a1 n c1] W fun e w' => e = .returned (.bool true) ∧ Same4 W w') := Lib.hid (fun W hs => by have := sorted_any (c := c1) (hrow.same hs) hso (by omega); rw [hnn] at this; exact this)
  have hno : n ≤ o := by omega
  have hno1 : (n : Int) ≤ o := by omega
  have hno2 : ¬ (o : Int) < n := by omega
  have hno3 : ¬ o < n := by omega
  have hn6 : n ≤ 1000 := by omega
  have hdw : IntKind.i64.wrap ((d : Int) + 2 - 1) = (d : Int) + 1 := by rw [IntWalk.i64_in _ (by omega)]; omega
  have hdw2 : ((d : Int) + 2 - 1) = (d : Int) + 1 := by omega
  have hd1 : (((d : Int) + 2) == 1) = false := by simp; omega
  have HREC := Lib.hid hrec
  have hnm1 : IntKind.i64.wrap ((n : Int) + 1) = (n : Int) + 1 := IntWalk.i64_in _ (by omega)
  have hm6 : m ≤ 1001 := by omega
  have hmn' : ((m : Int) == (n : Int) + 1) = true := by simp; omega
  have HMN := Lib.hid hmn
  rw [hnn] at d0
  have HD0 := Lib.hid d0
  have HD1 := Lib.hid d1
  have HD2 := Lib.hid d2
  have HO := Lib.hid ho
  obtain ⟨fs, hfs⟩ : ∃ x, bs lo = x := ⟨_, rfl⟩
  obtain ⟨ts, hts⟩ : ∃ x, bs hi = x := ⟨_, rfl⟩
  have HFS : Hid (bs lo = fs ∧ bs hi = ts) := Lib.hid ⟨hfs, hts⟩
  rw [hfs, hts]
  clear hQ hm h1 hv hb hso hle hp e1 e2 e3 e5 e6 hrow hnn l1 l2 l3 m1 m2 m3 hn ho d0 d1 d2 hfs hts hlen hmm hmn hrec
  go_enter Try.func37, Try.ntmps37
  go_wp2_with fail
  refine wp_region_noPanic ?_
  refine wp_region_J (S := fun u : World => u.cell? ⟨p, 0, none⟩ = some (.slice a1 n c1) ∧ u.cell? ⟨tb, 0, none⟩ = some (.int .i64 o)) (fun _ => false) (by kernel_rfl) ?_
  have hHeld : (fun u : World => u.cell? ⟨p, 0, none⟩ = some (.slice a1 n c1) ∧ u.cell? ⟨tb, 0, none⟩ = some (.int .i64 o)) w.drew := ⟨HD0.out, HO.out⟩
  have HSA : Hid (Same4 w w.drew) := Lib.hid (Same4.refl w).drew'
  refine wpAnyJ_take0 (i := 0) (v := ?_) rfl (by kernel_rfl) (by kernel_rfl) (by kernel_rfl) (fun _ _ _ h => h) (Or.inl ⟨by rfl, ?_⟩) ?_
  rotate_left
  focus ((intro w hSw; clear hSw; go_simp); try with_reducible rfl)
  (try simp only [Act.put, List.getElem_toArray, List.getElem_cons_zero, List.getElem_cons_succ, List.setIfInBounds_toArray, List.set_cons_zero, List.set_cons_succ])
  refine wpAnyJ_take0 (i := 1) (v := ?_) rfl (by kernel_rfl) (by kernel_rfl) (by kernel_rfl) (fun _ _ _ h => h) (Or.inl ⟨by rfl, ?_⟩) ?_
  rotate_left
  focus ((intro w hSw; clear hSw; go_simp); try with_reducible rfl)
  (try simp only [Act.put, List.getElem_toArray, List.getElem_cons_zero, List.getElem_cons_succ, List.setIfInBounds_toArray, List.set_cons_zero, List.set_cons_succ])
  refine wpAnyJ_take0 (i := 2) (v := ?_) rfl (by kernel_rfl) (by kernel_rfl) (by kernel_rfl) (fun _ _ _ h => h) (Or.inl ⟨by rfl, ?_⟩) ?_
  rotate_left
  focus ((intro w hSw; clear hSw; go_simp); try with_reducible rfl)
  (try simp only [Act.put, List.getElem_toArray, List.getElem_cons_zero, List.getElem_cons_succ, List.setIfInBounds_toArray, List.set_cons_zero, List.set_cons_succ])
  refine wpAnyJ_take (i := 3) (v := ?_) rfl (by kernel_rfl) (by kernel_rfl) (by kernel_rfl) (by kernel_rfl) (fun _ _ _ h => h) (Or.inl ⟨by rfl, ?_⟩) (by assumption) ?_
  rotate_left
  focus ((intro w hSw; (try dsimp only at hSw); go_simp); try with_reducible rfl)
  (try simp only [Act.put, List.getElem_toArray, List.getElem_cons_zero, List.getElem_cons_succ, List.setIfInBounds_toArray, List.set_cons_zero, List.set_cons_succ])
  refine wpAnyJ_take0 (i := 4) (v := ?_) rfl (by kernel_rfl) (by kernel_rfl) (by kernel_rfl) (fun _ _ _ h => h) (Or.inl ⟨by rfl, ?_⟩) ?_
  rotate_left
  focus ((intro w hSw; clear hSw; go_simp); try with_reducible rfl)
  (try simp only [Act.put, List.getElem_toArray, List.getElem_cons_zero, List.getElem_cons_succ, List.setIfInBounds_toArray, List.set_cons_zero, List.set_cons_succ])
  refine wpAnyJ_take0 (i := 5) (v := ?_) rfl (by kernel_rfl) (by kernel_rfl) (by kernel_rfl) (fun _ _ _ h => h) (Or.inl ⟨by rfl, ?_⟩) ?_
  rotate_left
  focus ((intro w hSw; clear hSw; go_simp); try with_reducible rfl)
  (try simp only [Act.put, List.getElem_toArray, List.getElem_cons_zero, List.getElem_cons_succ, List.setIfInBounds_toArray, List.set_cons_zero, List.set_cons_succ])
  refine wpAnyJ_take0 (i := 6) (v := ?_) rfl (by kernel_rfl) (by kernel_rfl) (by kernel_rfl) (fun _ _ _ h => h) (Or.inl ⟨by rfl, ?_⟩) ?_
  rotate_left
  focus ((intro w hSw; clear hSw; go_simp); try with_reducible rfl)
  (try simp only [Act.put, List.getElem_toArray, List.getElem_cons_zero, List.getElem_cons_succ, List.setIfInBounds_toArray, List.set_cons_zero, List.set_cons_succ])
  refine wpAnyJ_take0 (i := 7) (v := ?_) rfl (by kernel_rfl) (by kernel_rfl) (by kernel_rfl) (fun _ _ _ h => h) (Or.inl ⟨by rfl, ?_⟩) ?_
  rotate_left
  focus ((intro w hSw; clear hSw; go_simp); try with_reducible rfl)
  (try simp only [Act.put, List.getElem_toArray, List.getElem_cons_zero, List.getElem_cons_succ, List.setIfInBounds_toArray, List.set_cons_zero, List.set_cons_succ])
  refine wpAnyJ_take (i := 8) (v := ?_) rfl (by kernel_rfl) (by kernel_rfl) (by kernel_rfl) (by kernel_rfl) (fun _ _ _ h => h) (Or.inl ⟨by rfl, ?_⟩) (by assumption) ?_
  rotate_left
  focus ((intro w hSw; (try dsimp only at hSw); go_simp); try with_reducible rfl)
  (try simp only [Act.put, List.getElem_toArray, List.getElem_cons_zero, List.getElem_cons_succ, List.setIfInBounds_toArray, List.set_cons_zero, List.set_cons_succ])
  refine wpAnyJ_take0 (i := 9) (v := ?_) rfl (by kernel_rfl) (by kernel_rfl) (by kernel_rfl) (fun _ _ _ h => h) (Or.inl ⟨by rfl, ?_⟩) ?_
  rotate_left
  focus ((intro w hSw; clear hSw; go_simp); try with_reducible rfl)
  (try simp only [Act.put, List.getElem_toArray, List.getElem_cons_zero, List.getElem_cons_succ, List.setIfInBounds_toArray, List.set_cons_zero, List.set_cons_succ])
  refine wpAnyJ_take0 (i := 10) (v := ?_) rfl (by kernel_rfl) (by kernel_rfl) (by kernel_rfl) (fun _ _ _ h => h) (Or.inl ⟨by rfl, ?_⟩) ?_
  rotate_left
  focus ((intro w hSw; clear hSw; go_simp); try with_reducible rfl)
  (try simp only [Act.put, List.getElem_toArray, List.getElem_cons_zero, List.getElem_cons_succ, List.setIfInBounds_toArray, List.set_cons_zero, List.set_cons_succ])
  refine wpAnyJ_take0 (i := 11) (v := ?_) rfl (by kernel_rfl) (by kernel_rfl) (by kernel_rfl) (fun _ _ _ h => h) (Or.inl ⟨by rfl, ?_⟩) ?_
  rotate_left
  focus ((intro w hSw; clear hSw; go_simp); try with_reducible rfl)
  (try simp only [Act.put, List.getElem_toArray, List.getElem_cons_zero, List.getElem_cons_succ, List.setIfInBounds_toArray, List.set_cons_zero, List.set_cons_succ])
  refine wpAnyJ_take0 (i := 12) (v := ?_) rfl (by kernel_rfl) (by kernel_rfl) (by kernel_rfl) (fun _ _ _ h => h) (Or.inl ⟨by rfl, ?_⟩) ?_
  rotate_left
  focus ((intro w hSw; clear hSw; go_simp); try with_reducible rfl)
  (try simp only [Act.put, List.getElem_toArray, List.getElem_cons_zero, List.getElem_cons_succ, List.setIfInBounds_toArray, List.set_cons_zero, List.set_cons_succ])
  refine wpAnyJ_take0 (i := 13) (v := ?_) rfl (by kernel_rfl) (by kernel_rfl) (by kernel_rfl) (fun _ _ _ h => h) (Or.inl ⟨by rfl, ?_⟩) ?_
  rotate_left
  focus ((intro w hSw; clear hSw; go_simp); try with_reducible rfl)
  (try simp only [Act.put, List.getElem_toArray, List.getElem_cons_zero, List.getElem_cons_succ, List.setIfInBounds_toArray, List.set_cons_zero, List.set_cons_succ])
  refine wpAnyJ_take0 (i := 14) (v := undef) rfl (by kernel_rfl) (by kernel_rfl) (by kernel_rfl) (fun _ _ _ h => h) (Or.inr ⟨by rfl, rfl⟩) ?_
  (try simp only [Act.put, List.getElem_toArray, List.getElem_cons_zero, List.getElem_cons_succ, List.setIfInBounds_toArray, List.set_cons_zero, List.set_cons_succ])
  refine wpAnyJ_take0 (i := 15) (v := undef) rfl (by kernel_rfl) (by kernel_rfl) (by kernel_rfl) (fun _ _ _ h => h) (Or.inr ⟨by rfl, rfl⟩) ?_
  (try simp only [Act.put, List.getElem_toArray, List.getElem_cons_zero, List.getElem_cons_succ, List.setIfInBounds_toArray, List.set_cons_zero, List.set_cons_succ])
  refine wpAnyJ_take0 (i := 16) (v := undef) rfl (by kernel_rfl) (by kernel_rfl) (by kernel_rfl) (fun _ _ _ h => h) (Or.inr ⟨by rfl, rfl⟩) ?_
  (try simp only [Act.put, List.getElem_toArray, List.getElem_cons_zero, List.getElem_cons_succ, List.setIfInBounds_toArray, List.set_cons_zero, List.set_cons_succ])
  refine wpAnyJ_take0 (i := 17) (v := undef) rfl (by kernel_rfl) (by kernel_rfl) (by kernel_rfl) (fun _ _ _ h => h) (Or.inr ⟨by rfl, rfl⟩) ?_
  (try simp only [Act.put, List.getElem_toArray, List.getElem_cons_zero, List.getElem_cons_succ, List.setIfInBounds_toArray, List.set_cons_zero, List.set_cons_succ])
  refine wpAnyJ_take0 (i := 18) (v := undef) rfl (by kernel_rfl) (by kernel_rfl) (by kernel_rfl) (fun _ _ _ h => h) (Or.inr ⟨by rfl, rfl⟩) ?_
  (try simp only [Act.put, List.getElem_toArray, List.getElem_cons_zero, List.getElem_cons_succ, List.setIfInBounds_toArray, List.set_cons_zero, List.set_cons_succ])
  refine wpAnyJ_take0 (i := 19) (v := undef) rfl (by kernel_rfl) (by kernel_rfl) (by kernel_rfl) (fun _ _ _ h => h) (Or.inr ⟨by rfl, rfl⟩) ?_
  (try simp only [Act.put, List.getElem_toArray, List.getElem_cons_zero, List.getElem_cons_succ, List.setIfInBounds_toArray, List.set_cons_zero, List.set_cons_succ])
  refine wpAnyJ_take0 (i := 20) (v := undef) rfl (by kernel_rfl) (by kernel_rfl) (by kernel_rfl) (fun _ _ _ h => h) (Or.inr ⟨by rfl, rfl⟩) ?_
  (try simp only [Act.put, List.getElem_toArray, List.getElem_cons_zero, List.getElem_cons_succ, List.setIfInBounds_toArray, List.set_cons_zero, List.set_cons_succ])
  refine wpAnyJ_take0 (i := 21) (v := undef) rfl (by kernel_rfl) (by kernel_rfl) (by kernel_rfl) (fun _ _ _ h => h) (Or.inr ⟨by rfl, rfl⟩) ?_
  (try simp only [Act.put, List.getElem_toArray, List.getElem_cons_zero, List.getElem_cons_succ, List.setIfInBounds_toArray, List.set_cons_zero, List.set_cons_succ])
  refine wpAnyJ_take0 (i := 22) (v := undef) rfl (by kernel_rfl) (by kernel_rfl) (by kernel_rfl) (fun _ _ _ h => h) (Or.inr ⟨by rfl, rfl⟩) ?_
  (try simp only [Act.put, List.getElem_toArray, List.getElem_cons_zero, List.getElem_cons_succ, List.setIfInBounds_toArray, List.set_cons_zero, List.set_cons_succ])
  refine wpAnyJ_take0 (i := 23) (v := ?_) rfl (by kernel_rfl) (by kernel_rfl) (by kernel_rfl) (fun _ _ _ h => h) (Or.inl ⟨by rfl, ?_⟩) ?_
  rotate_left
  focus ((intro w hSw; clear hSw; go_simp); try with_reducible rfl)
  (try simp only [Act.put, List.getElem_toArray, List.getElem_cons_zero, List.getElem_cons_succ, List.setIfInBounds_toArray, List.set_cons_zero, List.set_cons_succ])
  refine wpAnyJ_take0 (i := 24) (v := ?_) rfl (by kernel_rfl) (by kernel_rfl) (by kernel_rfl) (fun _ _ _ h => h) (Or.inl ⟨by rfl, ?_⟩) ?_
  rotate_left
  focus ((intro w hSw; clear hSw; go_simp); try with_reducible rfl)
  (try simp only [Act.put, List.getElem_toArray, List.getElem_cons_zero, List.getElem_cons_succ, List.setIfInBounds_toArray, List.set_cons_zero, List.set_cons_succ])
  refine wpAnyJ_take0 (i := 25) (v := ?_) rfl (by kernel_rfl) (by kernel_rfl) (by kernel_rfl) (fun _ _ _ h => h) (Or.inl ⟨by rfl, ?_⟩) ?_
  rotate_left
  focus ((intro w hSw; clear hSw; go_simp); try with_reducible rfl)
  (try simp only [Act.put, List.getElem_toArray, List.getElem_cons_zero, List.getElem_cons_succ, List.setIfInBounds_toArray, List.set_cons_zero, List.set_cons_succ])
  refine wpAnyJ_take0 (i := 26) (v := ?_) rfl (by kernel_rfl) (by kernel_rfl) (by kernel_rfl) (fun _ _ _ h => h) (Or.inl ⟨by rfl, ?_⟩) ?_
  rotate_left
  focus ((intro w hSw; clear hSw; go_simp); try with_reducible rfl)
  (try simp only [Act.put, List.getElem_toArray, List.getElem_cons_zero, List.getElem_cons_succ, List.setIfInBounds_toArray, List.set_cons_zero, List.set_cons_succ])
  refine wpAnyJ_take0 (i := 28) (v := ?_) rfl (by kernel_rfl) (by kernel_rfl) (by kernel_rfl) (fun _ _ _ h => h) (Or.inl ⟨by rfl, ?_⟩) ?_
  rotate_left
  focus ((intro w hSw; clear hSw; go_simp); try with_reducible rfl)
  (try simp only [Act.put, List.getElem_toArray, List.getElem_cons_zero, List.getElem_cons_succ, List.setIfInBounds_toArray, List.set_cons_zero, List.set_cons_succ])
  refine wpAnyJ_take0 (i := 29) (v := ?_) rfl (by kernel_rfl) (by kernel_rfl) (by kernel_rfl) (fun _ _ _ h => h) (Or.inl ⟨by rfl, ?_⟩) ?_
  rotate_left
  focus ((intro w hSw; clear hSw; go_simp); try with_reducible rfl)
  (try simp only [Act.put, List.getElem_toArray, List.getElem_cons_zero, List.getElem_cons_succ, List.setIfInBounds_toArray, List.set_cons_zero, List.set_cons_succ])
  refine wpAnyJ_ready (rs := [27]) (by kernel_rfl) (by simp) ?_
  refine AllReadyJ.cons rfl (fun KK hKK => ?_) AllReadyJ.nil
  go_simp
  go_at_call 38
  refine (HLF.out _ HSA.out).mono ?_
  rintro e u1 ⟨rfl, rfl⟩
  refine hKK.out _ _ (fun _ h => h) ?_
  clear hKK KK
  (try simp only [Act.put, List.getElem_toArray, List.getElem_cons_zero, List.getElem_cons_succ, List.setIfInBounds_toArray, List.set_cons_zero, List.set_cons_succ])
  refine wpAnyJ_take0 (i := 30) (v := ?_) rfl (by kernel_rfl) (by kernel_rfl) (by kernel_rfl) (fun _ _ _ h => h) (Or.inl ⟨by rfl, ?_⟩) ?_
  rotate_left
  focus ((intro w hSw; clear hSw; go_simp); try with_reducible rfl)
  (try simp only [Act.put, List.getElem_toArray, List.getElem_cons_zero, List.getElem_cons_succ, List.setIfInBounds_toArray, List.set_cons_zero, List.set_cons_succ])
  refine wpAnyJ_take0 (i := 31) (v := ?_) rfl (by kernel_rfl) (by kernel_rfl) (by kernel_rfl) (fun _ _ _ h => h) (Or.inl ⟨by rfl, ?_⟩) ?_
  rotate_left
  focus ((intro w hSw; clear hSw; go_simp); try with_reducible rfl)
  (try simp only [Act.put, List.getElem_toArray, List.getElem_cons_zero, List.getElem_cons_succ, List.setIfInBounds_toArray, List.set_cons_zero, List.set_cons_succ])
  refine wpAnyJ_take0 (i := 32) (v := ?_) rfl (by kernel_rfl) (by kernel_rfl) (by kernel_rfl) (fun _ _ _ h => h) (Or.inl ⟨by rfl, ?_⟩) ?_
  rotate_left
  focus ((intro w hSw; clear hSw; go_simp); try with_reducible rfl)
  (try simp only [Act.put, List.getElem_toArray, List.getElem_cons_zero, List.getElem_cons_succ, List.setIfInBounds_toArray, List.set_cons_zero, List.set_cons_succ])
  refine wpAnyJ_take0 (i := 33) (v := ?_) rfl (by kernel_rfl) (by kernel_rfl) (by kernel_rfl) (fun _ _ _ h => h) (Or.inl ⟨by rfl, ?_⟩) ?_
  rotate_left
  focus ((intro w hSw; clear hSw; go_simp); try with_reducible rfl)
  (try simp only [Act.put, List.getElem_toArray, List.getElem_cons_zero, List.getElem_cons_succ, List.setIfInBounds_toArray, List.set_cons_zero, List.set_cons_succ])
  refine wpAnyJ_take0 (i := 34) (v := ?_) rfl (by kernel_rfl) (by kernel_rfl) (by kernel_rfl) (fun _ _ _ h => h) (Or.inl ⟨by rfl, ?_⟩) ?_
  rotate_left
  focus ((intro w hSw; clear hSw; go_simp); try with_reducible rfl)
  (try simp only [Act.put, List.getElem_toArray, List.getElem_cons_zero, List.getElem_cons_succ, List.setIfInBounds_toArray, List.set_cons_zero, List.set_cons_succ])
  refine wpAnyJ_take0 (i := 35) (v := ?_) rfl (by kernel_rfl) (by kernel_rfl) (by kernel_rfl) (fun _ _ _ h => h) (Or.inl ⟨by rfl, ?_⟩) ?_
  rotate_left
  focus ((intro w hSw; clear hSw; go_simp); try with_reducible rfl)
  (try simp only [Act.put, List.getElem_toArray, List.getElem_cons_zero, List.getElem_cons_succ, List.setIfInBounds_toArray, List.set_cons_zero, List.set_cons_succ])
  refine wpAnyJ_take (i := 36) (v := ?_) rfl (by kernel_rfl) (by kernel_rfl) (by kernel_rfl) (by kernel_rfl) (fun _ _ _ h => h) (Or.inl ⟨by rfl, ?_⟩) (by assumption) ?_
  rotate_left
  focus ((intro w hSw; (try dsimp only at hSw); go_simp); try with_reducible rfl)
  (try simp only [Act.put, List.getElem_toArray, List.getElem_cons_zero, List.getElem_cons_succ, List.setIfInBounds_toArray, List.set_cons_zero, List.set_cons_succ])
  refine wpAnyJ_ready (rs := [37]) (by kernel_rfl) (by simp) ?_
  refine AllReadyJ.cons rfl (fun KK hKK => ?_) AllReadyJ.nil
  go_simp
  go_at_call 49
  refine (HIS.out _ HSA.out).mono ?_
  rintro e u1 ⟨rfl, hs9⟩
  have HS1 := Lib.hid (HSA.out.trans hs9)
  have hHeld2 : (fun u : World => u.cell? ⟨p, 0, none⟩ = some (.slice a1 n c1) ∧ u.cell? ⟨tb, 0, none⟩ = some (.int .i64 o)) u1 := ⟨by rw [← HS1.out.cell]; exact HD0.out, by rw [← HS1.out.cell]; exact HO.out⟩
  refine hKK.out _ _ (fun _ _ => hHeld2) ?_
  clear hKK KK hHeld hs9
  have hHeld := hHeld2
  clear hHeld2
  (try simp only [Act.put, List.getElem_toArray, List.getElem_cons_zero, List.getElem_cons_succ, List.setIfInBounds_toArray, List.set_cons_zero, List.set_cons_succ])
  refine wpAnyJ_take0 (i := 38) (v := ?_) rfl (by kernel_rfl) (by kernel_rfl) (by kernel_rfl) (fun _ _ _ h => h) (Or.inl ⟨by rfl, ?_⟩) ?_
  rotate_left
  focus ((intro w hSw; clear hSw; go_simp); try with_reducible rfl)
  (try simp only [Act.put, List.getElem_toArray, List.getElem_cons_zero, List.getElem_cons_succ, List.setIfInBounds_toArray, List.set_cons_zero, List.set_cons_succ])
  refine wpAnyJ_take0 (i := 39) (v := ?_) rfl (by kernel_rfl) (by kernel_rfl) (by kernel_rfl) (fun _ _ _ h => h) (Or.inl ⟨by rfl, ?_⟩) ?_
  rotate_left
  focus ((intro w hSw; clear hSw; go_simp); try with_reducible rfl)
  (try simp only [Act.put, List.getElem_toArray, List.getElem_cons_zero, List.getElem_cons_succ, List.setIfInBounds_toArray, List.set_cons_zero, List.set_cons_succ])
  refine wpAnyJ_done (by kernel_rfl) ?_ _
  refine NoPanic.normal ?_
  go_wp2_with fail
  go_loopw [64] (fun iv wr => ∃ j : Nat, iv = .int .i64 j ∧ j ≤ n ∧ Hid (Same4 w wr)) (fun iv _ => n - (intOf iv).toNat)
  case atStart => exact ⟨0, rfl, Nat.zero_le _, Lib.hid HS1.out⟩
  case round =>
    (try clear HS1 hHeld)
    obtain ⟨j, rfl, hj, HSW⟩ := hrel
    have hj0 : (0 : Int) ≤ j := by omega
    by_cases hjn : j < n
    · have hjn' : (j : Int) < n := by omega
      obtain ⟨k, hk⟩ : ∃ k, t.ks[j]? = some k := get_some (by have := HNN.out; omega)
      obtain ⟨g1, rfl, kc, _⟩ := HN.out.key hk
      rw [HSW.out.cell] at kc
      have HWI := Lib.hid (within_any k fs ts wr)
      have hwi := inR_within (HK.out k (List.mem_of_getElem? hk))
      rw [HFS.out.1, HFS.out.2] at hwi
      rw [hwi] at HWI
      have hj1 : IntKind.i64.wrap ((j : Int) + 1) = (j : Int) + 1 := IntWalk.i64_in _ (by omega)
      clear hk hwi
      go_wp2_with (go_at_call 36; refine HWI.out.mono ?_; clear HWI; rintro e w' ⟨rfl, rfl⟩)
      go_roundw
      case rel => exact ⟨j + 1, by go_num, by omega, HSW⟩
      case measure => simp [intOf]; omega
    · have hjn' : ¬ (j : Int) < n := by omega
      have d2 : wr.cell? ⟨p, 2, none⟩ = some (.slice a3 m c3) := by rw [← HSW.out.cell]; exact HD2.out
      clear hj
      go_wp2_with fail
      go_loopw [79] (fun iv wr => ∃ i : Nat, iv = .int .i64 i ∧ i ≤ m ∧ Hid (Same4 w wr)) (fun iv _ => m - (intOf iv).toNat)
      case atStart => exact ⟨0, rfl, Nat.zero_le _, HSW⟩
      case round =>
        clear HSW d2 hjn hjn' hj0
        obtain ⟨i, rfl, hile, HSW⟩ := hrel
        have hi0 : (0 : Int) ≤ i := by omega
        by_cases him : i < m
        · have him' : (i : Int) < m := by omega
          obtain ⟨L, c, R, lo', hi', hL, hF⟩ := HV.out.1.focus i (by have := HMN.out; have := HNN.out; omega)
          have hcm : c ∈ t.cs := by rw [hF.cs]; simp
          have hki : (t.cs.map Tr.p)[i]? = some c.p := by rw [← hL, List.getElem?_map, hF.kid]; rfl
          obtain ⟨g3, rfl, ki, _⟩ := HN.out.kid hki
          rw [HSW.out.cell] at ki
          have d0 : wr.cell? ⟨p, 0, none⟩ = some (.slice a1 n c1) := by rw [← HSW.out.cell]; exact HD0.out
          have HCALL := Lib.hid (HREC.out lo' hi' c wr (mem_heap (HM.out.2.2 c hcm) HSW.out.1.symm) (fun k => by have h2 := HF1.out k; have h3 := fpL_mem (f := fp d) hcm k; simp only [fp] at h2; omega) hF.c HSW.out)
          have hj1 : IntKind.i64.wrap ((i : Int) + 1) = (i : Int) + 1 := IntWalk.i64_in _ (by omega)
          have HLO0 : Hid (i = 0 → lo' = lo) := Lib.hid (fun h => hF.lo0 (by omega))
          have HLO1 : Hid (∀ q, i = q + 1 → ∃ k, t.ks[q]? = some k ∧ lo' = some k) := Lib.hid (fun q h => hF.lo1 (by omega))
          have HHI1 : Hid (∀ k, t.ks[i]? = some k → hi' = some k) := Lib.hid (fun k hk => hF.hi1 (by rw [hL]; exact hk))
          have HHI0 : Hid (n = i → hi' = hi) := Lib.hid (fun h => hF.hi0 (by have := HNN.out; omega))
          clear hF hcm hki hL
          by_cases h0 : i = 0
          · subst h0
            have h3 := HLO0.out rfl
            rw [h3, HFS.out.1] at HCALL
            clear h3
            by_cases hin : 0 < n
            · obtain ⟨k2, hk2⟩ : ∃ k, t.ks[0]? = some k := get_some (by have := HNN.out; omega)
              obtain ⟨g1, rfl, kc2, _⟩ := HN.out.key hk2
              rw [HSW.out.cell] at kc2
              have hin' : (0 : Int) < n := by omega
              have h2 := HHI1.out k2 hk2
              subst h2
              rw [show bs (some k2) = k2 from rfl] at HCALL
              clear hk2
              go_wp2_with (go_at_call 37; refine HCALL.out.mono ?_; clear HCALL; rintro e u2 ⟨rfl, hs2⟩; have HS2 := Lib.hid (HSW.out.trans hs2); clear hs2)
              go_roundw
              case rel => exact ⟨1, rfl, by omega, HS2⟩
              case measure => simp [intOf]; omega
            · have hin' : ¬ (0 : Int) < n := by omega
              have h2 := HHI0.out (by have := HMN.out; omega)
              rw [h2, HFS.out.2] at HCALL
              clear h2
              go_wp2_with (go_at_call 37; refine HCALL.out.mono ?_; clear HCALL; rintro e u2 ⟨rfl, hs2⟩; have HS2 := Lib.hid (HSW.out.trans hs2); clear hs2)
              go_roundw
              case rel => exact ⟨1, rfl, by omega, HS2⟩
              case measure => simp [intOf]; omega
          · obtain ⟨q, hq⟩ : ∃ q, i = q + 1 := ⟨i - 1, by omega⟩
            obtain ⟨k1, hk1, h3⟩ := HLO1.out q hq
            obtain ⟨g1, rfl, kc1, _⟩ := HN.out.key hk1
            rw [HSW.out.cell] at kc1
            subst h3
            rw [show bs (some k1) = k1 from rfl] at HCALL
            have hip : 0 < i := by omega
            have hq0 : (0 : Int) ≤ q := by omega
            have hqn : (q : Int) < n := by have := HMN.out; omega
            have hwm : IntKind.i64.wrap ((i : Int) - 1) = (q : Int) := by rw [IntWalk.i64_in _ (by omega)]; omega
            clear hk1 hq
            by_cases hin : i < n
            · obtain ⟨k2, hk2⟩ : ∃ k, t.ks[i]? = some k := get_some (by have := HNN.out; omega)
              obtain ⟨_, e9, kc2, _⟩ := HN.out.key hk2
              injection e9 with e9
              injection e9 with e9 _
              subst e9
              rw [HSW.out.cell] at kc2
              have hin' : (i : Int) < n := by omega
              have h2 := HHI1.out k2 hk2
              subst h2
              rw [show bs (some k2) = k2 from rfl] at HCALL
              clear hk2
              go_wp2_with (go_at_call 37; refine HCALL.out.mono ?_; clear HCALL; rintro e u2 ⟨rfl, hs2⟩; have HS2 := Lib.hid (HSW.out.trans hs2); clear hs2)
              go_roundw
              case rel => exact ⟨i + 1, by go_num, by omega, HS2⟩
              case measure => simp [intOf]; omega
            · have hin' : ¬ (i : Int) < n := by omega
              have h2 := HHI0.out (by have := HMN.out; omega)
              rw [h2, HFS.out.2] at HCALL
              clear h2
              go_wp2_with (go_at_call 37; refine HCALL.out.mono ?_; clear HCALL; rintro e u2 ⟨rfl, hs2⟩; have HS2 := Lib.hid (HSW.out.trans hs2); clear hs2)
              go_roundw
              case rel => exact ⟨i + 1, by go_num, by omega, HS2⟩
              case measure => simp [intOf]; omega
        · have him' : ¬ (i : Int) < m := by omega
          go_wp2_with fail
          refine wp_region_noPanic ?_
          refine wp_region_J (S := fun u : World => u.cell? ⟨p, 0, none⟩ = some (.slice a1 n c1) ∧ u.cell? ⟨p, 1, none⟩ = some (.slice a2 0 c2) ∧ u.cell? ⟨p, 2, none⟩ = some (.slice a3 m c3)) (fun _ => false) (by kernel_rfl) ?_
          have HSB : Hid (Same4 w wr.drew) := Lib.hid HSW.out.drew'
          have hHeld : (fun u : World => u.cell? ⟨p, 0, none⟩ = some (.slice a1 n c1) ∧ u.cell? ⟨p, 1, none⟩ = some (.slice a2 0 c2) ∧ u.cell? ⟨p, 2, none⟩ = some (.slice a3 m c3)) wr.drew := ⟨by rw [← HSB.out.cell]; exact HD0.out, by rw [← HSB.out.cell]; exact HD1.out, by rw [← HSB.out.cell]; exact HD2.out⟩
          refine wpAnyJ_take0 (i := 0) (v := ?_) rfl (by kernel_rfl) (by kernel_rfl) (by kernel_rfl) (fun _ _ _ h => h) (Or.inl ⟨by rfl, ?_⟩) ?_
          rotate_left
          focus ((intro w hSw; clear hSw; go_simp); try with_reducible rfl)
          (try simp only [Act.put, List.getElem_toArray, List.getElem_cons_zero, List.getElem_cons_succ, List.setIfInBounds_toArray, List.set_cons_zero, List.set_cons_succ])
          refine wpAnyJ_ready (rs := [1]) (by kernel_rfl) (by simp) ?_
          refine AllReadyJ.cons rfl (fun KK hKK => ?_) AllReadyJ.nil
          go_simp
          go_at_call 38
          refine (HLF.out _ HSB.out).mono ?_
          rintro e u1 ⟨rfl, rfl⟩
          refine hKK.out _ _ (fun _ h => h) ?_
          clear hKK KK
          (try simp only [Act.put, List.getElem_toArray, List.getElem_cons_zero, List.getElem_cons_succ, List.setIfInBounds_toArray, List.set_cons_zero, List.set_cons_succ])
          refine wpAnyJ_take0 (i := 2) (v := ?_) rfl (by kernel_rfl) (by kernel_rfl) (by kernel_rfl) (fun _ _ _ h => h) (Or.inl ⟨by rfl, ?_⟩) ?_
          rotate_left
          focus ((intro w hSw; clear hSw; go_simp); try with_reducible rfl)
          (try simp only [Act.put, List.getElem_toArray, List.getElem_cons_zero, List.getElem_cons_succ, List.setIfInBounds_toArray, List.set_cons_zero, List.set_cons_succ])
          refine wpAnyJ_take0 (i := 3) (v := undef) rfl (by kernel_rfl) (by kernel_rfl) (by kernel_rfl) (fun _ _ _ h => h) (Or.inr ⟨by rfl, rfl⟩) ?_
          (try simp only [Act.put, List.getElem_toArray, List.getElem_cons_zero, List.getElem_cons_succ, List.setIfInBounds_toArray, List.set_cons_zero, List.set_cons_succ])
          refine wpAnyJ_take0 (i := 4) (v := undef) rfl (by kernel_rfl) (by kernel_rfl) (by kernel_rfl) (fun _ _ _ h => h) (Or.inr ⟨by rfl, rfl⟩) ?_
          (try simp only [Act.put, List.getElem_toArray, List.getElem_cons_zero, List.getElem_cons_succ, List.setIfInBounds_toArray, List.set_cons_zero, List.set_cons_succ])
          refine wpAnyJ_take0 (i := 5) (v := undef) rfl (by kernel_rfl) (by kernel_rfl) (by kernel_rfl) (fun _ _ _ h => h) (Or.inr ⟨by rfl, rfl⟩) ?_
          (try simp only [Act.put, List.getElem_toArray, List.getElem_cons_zero, List.getElem_cons_succ, List.setIfInBounds_toArray, List.set_cons_zero, List.set_cons_succ])
          refine wpAnyJ_take0 (i := 6) (v := undef) rfl (by kernel_rfl) (by kernel_rfl) (by kernel_rfl) (fun _ _ _ h => h) (Or.inr ⟨by rfl, rfl⟩) ?_
          (try simp only [Act.put, List.getElem_toArray, List.getElem_cons_zero, List.getElem_cons_succ, List.setIfInBounds_toArray, List.set_cons_zero, List.set_cons_succ])
          refine wpAnyJ_take0 (i := 7) (v := undef) rfl (by kernel_rfl) (by kernel_rfl) (by kernel_rfl) (fun _ _ _ h => h) (Or.inr ⟨by rfl, rfl⟩) ?_
          (try simp only [Act.put, List.getElem_toArray, List.getElem_cons_zero, List.getElem_cons_succ, List.setIfInBounds_toArray, List.set_cons_zero, List.set_cons_succ])
          refine wpAnyJ_take0 (i := 8) (v := undef) rfl (by kernel_rfl) (by kernel_rfl) (by kernel_rfl) (fun _ _ _ h => h) (Or.inr ⟨by rfl, rfl⟩) ?_
          (try simp only [Act.put, List.getElem_toArray, List.getElem_cons_zero, List.getElem_cons_succ, List.setIfInBounds_toArray, List.set_cons_zero, List.set_cons_succ])
          refine wpAnyJ_take0 (i := 9) (v := undef) rfl (by kernel_rfl) (by kernel_rfl) (by kernel_rfl) (fun _ _ _ h => h) (Or.inr ⟨by rfl, rfl⟩) ?_
          (try simp only [Act.put, List.getElem_toArray, List.getElem_cons_zero, List.getElem_cons_succ, List.setIfInBounds_toArray, List.set_cons_zero, List.set_cons_succ])
          refine wpAnyJ_take0 (i := 10) (v := undef) rfl (by kernel_rfl) (by kernel_rfl) (by kernel_rfl) (fun _ _ _ h => h) (Or.inr ⟨by rfl, rfl⟩) ?_
          (try simp only [Act.put, List.getElem_toArray, List.getElem_cons_zero, List.getElem_cons_succ, List.setIfInBounds_toArray, List.set_cons_zero, List.set_cons_succ])
          refine wpAnyJ_take0 (i := 11) (v := undef) rfl (by kernel_rfl) (by kernel_rfl) (by kernel_rfl) (fun _ _ _ h => h) (Or.inr ⟨by rfl, rfl⟩) ?_
          (try simp only [Act.put, List.getElem_toArray, List.getElem_cons_zero, List.getElem_cons_succ, List.setIfInBounds_toArray, List.set_cons_zero, List.set_cons_succ])
          refine wpAnyJ_take0 (i := 12) (v := undef) rfl (by kernel_rfl) (by kernel_rfl) (by kernel_rfl) (fun _ _ _ h => h) (Or.inr ⟨by rfl, rfl⟩) ?_
          (try simp only [Act.put, List.getElem_toArray, List.getElem_cons_zero, List.getElem_cons_succ, List.setIfInBounds_toArray, List.set_cons_zero, List.set_cons_succ])
          refine wpAnyJ_take0 (i := 13) (v := undef) rfl (by kernel_rfl) (by kernel_rfl) (by kernel_rfl) (fun _ _ _ h => h) (Or.inr ⟨by rfl, rfl⟩) ?_
          (try simp only [Act.put, List.getElem_toArray, List.getElem_cons_zero, List.getElem_cons_succ, List.setIfInBounds_toArray, List.set_cons_zero, List.set_cons_succ])
          refine wpAnyJ_take0 (i := 14) (v := ?_) rfl (by kernel_rfl) (by kernel_rfl) (by kernel_rfl) (fun _ _ _ h => h) (Or.inl ⟨by rfl, ?_⟩) ?_
          rotate_left
          focus ((intro w hSw; clear hSw; go_simp); try with_reducible rfl)
          (try simp only [Act.put, List.getElem_toArray, List.getElem_cons_zero, List.getElem_cons_succ, List.setIfInBounds_toArray, List.set_cons_zero, List.set_cons_succ])
          refine wpAnyJ_take0 (i := 15) (v := ?_) rfl (by kernel_rfl) (by kernel_rfl) (by kernel_rfl) (fun _ _ _ h => h) (Or.inl ⟨by rfl, ?_⟩) ?_
          rotate_left
          focus ((intro w hSw; clear hSw; go_simp); try with_reducible rfl)
          (try simp only [Act.put, List.getElem_toArray, List.getElem_cons_zero, List.getElem_cons_succ, List.setIfInBounds_toArray, List.set_cons_zero, List.set_cons_succ])
          refine wpAnyJ_take0 (i := 16) (v := ?_) rfl (by kernel_rfl) (by kernel_rfl) (by kernel_rfl) (fun _ _ _ h => h) (Or.inl ⟨by rfl, ?_⟩) ?_
          rotate_left
          focus ((intro w hSw; clear hSw; go_simp); try with_reducible rfl)
          (try simp only [Act.put, List.getElem_toArray, List.getElem_cons_zero, List.getElem_cons_succ, List.setIfInBounds_toArray, List.set_cons_zero, List.set_cons_succ])
          refine wpAnyJ_take0 (i := 17) (v := ?_) rfl (by kernel_rfl) (by kernel_rfl) (by kernel_rfl) (fun _ _ _ h => h) (Or.inl ⟨by rfl, ?_⟩) ?_
          rotate_left
          focus ((intro w hSw; clear hSw; go_simp); try with_reducible rfl)
          (try simp only [Act.put, List.getElem_toArray, List.getElem_cons_zero, List.getElem_cons_succ, List.setIfInBounds_toArray, List.set_cons_zero, List.set_cons_succ])
          refine wpAnyJ_take0 (i := 18) (v := ?_) rfl (by kernel_rfl) (by kernel_rfl) (by kernel_rfl) (fun _ _ _ h => h) (Or.inl ⟨by rfl, ?_⟩) ?_
          rotate_left
          focus ((intro w hSw; clear hSw; go_simp); try with_reducible rfl)
          (try simp only [Act.put, List.getElem_toArray, List.getElem_cons_zero, List.getElem_cons_succ, List.setIfInBounds_toArray, List.set_cons_zero, List.set_cons_succ])
          refine wpAnyJ_take (i := 19) (v := ?_) rfl (by kernel_rfl) (by kernel_rfl) (by kernel_rfl) (by kernel_rfl) (fun _ _ _ h => h) (Or.inl ⟨by rfl, ?_⟩) (by assumption) ?_
          rotate_left
          focus ((intro w hSw; (try dsimp only at hSw); go_simp); try with_reducible rfl)
          (try simp only [Act.put, List.getElem_toArray, List.getElem_cons_zero, List.getElem_cons_succ, List.setIfInBounds_toArray, List.set_cons_zero, List.set_cons_succ])
          refine wpAnyJ_take0 (i := 20) (v := ?_) rfl (by kernel_rfl) (by kernel_rfl) (by kernel_rfl) (fun _ _ _ h => h) (Or.inl ⟨by rfl, ?_⟩) ?_
          rotate_left
          focus ((intro w hSw; clear hSw; go_simp); try with_reducible rfl)
          (try simp only [Act.put, List.getElem_toArray, List.getElem_cons_zero, List.getElem_cons_succ, List.setIfInBounds_toArray, List.set_cons_zero, List.set_cons_succ])
          refine wpAnyJ_take0 (i := 21) (v := ?_) rfl (by kernel_rfl) (by kernel_rfl) (by kernel_rfl) (fun _ _ _ h => h) (Or.inl ⟨by rfl, ?_⟩) ?_
          rotate_left
          focus ((intro w hSw; clear hSw; go_simp); try with_reducible rfl)
          (try simp only [Act.put, List.getElem_toArray, List.getElem_cons_zero, List.getElem_cons_succ, List.setIfInBounds_toArray, List.set_cons_zero, List.set_cons_succ])
          refine wpAnyJ_take0 (i := 22) (v := ?_) rfl (by kernel_rfl) (by kernel_rfl) (by kernel_rfl) (fun _ _ _ h => h) (Or.inl ⟨by rfl, ?_⟩) ?_
          rotate_left
          focus ((intro w hSw; clear hSw; go_simp); try with_reducible rfl)
          (try simp only [Act.put, List.getElem_toArray, List.getElem_cons_zero, List.getElem_cons_succ, List.setIfInBounds_toArray, List.set_cons_zero, List.set_cons_succ])
          refine wpAnyJ_take0 (i := 23) (v := ?_) rfl (by kernel_rfl) (by kernel_rfl) (by kernel_rfl) (fun _ _ _ h => h) (Or.inl ⟨by rfl, ?_⟩) ?_
          rotate_left
          focus ((intro w hSw; clear hSw; go_simp); try with_reducible rfl)
          (try simp only [Act.put, List.getElem_toArray, List.getElem_cons_zero, List.getElem_cons_succ, List.setIfInBounds_toArray, List.set_cons_zero, List.set_cons_succ])
          refine wpAnyJ_take (i := 24) (v := ?_) rfl (by kernel_rfl) (by kernel_rfl) (by kernel_rfl) (by kernel_rfl) (fun _ _ _ h => h) (Or.inl ⟨by rfl, ?_⟩) (by assumption) ?_
          rotate_left
          focus ((intro w hSw; (try dsimp only at hSw); go_simp); try with_reducible rfl)
          (try simp only [Act.put, List.getElem_toArray, List.getElem_cons_zero, List.getElem_cons_succ, List.setIfInBounds_toArray, List.set_cons_zero, List.set_cons_succ])
          refine wpAnyJ_take0 (i := 25) (v := ?_) rfl (by kernel_rfl) (by kernel_rfl) (by kernel_rfl) (fun _ _ _ h => h) (Or.inl ⟨by rfl, ?_⟩) ?_
          rotate_left
          focus ((intro w hSw; clear hSw; go_simp); try with_reducible rfl)
          (try simp only [Act.put, List.getElem_toArray, List.getElem_cons_zero, List.getElem_cons_succ, List.setIfInBounds_toArray, List.set_cons_zero, List.set_cons_succ])
          refine wpAnyJ_take0 (i := 26) (v := ?_) rfl (by kernel_rfl) (by kernel_rfl) (by kernel_rfl) (fun _ _ _ h => h) (Or.inl ⟨by rfl, ?_⟩) ?_
          rotate_left
          focus ((intro w hSw; clear hSw; go_simp); try with_reducible rfl)
          (try simp only [Act.put, List.getElem_toArray, List.getElem_cons_zero, List.getElem_cons_succ, List.setIfInBounds_toArray, List.set_cons_zero, List.set_cons_succ])
          refine wpAnyJ_take0 (i := 27) (v := ?_) rfl (by kernel_rfl) (by kernel_rfl) (by kernel_rfl) (fun _ _ _ h => h) (Or.inl ⟨by rfl, ?_⟩) ?_
          rotate_left
          focus ((intro w hSw; clear hSw; go_simp); try with_reducible rfl)
          (try simp only [Act.put, List.getElem_toArray, List.getElem_cons_zero, List.getElem_cons_succ, List.setIfInBounds_toArray, List.set_cons_zero, List.set_cons_succ])
          refine wpAnyJ_take0 (i := 28) (v := ?_) rfl (by kernel_rfl) (by kernel_rfl) (by kernel_rfl) (fun _ _ _ h => h) (Or.inl ⟨by rfl, ?_⟩) ?_
          rotate_left
          focus ((intro w hSw; clear hSw; go_simp); try with_reducible rfl)
          (try simp only [Act.put, List.getElem_toArray, List.getElem_cons_zero, List.getElem_cons_succ, List.setIfInBounds_toArray, List.set_cons_zero, List.set_cons_succ])
          refine wpAnyJ_take0 (i := 29) (v := ?_) rfl (by kernel_rfl) (by kernel_rfl) (by kernel_rfl) (fun _ _ _ h => h) (Or.inl ⟨by rfl, ?_⟩) ?_
          rotate_left
          focus ((intro w hSw; clear hSw; go_simp); try with_reducible rfl)
          (try simp only [Act.put, List.getElem_toArray, List.getElem_cons_zero, List.getElem_cons_succ, List.setIfInBounds_toArray, List.set_cons_zero, List.set_cons_succ])
          refine wpAnyJ_done (by kernel_rfl) ?_ _
          refine NoPanic.normal ?_
          go_wp2_with fail
          exact HQ.out _ HSB.out
end Go.Proofs.Ytjoopjmcnkiieaa

/- right: a fork below the root. Conditions: the tree is there and as it must be. -/
namespace Go.Proofs.Ytjoopjmcnkiieaa
open Go.RowKit Go.Lib
set_option linter.unusedSimpArgs false
set_option linter.unusedVariables false

set_option maxRecDepth 100000 in
set_option maxHeartbeats 32000000 in
theorem right_fork_f {o tb d a b : Nat} {lo hi : Option ByteArray} {w : World} {t : Tr} (ho3 : 3 ≤ o) (ho2 : o ≤ 64) (hm : mem (d + 1) w t) (h1 : ∀ k, fp (d + 1) t k ≤ 1) (hv : inv o (d + 1) a b lo hi t) (hb : b ≤ o) (hl : lst o (d + 1) ≤ t.ks.length) (hd : d ≤ 1000000) (ho : w.cell? ⟨tb, 0, none⟩ = some (.int .i64 o))
    (hrec : ∀ (lo hi : Option ByteArray) (c : Tr) (u : World), mem d u c → (∀ k, fp d c k ≤ 1) → inv o d (lst o d) o lo hi c → Same4 w u → Calls Try.prog 37 #[.pointer (some ⟨tb, 0, none⟩), .pointer (some ⟨c.p, 0, none⟩), .string (bs lo), .string (bs hi), .int .i64 ((d : Int) + 1), .bool false] u (RightP u)) :
    Calls Try.prog 37 #[.pointer (some ⟨tb, 0, none⟩), .pointer (some ⟨t.p, 0, none⟩), .string (bs lo), .string (bs hi), .int .i64 ((d : Int) + 2), .bool false] w (RightP w) := by
  obtain ⟨Q, hQ⟩ : ∃ Q, RightP w = Q := ⟨_, rfl⟩
  have HQ : Hid (∀ u, Same4 w u → Q (.returned (.bool true)) u) := Lib.hid (fun u hb => by rw [← hQ]; exact ⟨rfl, hb⟩)
  rw [hQ]
  have HLS := Lib.hid (least_tree (tb := tb) ho2 hm h1 hv ho)
  have hso := inv_sorted hv
  have hle := inv_len hv
  have HK := Lib.hid (inv_keys hv)
  have HM := Lib.hid hm
  have HV := Lib.hid hv
  have HF1 := Lib.hid h1
  have hn := hm.1
  have hlen := hv.1.len
  have HLF : Hid (∀ W, Same4 w W → Calls Try.prog 38 #[.pointer (some ⟨t.p, 0, none⟩)] W fun e w' => e = .returned (.bool false) ∧ W = w') := Lib.hid (fun W hs => by
    have := leaf_any (hn.same hs)
    rw [show (t.cs.map Tr.p).isEmpty = false from by cases hc : t.cs with | nil => rw [hc] at hlen; simp at hlen | cons _ _ => rfl] at this
    exact this)
  obtain ⟨p, hp⟩ : ∃ p, t.p = p := ⟨_, rfl⟩
  rw [hp] at hn HLS HLF ⊢
  obtain ⟨a1, c1, a2, c2, a3, c3, e1, e2, e3, l1, l2, l3, m1, m2, m3⟩ := hn.forms
  rw [e1, e2, e3] at hn
  obtain ⟨_, _, e4, hrow⟩ := hn.str
  injection e4 with e4 e5 e6
  subst e4
  have d0 := hn.cells.1
  have d1 := hn.cells.2.1
  have d2 := hn.cells.2.2.1
  have HN := Lib.hid hn
  obtain ⟨n, hnn⟩ : ∃ n, t.ks.length = n := ⟨_, rfl⟩
  have HNN := Lib.hid hnn
  obtain ⟨m, hmm⟩ : ∃ m, (t.cs.map Tr.p).length = m := ⟨_, rfl⟩
  have HMM := Lib.hid hmm
  rw [hmm] at d2
  simp only [List.length_nil] at d1
  have hmn : m = n + 1 := by rw [← hmm, List.length_map, ← hnn]; exact hlen
  have HIS : Hid (∀ W, Same4 w W → Calls Try.prog 49 #[.slice a1 n c1] W fun e w' => e = .returned (.bool true) ∧ Same4 W w') := Lib.hid (fun W hs => by have := sorted_any (c := c1) (hrow.same hs) hso (by omega); rw [hnn] at this; exact this)
  have hno : n ≤ o := by omega
  have hno1 : (n : Int) ≤ o := by omega
  have hno2 : ¬ (o : Int) < n := by omega
  have hno3 : ¬ o < n := by omega
  have hn6 : n ≤ 1000 := by omega
  obtain ⟨lt, hlt⟩ : ∃ x, lst o (d + 1) = x := ⟨_, rfl⟩
  rw [hlt] at HLS
  have hln1 : (lt : Int) ≤ n := by omega
  have hln2 : ¬ (n : Int) < lt := by omega
  have hln3 : ¬ n < lt := by omega
  have hdw : IntKind.i64.wrap ((d : Int) + 2 - 1) = (d : Int) + 1 := by rw [IntWalk.i64_in _ (by omega)]; omega
  have hdw2 : ((d : Int) + 2 - 1) = (d : Int) + 1 := by omega
  have hd1 : (((d : Int) + 2) == 1) = false := by simp; omega
  have HREC := Lib.hid hrec
  have hnm1 : IntKind.i64.wrap ((n : Int) + 1) = (n : Int) + 1 := IntWalk.i64_in _ (by omega)
  have hm6 : m ≤ 1001 := by omega
  have hmn' : ((m : Int) == (n : Int) + 1) = true := by simp; omega
  have HMN := Lib.hid hmn
  rw [hnn] at d0
  have HD0 := Lib.hid d0
  have HD1 := Lib.hid d1
  have HD2 := Lib.hid d2
  have HO := Lib.hid ho
  obtain ⟨fs, hfs⟩ : ∃ x, bs lo = x := ⟨_, rfl⟩
  obtain ⟨ts, hts⟩ : ∃ x, bs hi = x := ⟨_, rfl⟩
  have HFS : Hid (bs lo = fs ∧ bs hi = ts) := Lib.hid ⟨hfs, hts⟩
  rw [hfs, hts]
  clear hQ hm h1 hv hb hso hle hp e1 e2 e3 e5 e6 hrow hnn l1 l2 l3 m1 m2 m3 hn ho d0 d1 d2 hfs hts hlen hmm hmn hrec hlt hl
  go_enter Try.func37, Try.ntmps37
  go_wp2_with fail
  refine wp_region_noPanic ?_
  refine wp_region_J (S := fun u : World => u.cell? ⟨p, 0, none⟩ = some (.slice a1 n c1) ∧ u.cell? ⟨tb, 0, none⟩ = some (.int .i64 o)) (fun _ => false) (by kernel_rfl) ?_
  have hHeld : (fun u : World => u.cell? ⟨p, 0, none⟩ = some (.slice a1 n c1) ∧ u.cell? ⟨tb, 0, none⟩ = some (.int .i64 o)) w.drew := ⟨HD0.out, HO.out⟩
  have HSA : Hid (Same4 w w.drew) := Lib.hid (Same4.refl w).drew'
  refine wpAnyJ_take0 (i := 0) (v := ?_) rfl (by kernel_rfl) (by kernel_rfl) (by kernel_rfl) (fun _ _ _ h => h) (Or.inl ⟨by rfl, ?_⟩) ?_
  rotate_left
  focus ((intro w hSw; clear hSw; go_simp); try with_reducible rfl)
  (try simp only [Act.put, List.getElem_toArray, List.getElem_cons_zero, List.getElem_cons_succ, List.setIfInBounds_toArray, List.set_cons_zero, List.set_cons_succ])
  refine wpAnyJ_take0 (i := 1) (v := ?_) rfl (by kernel_rfl) (by kernel_rfl) (by kernel_rfl) (fun _ _ _ h => h) (Or.inl ⟨by rfl, ?_⟩) ?_
  rotate_left
  focus ((intro w hSw; clear hSw; go_simp); try with_reducible rfl)
  (try simp only [Act.put, List.getElem_toArray, List.getElem_cons_zero, List.getElem_cons_succ, List.setIfInBounds_toArray, List.set_cons_zero, List.set_cons_succ])
  refine wpAnyJ_take0 (i := 2) (v := ?_) rfl (by kernel_rfl) (by kernel_rfl) (by kernel_rfl) (fun _ _ _ h => h) (Or.inl ⟨by rfl, ?_⟩) ?_
  rotate_left
  focus ((intro w hSw; clear hSw; go_simp); try with_reducible rfl)
  (try simp only [Act.put, List.getElem_toArray, List.getElem_cons_zero, List.getElem_cons_succ, List.setIfInBounds_toArray, List.set_cons_zero, List.set_cons_succ])
  refine wpAnyJ_take (i := 3) (v := ?_) rfl (by kernel_rfl) (by kernel_rfl) (by kernel_rfl) (by kernel_rfl) (fun _ _ _ h => h) (Or.inl ⟨by rfl, ?_⟩) (by assumption) ?_
  rotate_left
  focus ((intro w hSw; (try dsimp only at hSw); go_simp); try with_reducible rfl)
  (try simp only [Act.put, List.getElem_toArray, List.getElem_cons_zero, List.getElem_cons_succ, List.setIfInBounds_toArray, List.set_cons_zero, List.set_cons_succ])
  refine wpAnyJ_take0 (i := 4) (v := ?_) rfl (by kernel_rfl) (by kernel_rfl) (by kernel_rfl) (fun _ _ _ h => h) (Or.inl ⟨by rfl, ?_⟩) ?_
  rotate_left
  focus ((intro w hSw; clear hSw; go_simp); try with_reducible rfl)
  (try simp only [Act.put, List.getElem_toArray, List.getElem_cons_zero, List.getElem_cons_succ, List.setIfInBounds_toArray, List.set_cons_zero, List.set_cons_succ])
  refine wpAnyJ_take0 (i := 5) (v := ?_) rfl (by kernel_rfl) (by kernel_rfl) (by kernel_rfl) (fun _ _ _ h => h) (Or.inl ⟨by rfl, ?_⟩) ?_
  rotate_left
  focus ((intro w hSw; clear hSw; go_simp); try with_reducible rfl)
  (try simp only [Act.put, List.getElem_toArray, List.getElem_cons_zero, List.getElem_cons_succ, List.setIfInBounds_toArray, List.set_cons_zero, List.set_cons_succ])
  refine wpAnyJ_take0 (i := 6) (v := ?_) rfl (by kernel_rfl) (by kernel_rfl) (by kernel_rfl) (fun _ _ _ h => h) (Or.inl ⟨by rfl, ?_⟩) ?_
  rotate_left
  focus ((intro w hSw; clear hSw; go_simp); try with_reducible rfl)
  (try simp only [Act.put, List.getElem_toArray, List.getElem_cons_zero, List.getElem_cons_succ, List.setIfInBounds_toArray, List.set_cons_zero, List.set_cons_succ])
  refine wpAnyJ_take0 (i := 7) (v := ?_) rfl (by kernel_rfl) (by kernel_rfl) (by kernel_rfl) (fun _ _ _ h => h) (Or.inl ⟨by rfl, ?_⟩) ?_
  rotate_left
  focus ((intro w hSw; clear hSw; go_simp); try with_reducible rfl)
  (try simp only [Act.put, List.getElem_toArray, List.getElem_cons_zero, List.getElem_cons_succ, List.setIfInBounds_toArray, List.set_cons_zero, List.set_cons_succ])
  refine wpAnyJ_take (i := 8) (v := ?_) rfl (by kernel_rfl) (by kernel_rfl) (by kernel_rfl) (by kernel_rfl) (fun _ _ _ h => h) (Or.inl ⟨by rfl, ?_⟩) (by assumption) ?_
  rotate_left
  focus ((intro w hSw; (try dsimp only at hSw); go_simp); try with_reducible rfl)
  (try simp only [Act.put, List.getElem_toArray, List.getElem_cons_zero, List.getElem_cons_succ, List.setIfInBounds_toArray, List.set_cons_zero, List.set_cons_succ])
  refine wpAnyJ_take0 (i := 9) (v := ?_) rfl (by kernel_rfl) (by kernel_rfl) (by kernel_rfl) (fun _ _ _ h => h) (Or.inl ⟨by rfl, ?_⟩) ?_
  rotate_left
  focus ((intro w hSw; clear hSw; go_simp); try with_reducible rfl)
  (try simp only [Act.put, List.getElem_toArray, List.getElem_cons_zero, List.getElem_cons_succ, List.setIfInBounds_toArray, List.set_cons_zero, List.set_cons_succ])
  refine wpAnyJ_take0 (i := 10) (v := ?_) rfl (by kernel_rfl) (by kernel_rfl) (by kernel_rfl) (fun _ _ _ h => h) (Or.inl ⟨by rfl, ?_⟩) ?_
  rotate_left
  focus ((intro w hSw; clear hSw; go_simp); try with_reducible rfl)
  (try simp only [Act.put, List.getElem_toArray, List.getElem_cons_zero, List.getElem_cons_succ, List.setIfInBounds_toArray, List.set_cons_zero, List.set_cons_succ])
  refine wpAnyJ_take0 (i := 11) (v := ?_) rfl (by kernel_rfl) (by kernel_rfl) (by kernel_rfl) (fun _ _ _ h => h) (Or.inl ⟨by rfl, ?_⟩) ?_
  rotate_left
  focus ((intro w hSw; clear hSw; go_simp); try with_reducible rfl)
  (try simp only [Act.put, List.getElem_toArray, List.getElem_cons_zero, List.getElem_cons_succ, List.setIfInBounds_toArray, List.set_cons_zero, List.set_cons_succ])
  refine wpAnyJ_take0 (i := 12) (v := ?_) rfl (by kernel_rfl) (by kernel_rfl) (by kernel_rfl) (fun _ _ _ h => h) (Or.inl ⟨by rfl, ?_⟩) ?_
  rotate_left
  focus ((intro w hSw; clear hSw; go_simp); try with_reducible rfl)
  (try simp only [Act.put, List.getElem_toArray, List.getElem_cons_zero, List.getElem_cons_succ, List.setIfInBounds_toArray, List.set_cons_zero, List.set_cons_succ])
  refine wpAnyJ_take0 (i := 13) (v := ?_) rfl (by kernel_rfl) (by kernel_rfl) (by kernel_rfl) (fun _ _ _ h => h) (Or.inl ⟨by rfl, ?_⟩) ?_
  rotate_left
  focus ((intro w hSw; clear hSw; go_simp); try with_reducible rfl)
  (try simp only [Act.put, List.getElem_toArray, List.getElem_cons_zero, List.getElem_cons_succ, List.setIfInBounds_toArray, List.set_cons_zero, List.set_cons_succ])
  refine wpAnyJ_take0 (i := 14) (v := ?_) rfl (by kernel_rfl) (by kernel_rfl) (by kernel_rfl) (fun _ _ _ h => h) (Or.inl ⟨by rfl, ?_⟩) ?_
  rotate_left
  focus ((intro w hSw; clear hSw; go_simp); try with_reducible rfl)
  (try simp only [Act.put, List.getElem_toArray, List.getElem_cons_zero, List.getElem_cons_succ, List.setIfInBounds_toArray, List.set_cons_zero, List.set_cons_succ])
  refine wpAnyJ_take0 (i := 15) (v := ?_) rfl (by kernel_rfl) (by kernel_rfl) (by kernel_rfl) (fun _ _ _ h => h) (Or.inl ⟨by rfl, ?_⟩) ?_
  rotate_left
  focus ((intro w hSw; clear hSw; go_simp); try with_reducible rfl)
  (try simp only [Act.put, List.getElem_toArray, List.getElem_cons_zero, List.getElem_cons_succ, List.setIfInBounds_toArray, List.set_cons_zero, List.set_cons_succ])
  refine wpAnyJ_take0 (i := 16) (v := ?_) rfl (by kernel_rfl) (by kernel_rfl) (by kernel_rfl) (fun _ _ _ h => h) (Or.inl ⟨by rfl, ?_⟩) ?_
  rotate_left
  focus ((intro w hSw; clear hSw; go_simp); try with_reducible rfl)
  (try simp only [Act.put, List.getElem_toArray, List.getElem_cons_zero, List.getElem_cons_succ, List.setIfInBounds_toArray, List.set_cons_zero, List.set_cons_succ])
  refine wpAnyJ_take (i := 17) (v := ?_) rfl (by kernel_rfl) (by kernel_rfl) (by kernel_rfl) (by kernel_rfl) (fun _ _ _ h => h) (Or.inl ⟨by rfl, ?_⟩) (by assumption) ?_
  rotate_left
  focus ((intro w hSw; (try dsimp only at hSw); go_simp); try with_reducible rfl)
  (try simp only [Act.put, List.getElem_toArray, List.getElem_cons_zero, List.getElem_cons_succ, List.setIfInBounds_toArray, List.set_cons_zero, List.set_cons_succ])
  refine wpAnyJ_take0 (i := 18) (v := ?_) rfl (by kernel_rfl) (by kernel_rfl) (by kernel_rfl) (fun _ _ _ h => h) (Or.inl ⟨by rfl, ?_⟩) ?_
  rotate_left
  focus ((intro w hSw; clear hSw; go_simp); try with_reducible rfl)
  (try simp only [Act.put, List.getElem_toArray, List.getElem_cons_zero, List.getElem_cons_succ, List.setIfInBounds_toArray, List.set_cons_zero, List.set_cons_succ])
  refine wpAnyJ_take0 (i := 19) (v := ?_) rfl (by kernel_rfl) (by kernel_rfl) (by kernel_rfl) (fun _ _ _ h => h) (Or.inl ⟨by rfl, ?_⟩) ?_
  rotate_left
  focus ((intro w hSw; clear hSw; go_simp); try with_reducible rfl)
  (try simp only [Act.put, List.getElem_toArray, List.getElem_cons_zero, List.getElem_cons_succ, List.setIfInBounds_toArray, List.set_cons_zero, List.set_cons_succ])
  refine wpAnyJ_take0 (i := 20) (v := ?_) rfl (by kernel_rfl) (by kernel_rfl) (by kernel_rfl) (fun _ _ _ h => h) (Or.inl ⟨by rfl, ?_⟩) ?_
  rotate_left
  focus ((intro w hSw; clear hSw; go_simp); try with_reducible rfl)
  (try simp only [Act.put, List.getElem_toArray, List.getElem_cons_zero, List.getElem_cons_succ, List.setIfInBounds_toArray, List.set_cons_zero, List.set_cons_succ])
  refine wpAnyJ_ready (rs := [21]) (by kernel_rfl) (by simp) ?_
  refine AllReadyJ.cons rfl (fun KK hKK => ?_) AllReadyJ.nil
  go_simp
  go_at_call 48
  refine (HLS.out _ HSA.out).mono ?_
  rintro e u1 ⟨rfl, rfl⟩
  refine hKK.out _ _ (fun _ h => h) ?_
  clear hKK KK
  (try simp only [Act.put, List.getElem_toArray, List.getElem_cons_zero, List.getElem_cons_succ, List.setIfInBounds_toArray, List.set_cons_zero, List.set_cons_succ])
  refine wpAnyJ_take0 (i := 22) (v := ?_) rfl (by kernel_rfl) (by kernel_rfl) (by kernel_rfl) (fun _ _ _ h => h) (Or.inl ⟨by rfl, ?_⟩) ?_
  rotate_left
  focus ((intro w hSw; clear hSw; go_simp); try with_reducible rfl)
  (try simp only [Act.put, List.getElem_toArray, List.getElem_cons_zero, List.getElem_cons_succ, List.setIfInBounds_toArray, List.set_cons_zero, List.set_cons_succ])
  refine wpAnyJ_take0 (i := 23) (v := ?_) rfl (by kernel_rfl) (by kernel_rfl) (by kernel_rfl) (fun _ _ _ h => h) (Or.inl ⟨by rfl, ?_⟩) ?_
  rotate_left
  focus ((intro w hSw; clear hSw; go_simp); try with_reducible rfl)
  (try simp only [Act.put, List.getElem_toArray, List.getElem_cons_zero, List.getElem_cons_succ, List.setIfInBounds_toArray, List.set_cons_zero, List.set_cons_succ])
  refine wpAnyJ_take0 (i := 24) (v := ?_) rfl (by kernel_rfl) (by kernel_rfl) (by kernel_rfl) (fun _ _ _ h => h) (Or.inl ⟨by rfl, ?_⟩) ?_
  rotate_left
  focus ((intro w hSw; clear hSw; go_simp); try with_reducible rfl)
  (try simp only [Act.put, List.getElem_toArray, List.getElem_cons_zero, List.getElem_cons_succ, List.setIfInBounds_toArray, List.set_cons_zero, List.set_cons_succ])
  refine wpAnyJ_take0 (i := 25) (v := ?_) rfl (by kernel_rfl) (by kernel_rfl) (by kernel_rfl) (fun _ _ _ h => h) (Or.inl ⟨by rfl, ?_⟩) ?_
  rotate_left
  focus ((intro w hSw; clear hSw; go_simp); try with_reducible rfl)
  (try simp only [Act.put, List.getElem_toArray, List.getElem_cons_zero, List.getElem_cons_succ, List.setIfInBounds_toArray, List.set_cons_zero, List.set_cons_succ])
  refine wpAnyJ_take0 (i := 26) (v := ?_) rfl (by kernel_rfl) (by kernel_rfl) (by kernel_rfl) (fun _ _ _ h => h) (Or.inl ⟨by rfl, ?_⟩) ?_
  rotate_left
  focus ((intro w hSw; clear hSw; go_simp); try with_reducible rfl)
  (try simp only [Act.put, List.getElem_toArray, List.getElem_cons_zero, List.getElem_cons_succ, List.setIfInBounds_toArray, List.set_cons_zero, List.set_cons_succ])
  refine wpAnyJ_take0 (i := 28) (v := ?_) rfl (by kernel_rfl) (by kernel_rfl) (by kernel_rfl) (fun _ _ _ h => h) (Or.inl ⟨by rfl, ?_⟩) ?_
  rotate_left
  focus ((intro w hSw; clear hSw; go_simp); try with_reducible rfl)
  (try simp only [Act.put, List.getElem_toArray, List.getElem_cons_zero, List.getElem_cons_succ, List.setIfInBounds_toArray, List.set_cons_zero, List.set_cons_succ])
  refine wpAnyJ_take0 (i := 29) (v := ?_) rfl (by kernel_rfl) (by kernel_rfl) (by kernel_rfl) (fun _ _ _ h => h) (Or.inl ⟨by rfl, ?_⟩) ?_
  rotate_left
  focus ((intro w hSw; clear hSw; go_simp); try with_reducible rfl)
  (try simp only [Act.put, List.getElem_toArray, List.getElem_cons_zero, List.getElem_cons_succ, List.setIfInBounds_toArray, List.set_cons_zero, List.set_cons_succ])
  refine wpAnyJ_ready (rs := [27]) (by kernel_rfl) (by simp) ?_
  refine AllReadyJ.cons rfl (fun KK hKK => ?_) AllReadyJ.nil
  go_simp
  go_at_call 38
  refine (HLF.out _ HSA.out).mono ?_
  rintro e u1 ⟨rfl, rfl⟩
  refine hKK.out _ _ (fun _ h => h) ?_
  clear hKK KK
  (try simp only [Act.put, List.getElem_toArray, List.getElem_cons_zero, List.getElem_cons_succ, List.setIfInBounds_toArray, List.set_cons_zero, List.set_cons_succ])
  refine wpAnyJ_take0 (i := 30) (v := ?_) rfl (by kernel_rfl) (by kernel_rfl) (by kernel_rfl) (fun _ _ _ h => h) (Or.inl ⟨by rfl, ?_⟩) ?_
  rotate_left
  focus ((intro w hSw; clear hSw; go_simp); try with_reducible rfl)
  (try simp only [Act.put, List.getElem_toArray, List.getElem_cons_zero, List.getElem_cons_succ, List.setIfInBounds_toArray, List.set_cons_zero, List.set_cons_succ])
  refine wpAnyJ_take0 (i := 31) (v := ?_) rfl (by kernel_rfl) (by kernel_rfl) (by kernel_rfl) (fun _ _ _ h => h) (Or.inl ⟨by rfl, ?_⟩) ?_
  rotate_left
  focus ((intro w hSw; clear hSw; go_simp); try with_reducible rfl)
  (try simp only [Act.put, List.getElem_toArray, List.getElem_cons_zero, List.getElem_cons_succ, List.setIfInBounds_toArray, List.set_cons_zero, List.set_cons_succ])
  refine wpAnyJ_take0 (i := 32) (v := ?_) rfl (by kernel_rfl) (by kernel_rfl) (by kernel_rfl) (fun _ _ _ h => h) (Or.inl ⟨by rfl, ?_⟩) ?_
  rotate_left
  focus ((intro w hSw; clear hSw; go_simp); try with_reducible rfl)
  (try simp only [Act.put, List.getElem_toArray, List.getElem_cons_zero, List.getElem_cons_succ, List.setIfInBounds_toArray, List.set_cons_zero, List.set_cons_succ])
  refine wpAnyJ_take0 (i := 33) (v := ?_) rfl (by kernel_rfl) (by kernel_rfl) (by kernel_rfl) (fun _ _ _ h => h) (Or.inl ⟨by rfl, ?_⟩) ?_
  rotate_left
  focus ((intro w hSw; clear hSw; go_simp); try with_reducible rfl)
  (try simp only [Act.put, List.getElem_toArray, List.getElem_cons_zero, List.getElem_cons_succ, List.setIfInBounds_toArray, List.set_cons_zero, List.set_cons_succ])
  refine wpAnyJ_take0 (i := 34) (v := ?_) rfl (by kernel_rfl) (by kernel_rfl) (by kernel_rfl) (fun _ _ _ h => h) (Or.inl ⟨by rfl, ?_⟩) ?_
  rotate_left
  focus ((intro w hSw; clear hSw; go_simp); try with_reducible rfl)
  (try simp only [Act.put, List.getElem_toArray, List.getElem_cons_zero, List.getElem_cons_succ, List.setIfInBounds_toArray, List.set_cons_zero, List.set_cons_succ])
  refine wpAnyJ_take0 (i := 35) (v := ?_) rfl (by kernel_rfl) (by kernel_rfl) (by kernel_rfl) (fun _ _ _ h => h) (Or.inl ⟨by rfl, ?_⟩) ?_
  rotate_left
  focus ((intro w hSw; clear hSw; go_simp); try with_reducible rfl)
  (try simp only [Act.put, List.getElem_toArray, List.getElem_cons_zero, List.getElem_cons_succ, List.setIfInBounds_toArray, List.set_cons_zero, List.set_cons_succ])
  refine wpAnyJ_take (i := 36) (v := ?_) rfl (by kernel_rfl) (by kernel_rfl) (by kernel_rfl) (by kernel_rfl) (fun _ _ _ h => h) (Or.inl ⟨by rfl, ?_⟩) (by assumption) ?_
  rotate_left
  focus ((intro w hSw; (try dsimp only at hSw); go_simp); try with_reducible rfl)
  (try simp only [Act.put, List.getElem_toArray, List.getElem_cons_zero, List.getElem_cons_succ, List.setIfInBounds_toArray, List.set_cons_zero, List.set_cons_succ])
  refine wpAnyJ_ready (rs := [37]) (by kernel_rfl) (by simp) ?_
  refine AllReadyJ.cons rfl (fun KK hKK => ?_) AllReadyJ.nil
  go_simp
  go_at_call 49
  refine (HIS.out _ HSA.out).mono ?_
  rintro e u1 ⟨rfl, hs9⟩
  have HS1 := Lib.hid (HSA.out.trans hs9)
  have hHeld2 : (fun u : World => u.cell? ⟨p, 0, none⟩ = some (.slice a1 n c1) ∧ u.cell? ⟨tb, 0, none⟩ = some (.int .i64 o)) u1 := ⟨by rw [← HS1.out.cell]; exact HD0.out, by rw [← HS1.out.cell]; exact HO.out⟩
  refine hKK.out _ _ (fun _ _ => hHeld2) ?_
  clear hKK KK hHeld hs9
  have hHeld := hHeld2
  clear hHeld2
  (try simp only [Act.put, List.getElem_toArray, List.getElem_cons_zero, List.getElem_cons_succ, List.setIfInBounds_toArray, List.set_cons_zero, List.set_cons_succ])
  refine wpAnyJ_take0 (i := 38) (v := ?_) rfl (by kernel_rfl) (by kernel_rfl) (by kernel_rfl) (fun _ _ _ h => h) (Or.inl ⟨by rfl, ?_⟩) ?_
  rotate_left
  focus ((intro w hSw; clear hSw; go_simp); try with_reducible rfl)
  (try simp only [Act.put, List.getElem_toArray, List.getElem_cons_zero, List.getElem_cons_succ, List.setIfInBounds_toArray, List.set_cons_zero, List.set_cons_succ])
  refine wpAnyJ_take0 (i := 39) (v := ?_) rfl (by kernel_rfl) (by kernel_rfl) (by kernel_rfl) (fun _ _ _ h => h) (Or.inl ⟨by rfl, ?_⟩) ?_
  rotate_left
  focus ((intro w hSw; clear hSw; go_simp); try with_reducible rfl)
  (try simp only [Act.put, List.getElem_toArray, List.getElem_cons_zero, List.getElem_cons_succ, List.setIfInBounds_toArray, List.set_cons_zero, List.set_cons_succ])
  refine wpAnyJ_done (by kernel_rfl) ?_ _
  refine NoPanic.normal ?_
  go_wp2_with fail
  go_loopw [64] (fun iv wr => ∃ j : Nat, iv = .int .i64 j ∧ j ≤ n ∧ Hid (Same4 w wr)) (fun iv _ => n - (intOf iv).toNat)
  case atStart => exact ⟨0, rfl, Nat.zero_le _, Lib.hid HS1.out⟩
  case round =>
    (try clear HS1 hHeld)
    obtain ⟨j, rfl, hj, HSW⟩ := hrel
    have hj0 : (0 : Int) ≤ j := by omega
    by_cases hjn : j < n
    · have hjn' : (j : Int) < n := by omega
      obtain ⟨k, hk⟩ : ∃ k, t.ks[j]? = some k := get_some (by have := HNN.out; omega)
      obtain ⟨g1, rfl, kc, _⟩ := HN.out.key hk
      rw [HSW.out.cell] at kc
      have HWI := Lib.hid (within_any k fs ts wr)
      have hwi := inR_within (HK.out k (List.mem_of_getElem? hk))
      rw [HFS.out.1, HFS.out.2] at hwi
      rw [hwi] at HWI
      have hj1 : IntKind.i64.wrap ((j : Int) + 1) = (j : Int) + 1 := IntWalk.i64_in _ (by omega)
      clear hk hwi
      go_wp2_with (go_at_call 36; refine HWI.out.mono ?_; clear HWI; rintro e w' ⟨rfl, rfl⟩)
      go_roundw
      case rel => exact ⟨j + 1, by go_num, by omega, HSW⟩
      case measure => simp [intOf]; omega
    · have hjn' : ¬ (j : Int) < n := by omega
      have d2 : wr.cell? ⟨p, 2, none⟩ = some (.slice a3 m c3) := by rw [← HSW.out.cell]; exact HD2.out
      clear hj
      go_wp2_with fail
      go_loopw [79] (fun iv wr => ∃ i : Nat, iv = .int .i64 i ∧ i ≤ m ∧ Hid (Same4 w wr)) (fun iv _ => m - (intOf iv).toNat)
      case atStart => exact ⟨0, rfl, Nat.zero_le _, HSW⟩
      case round =>
        clear HSW d2 hjn hjn' hj0
        obtain ⟨i, rfl, hile, HSW⟩ := hrel
        have hi0 : (0 : Int) ≤ i := by omega
        by_cases him : i < m
        · have him' : (i : Int) < m := by omega
          obtain ⟨L, c, R, lo', hi', hL, hF⟩ := HV.out.1.focus i (by have := HMN.out; have := HNN.out; omega)
          have hcm : c ∈ t.cs := by rw [hF.cs]; simp
          have hki : (t.cs.map Tr.p)[i]? = some c.p := by rw [← hL, List.getElem?_map, hF.kid]; rfl
          obtain ⟨g3, rfl, ki, _⟩ := HN.out.kid hki
          rw [HSW.out.cell] at ki
          have d0 : wr.cell? ⟨p, 0, none⟩ = some (.slice a1 n c1) := by rw [← HSW.out.cell]; exact HD0.out
          have HCALL := Lib.hid (HREC.out lo' hi' c wr (mem_heap (HM.out.2.2 c hcm) HSW.out.1.symm) (fun k => by have h2 := HF1.out k; have h3 := fpL_mem (f := fp d) hcm k; simp only [fp] at h2; omega) hF.c HSW.out)
          have hj1 : IntKind.i64.wrap ((i : Int) + 1) = (i : Int) + 1 := IntWalk.i64_in _ (by omega)
          have HLO0 : Hid (i = 0 → lo' = lo) := Lib.hid (fun h => hF.lo0 (by omega))
          have HLO1 : Hid (∀ q, i = q + 1 → ∃ k, t.ks[q]? = some k ∧ lo' = some k) := Lib.hid (fun q h => hF.lo1 (by omega))
          have HHI1 : Hid (∀ k, t.ks[i]? = some k → hi' = some k) := Lib.hid (fun k hk => hF.hi1 (by rw [hL]; exact hk))
          have HHI0 : Hid (n = i → hi' = hi) := Lib.hid (fun h => hF.hi0 (by have := HNN.out; omega))
          clear hF hcm hki hL
          by_cases h0 : i = 0
          · subst h0
            have h3 := HLO0.out rfl
            rw [h3, HFS.out.1] at HCALL
            clear h3
            by_cases hin : 0 < n
            · obtain ⟨k2, hk2⟩ : ∃ k, t.ks[0]? = some k := get_some (by have := HNN.out; omega)
              obtain ⟨g1, rfl, kc2, _⟩ := HN.out.key hk2
              rw [HSW.out.cell] at kc2
              have hin' : (0 : Int) < n := by omega
              have h2 := HHI1.out k2 hk2
              subst h2
              rw [show bs (some k2) = k2 from rfl] at HCALL
              clear hk2
              go_wp2_with (go_at_call 37; refine HCALL.out.mono ?_; clear HCALL; rintro e u2 ⟨rfl, hs2⟩; have HS2 := Lib.hid (HSW.out.trans hs2); clear hs2)
              go_roundw
              case rel => exact ⟨1, rfl, by omega, HS2⟩
              case measure => simp [intOf]; omega
            · have hin' : ¬ (0 : Int) < n := by omega
              have h2 := HHI0.out (by have := HMN.out; omega)
              rw [h2, HFS.out.2] at HCALL
              clear h2
              go_wp2_with (go_at_call 37; refine HCALL.out.mono ?_; clear HCALL; rintro e u2 ⟨rfl, hs2⟩; have HS2 := Lib.hid (HSW.out.trans hs2); clear hs2)
              go_roundw
              case rel => exact ⟨1, rfl, by omega, HS2⟩
              case measure => simp [intOf]; omega
          · obtain ⟨q, hq⟩ : ∃ q, i = q + 1 := ⟨i - 1, by omega⟩
            obtain ⟨k1, hk1, h3⟩ := HLO1.out q hq
            obtain ⟨g1, rfl, kc1, _⟩ := HN.out.key hk1
            rw [HSW.out.cell] at kc1
            subst h3
            rw [show bs (some k1) = k1 from rfl] at HCALL
            have hip : 0 < i := by omega
            have hq0 : (0 : Int) ≤ q := by omega
            have hqn : (q : Int) < n := by have := HMN.out; omega
            have hwm : IntKind.i64.wrap ((i : Int) - 1) = (q : Int) := by rw [IntWalk.i64_in _ (by omega)]; omega
            clear hk1 hq
            by_cases hin : i < n
            · obtain ⟨k2, hk2⟩ : ∃ k, t.ks[i]? = some k := get_some (by have := HNN.out; omega)
              obtain ⟨_, e9, kc2, _⟩ := HN.out.key hk2
              injection e9 with e9
              injection e9 with e9 _
              subst e9
              rw [HSW.out.cell] at kc2
              have hin' : (i : Int) < n := by omega
              have h2 := HHI1.out k2 hk2
              subst h2
              rw [show bs (some k2) = k2 from rfl] at HCALL
              clear hk2
              go_wp2_with (go_at_call 37; refine HCALL.out.mono ?_; clear HCALL; rintro e u2 ⟨rfl, hs2⟩; have HS2 := Lib.hid (HSW.out.trans hs2); clear hs2)
              go_roundw
              case rel => exact ⟨i + 1, by go_num, by omega, HS2⟩
              case measure => simp [intOf]; omega
            · have hin' : ¬ (i : Int) < n := by omega
              have h2 := HHI0.out (by have := HMN.out; omega)
              rw [h2, HFS.out.2] at HCALL
              clear h2
              go_wp2_with (go_at_call 37; refine HCALL.out.mono ?_; clear HCALL; rintro e u2 ⟨rfl, hs2⟩; have HS2 := Lib.hid (HSW.out.trans hs2); clear hs2)
              go_roundw
              case rel => exact ⟨i + 1, by go_num, by omega, HS2⟩
              case measure => simp [intOf]; omega
        · have him' : ¬ (i : Int) < m := by omega
          go_wp2_with fail
          refine wp_region_noPanic ?_
          refine wp_region_J (S := fun u : World => u.cell? ⟨p, 0, none⟩ = some (.slice a1 n c1) ∧ u.cell? ⟨p, 1, none⟩ = some (.slice a2 0 c2) ∧ u.cell? ⟨p, 2, none⟩ = some (.slice a3 m c3)) (fun _ => false) (by kernel_rfl) ?_
          have HSB : Hid (Same4 w wr.drew) := Lib.hid HSW.out.drew'
          have hHeld : (fun u : World => u.cell? ⟨p, 0, none⟩ = some (.slice a1 n c1) ∧ u.cell? ⟨p, 1, none⟩ = some (.slice a2 0 c2) ∧ u.cell? ⟨p, 2, none⟩ = some (.slice a3 m c3)) wr.drew := ⟨by rw [← HSB.out.cell]; exact HD0.out, by rw [← HSB.out.cell]; exact HD1.out, by rw [← HSB.out.cell]; exact HD2.out⟩
          refine wpAnyJ_take0 (i := 0) (v := ?_) rfl (by kernel_rfl) (by kernel_rfl) (by kernel_rfl) (fun _ _ _ h => h) (Or.inl ⟨by rfl, ?_⟩) ?_
          rotate_left
          focus ((intro w hSw; clear hSw; go_simp); try with_reducible rfl)
          (try simp only [Act.put, List.getElem_toArray, List.getElem_cons_zero, List.getElem_cons_succ, List.setIfInBounds_toArray, List.set_cons_zero, List.set_cons_succ])
          refine wpAnyJ_ready (rs := [1]) (by kernel_rfl) (by simp) ?_
          refine AllReadyJ.cons rfl (fun KK hKK => ?_) AllReadyJ.nil
          go_simp
          go_at_call 38
          refine (HLF.out _ HSB.out).mono ?_
          rintro e u1 ⟨rfl, rfl⟩
          refine hKK.out _ _ (fun _ h => h) ?_
          clear hKK KK
          (try simp only [Act.put, List.getElem_toArray, List.getElem_cons_zero, List.getElem_cons_succ, List.setIfInBounds_toArray, List.set_cons_zero, List.set_cons_succ])
          refine wpAnyJ_take0 (i := 2) (v := ?_) rfl (by kernel_rfl) (by kernel_rfl) (by kernel_rfl) (fun _ _ _ h => h) (Or.inl ⟨by rfl, ?_⟩) ?_
          rotate_left
          focus ((intro w hSw; clear hSw; go_simp); try with_reducible rfl)
          (try simp only [Act.put, List.getElem_toArray, List.getElem_cons_zero, List.getElem_cons_succ, List.setIfInBounds_toArray, List.set_cons_zero, List.set_cons_succ])
          refine wpAnyJ_take0 (i := 3) (v := undef) rfl (by kernel_rfl) (by kernel_rfl) (by kernel_rfl) (fun _ _ _ h => h) (Or.inr ⟨by rfl, rfl⟩) ?_
          (try simp only [Act.put, List.getElem_toArray, List.getElem_cons_zero, List.getElem_cons_succ, List.setIfInBounds_toArray, List.set_cons_zero, List.set_cons_succ])
          refine wpAnyJ_take0 (i := 4) (v := undef) rfl (by kernel_rfl) (by kernel_rfl) (by kernel_rfl) (fun _ _ _ h => h) (Or.inr ⟨by rfl, rfl⟩) ?_
          (try simp only [Act.put, List.getElem_toArray, List.getElem_cons_zero, List.getElem_cons_succ, List.setIfInBounds_toArray, List.set_cons_zero, List.set_cons_succ])
          refine wpAnyJ_take0 (i := 5) (v := undef) rfl (by kernel_rfl) (by kernel_rfl) (by kernel_rfl) (fun _ _ _ h => h) (Or.inr ⟨by rfl, rfl⟩) ?_
          (try simp only [Act.put, List.getElem_toArray, List.getElem_cons_zero, List.getElem_cons_succ, List.setIfInBounds_toArray, List.set_cons_zero, List.set_cons_succ])
          refine wpAnyJ_take0 (i := 6) (v := undef) rfl (by kernel_rfl) (by kernel_rfl) (by kernel_rfl) (fun _ _ _ h => h) (Or.inr ⟨by rfl, rfl⟩) ?_
          (try simp only [Act.put, List.getElem_toArray, List.getElem_cons_zero, List.getElem_cons_succ, List.setIfInBounds_toArray, List.set_cons_zero, List.set_cons_succ])
          refine wpAnyJ_take0 (i := 7) (v := undef) rfl (by kernel_rfl) (by kernel_rfl) (by kernel_rfl) (fun _ _ _ h => h) (Or.inr ⟨by rfl, rfl⟩) ?_
          (try simp only [Act.put, List.getElem_toArray, List.getElem_cons_zero, List.getElem_cons_succ, List.setIfInBounds_toArray, List.set_cons_zero, List.set_cons_succ])
          refine wpAnyJ_take0 (i := 8) (v := undef) rfl (by kernel_rfl) (by kernel_rfl) (by kernel_rfl) (fun _ _ _ h => h) (Or.inr ⟨by rfl, rfl⟩) ?_
          (try simp only [Act.put, List.getElem_toArray, List.getElem_cons_zero, List.getElem_cons_succ, List.setIfInBounds_toArray, List.set_cons_zero, List.set_cons_succ])
          refine wpAnyJ_take0 (i := 9) (v := undef) rfl (by kernel_rfl) (by kernel_rfl) (by kernel_rfl) (fun _ _ _ h => h) (Or.inr ⟨by rfl, rfl⟩) ?_
          (try simp only [Act.put, List.getElem_toArray, List.getElem_cons_zero, List.getElem_cons_succ, List.setIfInBounds_toArray, List.set_cons_zero, List.set_cons_succ])
          refine wpAnyJ_take0 (i := 10) (v := undef) rfl (by kernel_rfl) (by kernel_rfl) (by kernel_rfl) (fun _ _ _ h => h) (Or.inr ⟨by rfl, rfl⟩) ?_
          (try simp only [Act.put, List.getElem_toArray, List.getElem_cons_zero, List.getElem_cons_succ, List.setIfInBounds_toArray, List.set_cons_zero, List.set_cons_succ])
          refine wpAnyJ_take0 (i := 11) (v := undef) rfl (by kernel_rfl) (by kernel_rfl) (by kernel_rfl) (fun _ _ _ h => h) (Or.inr ⟨by rfl, rfl⟩) ?_
          (try simp only [Act.put, List.getElem_toArray, List.getElem_cons_zero, List.getElem_cons_succ, List.setIfInBounds_toArray, List.set_cons_zero, List.set_cons_succ])
          refine wpAnyJ_take0 (i := 12) (v := undef) rfl (by kernel_rfl) (by kernel_rfl) (by kernel_rfl) (fun _ _ _ h => h) (Or.inr ⟨by rfl, rfl⟩) ?_
          (try simp only [Act.put, List.getElem_toArray, List.getElem_cons_zero, List.getElem_cons_succ, List.setIfInBounds_toArray, List.set_cons_zero, List.set_cons_succ])
          refine wpAnyJ_take0 (i := 13) (v := undef) rfl (by kernel_rfl) (by kernel_rfl) (by kernel_rfl) (fun _ _ _ h => h) (Or.inr ⟨by rfl, rfl⟩) ?_
          (try simp only [Act.put, List.getElem_toArray, List.getElem_cons_zero, List.getElem_cons_succ, List.setIfInBounds_toArray, List.set_cons_zero, List.set_cons_succ])
          refine wpAnyJ_take0 (i := 14) (v := ?_) rfl (by kernel_rfl) (by kernel_rfl) (by kernel_rfl) (fun _ _ _ h => h) (Or.inl ⟨by rfl, ?_⟩) ?_
          rotate_left
          focus ((intro w hSw; clear hSw; go_simp); try with_reducible rfl)
          (try simp only [Act.put, List.getElem_toArray, List.getElem_cons_zero, List.getElem_cons_succ, List.setIfInBounds_toArray, List.set_cons_zero, List.set_cons_succ])
          refine wpAnyJ_take0 (i := 15) (v := ?_) rfl (by kernel_rfl) (by kernel_rfl) (by kernel_rfl) (fun _ _ _ h => h) (Or.inl ⟨by rfl, ?_⟩) ?_
          rotate_left
          focus ((intro w hSw; clear hSw; go_simp); try with_reducible rfl)
          (try simp only [Act.put, List.getElem_toArray, List.getElem_cons_zero, List.getElem_cons_succ, List.setIfInBounds_toArray, List.set_cons_zero, List.set_cons_succ])
          refine wpAnyJ_take0 (i := 16) (v := ?_) rfl (by kernel_rfl) (by kernel_rfl) (by kernel_rfl) (fun _ _ _ h => h) (Or.inl ⟨by rfl, ?_⟩) ?_
          rotate_left
          focus ((intro w hSw; clear hSw; go_simp); try with_reducible rfl)
          (try simp only [Act.put, List.getElem_toArray, List.getElem_cons_zero, List.getElem_cons_succ, List.setIfInBounds_toArray, List.set_cons_zero, List.set_cons_succ])
          refine wpAnyJ_take0 (i := 17) (v := ?_) rfl (by kernel_rfl) (by kernel_rfl) (by kernel_rfl) (fun _ _ _ h => h) (Or.inl ⟨by rfl, ?_⟩) ?_
          rotate_left
          focus ((intro w hSw; clear hSw; go_simp); try with_reducible rfl)
          (try simp only [Act.put, List.getElem_toArray, List.getElem_cons_zero, List.getElem_cons_succ, List.setIfInBounds_toArray, List.set_cons_zero, List.set_cons_succ])
          refine wpAnyJ_take0 (i := 18) (v := ?_) rfl (by kernel_rfl) (by kernel_rfl) (by kernel_rfl) (fun _ _ _ h => h) (Or.inl ⟨by rfl, ?_⟩) ?_
          rotate_left
          focus ((intro w hSw; clear hSw; go_simp); try with_reducible rfl)
          (try simp only [Act.put, List.getElem_toArray, List.getElem_cons_zero, List.getElem_cons_succ, List.setIfInBounds_toArray, List.set_cons_zero, List.set_cons_succ])
          refine wpAnyJ_take (i := 19) (v := ?_) rfl (by kernel_rfl) (by kernel_rfl) (by kernel_rfl) (by kernel_rfl) (fun _ _ _ h => h) (Or.inl ⟨by rfl, ?_⟩) (by assumption) ?_
          rotate_left
          focus ((intro w hSw; (try dsimp only at hSw); go_simp); try with_reducible rfl)
          (try simp only [Act.put, List.getElem_toArray, List.getElem_cons_zero, List.getElem_cons_succ, List.setIfInBounds_toArray, List.set_cons_zero, List.set_cons_succ])
          refine wpAnyJ_take0 (i := 20) (v := ?_) rfl (by kernel_rfl) (by kernel_rfl) (by kernel_rfl) (fun _ _ _ h => h) (Or.inl ⟨by rfl, ?_⟩) ?_
          rotate_left
          focus ((intro w hSw; clear hSw; go_simp); try with_reducible rfl)
          (try simp only [Act.put, List.getElem_toArray, List.getElem_cons_zero, List.getElem_cons_succ, List.setIfInBounds_toArray, List.set_cons_zero, List.set_cons_succ])
          refine wpAnyJ_take0 (i := 21) (v := ?_) rfl (by kernel_rfl) (by kernel_rfl) (by kernel_rfl) (fun _ _ _ h => h) (Or.inl ⟨by rfl, ?_⟩) ?_
          rotate_left
          focus ((intro w hSw; clear hSw; go_simp); try with_reducible rfl)
          (try simp only [Act.put, List.getElem_toArray, List.getElem_cons_zero, List.getElem_cons_succ, List.setIfInBounds_toArray, List.set_cons_zero, List.set_cons_succ])
          refine wpAnyJ_take0 (i := 22) (v := ?_) rfl (by kernel_rfl) (by kernel_rfl) (by kernel_rfl) (fun _ _ _ h => h) (Or.inl ⟨by rfl, ?_⟩) ?_
          rotate_left
          focus ((intro w hSw; clear hSw; go_simp); try with_reducible rfl)
          (try simp only [Act.put, List.getElem_toArray, List.getElem_cons_zero, List.getElem_cons_succ, List.setIfInBounds_toArray, List.set_cons_zero, List.set_cons_succ])
          refine wpAnyJ_take0 (i := 23) (v := ?_) rfl (by kernel_rfl) (by kernel_rfl) (by kernel_rfl) (fun _ _ _ h => h) (Or.inl ⟨by rfl, ?_⟩) ?_
          rotate_left
          focus ((intro w hSw; clear hSw; go_simp); try with_reducible rfl)
          (try simp only [Act.put, List.getElem_toArray, List.getElem_cons_zero, List.getElem_cons_succ, List.setIfInBounds_toArray, List.set_cons_zero, List.set_cons_succ])
          refine wpAnyJ_take (i := 24) (v := ?_) rfl (by kernel_rfl) (by kernel_rfl) (by kernel_rfl) (by kernel_rfl) (fun _ _ _ h => h) (Or.inl ⟨by rfl, ?_⟩) (by assumption) ?_
          rotate_left
          focus ((intro w hSw; (try dsimp only at hSw); go_simp); try with_reducible rfl)
          (try simp only [Act.put, List.getElem_toArray, List.getElem_cons_zero, List.getElem_cons_succ, List.setIfInBounds_toArray, List.set_cons_zero, List.set_cons_succ])
          refine wpAnyJ_take0 (i := 25) (v := ?_) rfl (by kernel_rfl) (by kernel_rfl) (by kernel_rfl) (fun _ _ _ h => h) (Or.inl ⟨by rfl, ?_⟩) ?_
          rotate_left
          focus ((intro w hSw; clear hSw; go_simp); try with_reducible rfl)
          (try simp only [Act.put, List.getElem_toArray, List.getElem_cons_zero, List.getElem_cons_succ, List.setIfInBounds_toArray, List.set_cons_zero, List.set_cons_succ])
          refine wpAnyJ_take0 (i := 26) (v := ?_) rfl (by kernel_rfl) (by kernel_rfl) (by kernel_rfl) (fun _ _ _ h => h) (Or.inl ⟨by rfl, ?_⟩) ?_
          rotate_left
          focus ((intro w hSw; clear hSw; go_simp); try with_reducible rfl)
          (try simp only [Act.put, List.getElem_toArray, List.getElem_cons_zero, List.getElem_cons_succ, List.setIfInBounds_toArray, List.set_cons_zero, List.set_cons_succ])
          refine wpAnyJ_take0 (i := 27) (v := ?_) rfl (by kernel_rfl) (by kernel_rfl) (by kernel_rfl) (fun _ _ _ h => h) (Or.inl ⟨by rfl, ?_⟩) ?_
          rotate_left
          focus ((intro w hSw; clear hSw; go_simp); try with_reducible rfl)
          (try simp only [Act.put, List.getElem_toArray, List.getElem_cons_zero, List.getElem_cons_succ, List.setIfInBounds_toArray, List.set_cons_zero, List.set_cons_succ])
          refine wpAnyJ_take0 (i := 28) (v := ?_) rfl (by kernel_rfl) (by kernel_rfl) (by kernel_rfl) (fun _ _ _ h => h) (Or.inl ⟨by rfl, ?_⟩) ?_
          rotate_left
          focus ((intro w hSw; clear hSw; go_simp); try with_reducible rfl)
          (try simp only [Act.put, List.getElem_toArray, List.getElem_cons_zero, List.getElem_cons_succ, List.setIfInBounds_toArray, List.set_cons_zero, List.set_cons_succ])
          refine wpAnyJ_take0 (i := 29) (v := ?_) rfl (by kernel_rfl) (by kernel_rfl) (by kernel_rfl) (fun _ _ _ h => h) (Or.inl ⟨by rfl, ?_⟩) ?_
          rotate_left
          focus ((intro w hSw; clear hSw; go_simp); try with_reducible rfl)
          (try simp only [Act.put, List.getElem_toArray, List.getElem_cons_zero, List.getElem_cons_succ, List.setIfInBounds_toArray, List.set_cons_zero, List.set_cons_succ])
          refine wpAnyJ_done (by kernel_rfl) ?_ _
          refine NoPanic.normal ?_
          go_wp2_with fail
          exact HQ.out _ HSB.out
end Go.Proofs.Ytjoopjmcnkiieaa

/- Right. Conditions: the tree is there and as it must be. -/
namespace Go.Proofs.Ytjoopjmcnkiieaa
open Go.RowKit Go.Lib Go.Maps
set_option linter.unusedSimpArgs false
set_option linter.unusedVariables false

theorem right_f {o tb : Nat} (ho3 : 3 ≤ o) (ho2 : o ≤ 64) : ∀ {d : Nat} {lo hi : Option ByteArray} {w : World} {t : Tr}, d ≤ 1000000 → mem d w t → (∀ k, fp d t k ≤ 1) → inv o d (lst o d) o lo hi t → w.cell? ⟨tb, 0, none⟩ = some (.int .i64 o) →
    Calls Try.prog 37 #[.pointer (some ⟨tb, 0, none⟩), .pointer (some ⟨t.p, 0, none⟩), .string (bs lo), .string (bs hi), .int .i64 ((d : Int) + 1), .bool false] w (RightP w) := by
  intro d
  induction d with
  | zero =>
    intro lo hi w t _ hm h1 hv ho
    exact right_leaf_f ho3 ho2 hm h1 hv (Nat.le_refl _) (inv_len hv).1 ho
  | succ d ih =>
    intro lo hi w t hd hm h1 hv ho
    have h2 := right_fork_f ho3 ho2 hm h1 hv (Nat.le_refl _) (inv_len hv).1 (by omega) ho (fun lo hi c u hmu h1u hvu hs => ih (by omega) hmu h1u hvu (by rw [← hs.cell]; exact ho))
    rw [show ((d : Int) + 2) = (((d + 1 : Nat) : Int) + 1) from by omega] at h2
    exact h2
theorem right_t {o tb : Nat} (ho3 : 3 ≤ o) (ho2 : o ≤ 64) {d a : Nat} {w : World} {t : Tr} (hd : d ≤ 1000000) (hm : mem d w t) (h1 : ∀ k, fp d t k ≤ 1) (hv : inv o d a o none none t) (ho : w.cell? ⟨tb, 0, none⟩ = some (.int .i64 o)) :
    Calls Try.prog 37 #[.pointer (some ⟨tb, 0, none⟩), .pointer (some ⟨t.p, 0, none⟩), .string ⟨#[]⟩, .string ⟨#[]⟩, .int .i64 ((d : Int) + 1), .bool true] w (RightP w) := by
  cases d with
  | zero => exact right_leaf_t (lo := none) (hi := none) ho3 ho2 hm h1 hv (Nat.le_refl _) ho
  | succ d =>
    have h2 := right_fork_t (lo := none) (hi := none) ho3 ho2 hm h1 hv (Nat.le_refl _) (by omega) ho (fun lo hi c u hmu h1u hvu hs => right_f ho3 ho2 (by omega) hmu h1u hvu (by rw [← hs.cell]; exact ho))
    rw [show ((d : Int) + 2) = (((d + 1 : Nat) : Int) + 1) from by omega] at h2
    exact h2
set_option maxRecDepth 100000 in
set_option maxHeartbeats 4000000 in
theorem tright_any {w : World} {o tb : Nat} {F : Nat → Nat} {l : List (ByteArray × Int)} {Hh : List ByteArray} (ho3 : 3 ≤ o) (ho2 : o ≤ 64) (h : IsTree w o tb F l Hh) (hl : l.length ≤ 1000000) :
    Calls Try.prog 22 #[.pointer (some ⟨tb, 0, none⟩)] w (RightP w) := by
  obtain ⟨d, t, mb, hb, hm, hv, hfl, hM, hF, h1⟩ := h
  have hok := depth_ok hv
  rw [hfl] at hok
  have hd := depth_le ho3 hok
  have h1t : ∀ k, fp d t k ≤ 1 := fun k => by have h2 := h1 k; rw [hF] at h2; omega
  have dr := hb.cell (i := 1) rfl
  have HD := Lib.hid (depth_any (tb := tb) (w := w.drew) ho2 (mem_heap hm rfl) hv (Nat.le_refl _) (by omega) dr)
  have HR := Lib.hid (right_t (tb := tb) (w := w.drew) ho3 ho2 (by omega) (mem_heap hm rfl) h1t hv (hb.cell (i := 0) rfl))
  obtain ⟨p, hp⟩ : ∃ p, t.p = p := ⟨_, rfl⟩
  rw [hp] at dr HR
  obtain ⟨Q, hQ⟩ : ∃ Q, RightP w = Q := ⟨_, rfl⟩
  have HQ : Hid (∀ u, Same4 w.drew u → Q (.returned (.bool true)) u) := Lib.hid (fun u hb => by rw [← hQ]; exact ⟨rfl, hb⟩)
  rw [hQ]
  clear hb hm hv hfl hM hF h1 hok hd h1t hp hQ
  go_enter Try.func22, Try.ntmps22
  go_wp2_with fail
  refine wp_region_noPanic ?_
  refine wp_region_J (S := fun u : World => u.cell? ⟨tb, 1, none⟩ = some (.pointer (some ⟨p, 0, none⟩))) (fun _ => false) (by kernel_rfl) ?_
  have hHeld : (fun u : World => u.cell? ⟨tb, 1, none⟩ = some (.pointer (some ⟨p, 0, none⟩))) w.drew := dr
  refine wpAnyJ_take0 (i := 0) (v := ?_) rfl (by kernel_rfl) (by kernel_rfl) (by kernel_rfl) (fun _ _ _ h => h) (Or.inl ⟨by rfl, ?_⟩) ?_
  rotate_left
  focus ((intro w hSw; clear hSw; go_simp); try with_reducible rfl)
  (try simp only [Act.put, List.getElem_toArray, List.getElem_cons_zero, List.getElem_cons_succ, List.setIfInBounds_toArray, List.set_cons_zero, List.set_cons_succ])
  refine wpAnyJ_take0 (i := 1) (v := ?_) rfl (by kernel_rfl) (by kernel_rfl) (by kernel_rfl) (fun _ _ _ h => h) (Or.inl ⟨by rfl, ?_⟩) ?_
  rotate_left
  focus ((intro w hSw; clear hSw; go_simp); try with_reducible rfl)
  (try simp only [Act.put, List.getElem_toArray, List.getElem_cons_zero, List.getElem_cons_succ, List.setIfInBounds_toArray, List.set_cons_zero, List.set_cons_succ])
  refine wpAnyJ_take0 (i := 2) (v := ?_) rfl (by kernel_rfl) (by kernel_rfl) (by kernel_rfl) (fun _ _ _ h => h) (Or.inl ⟨by rfl, ?_⟩) ?_
  rotate_left
  focus ((intro w hSw; clear hSw; go_simp); try with_reducible rfl)
  (try simp only [Act.put, List.getElem_toArray, List.getElem_cons_zero, List.getElem_cons_succ, List.setIfInBounds_toArray, List.set_cons_zero, List.set_cons_succ])
  refine wpAnyJ_take0 (i := 3) (v := ?_) rfl (by kernel_rfl) (by kernel_rfl) (by kernel_rfl) (fun _ _ _ h => h) (Or.inl ⟨by rfl, ?_⟩) ?_
  rotate_left
  focus ((intro w hSw; clear hSw; go_simp); try with_reducible rfl)
  (try simp only [Act.put, List.getElem_toArray, List.getElem_cons_zero, List.getElem_cons_succ, List.setIfInBounds_toArray, List.set_cons_zero, List.set_cons_succ])
  refine wpAnyJ_take (i := 4) (v := ?_) rfl (by kernel_rfl) (by kernel_rfl) (by kernel_rfl) (by kernel_rfl) (fun _ _ _ h => h) (Or.inl ⟨by rfl, ?_⟩) (by assumption) ?_
  rotate_left
  focus ((intro w hSw; (try dsimp only at hSw); go_simp); try with_reducible rfl)
  (try simp only [Act.put, List.getElem_toArray, List.getElem_cons_zero, List.getElem_cons_succ, List.setIfInBounds_toArray, List.set_cons_zero, List.set_cons_succ])
  refine wpAnyJ_take0 (i := 5) (v := ?_) rfl (by kernel_rfl) (by kernel_rfl) (by kernel_rfl) (fun _ _ _ h => h) (Or.inl ⟨by rfl, ?_⟩) ?_
  rotate_left
  focus ((intro w hSw; clear hSw; go_simp); try with_reducible rfl)
  (try simp only [Act.put, List.getElem_toArray, List.getElem_cons_zero, List.getElem_cons_succ, List.setIfInBounds_toArray, List.set_cons_zero, List.set_cons_succ])
  refine wpAnyJ_ready (rs := [6]) (by kernel_rfl) (by simp) ?_
  refine AllReadyJ.cons rfl (fun KK hKK => ?_) AllReadyJ.nil
  go_simp
  go_at_call 24
  refine HD.out.mono ?_
  rintro e u1 ⟨rfl, rfl⟩
  refine hKK.out _ _ (fun _ h => h) ?_
  clear hKK KK
  (try simp only [Act.put, List.getElem_toArray, List.getElem_cons_zero, List.getElem_cons_succ, List.setIfInBounds_toArray, List.set_cons_zero, List.set_cons_succ])
  refine wpAnyJ_ready (rs := [7]) (by kernel_rfl) (by simp) ?_
  refine AllReadyJ.cons rfl (fun KK hKK => ?_) AllReadyJ.nil
  go_simp
  go_at_call 37
  refine HR.out.mono ?_
  rintro e u1 ⟨rfl, hs⟩
  have hH2 : (fun u : World => u.cell? ⟨tb, 1, none⟩ = some (.pointer (some ⟨p, 0, none⟩))) u1 := (show u1.cell? ⟨tb, 1, none⟩ = _ from by rw [← hs.cell]; exact hHeld)
  have HS := Lib.hid hs
  clear hs
  refine hKK.out _ _ (fun _ _ => hH2) ?_
  clear hKK KK
  (try simp only [Act.put, List.getElem_toArray, List.getElem_cons_zero, List.getElem_cons_succ, List.setIfInBounds_toArray, List.set_cons_zero, List.set_cons_succ])
  refine wpAnyJ_take0 (i := 8) (v := ?_) rfl (by kernel_rfl) (by kernel_rfl) (by kernel_rfl) (fun _ _ _ h => h) (Or.inl ⟨by rfl, ?_⟩) ?_
  rotate_left
  focus ((intro w hSw; clear hSw; go_simp); try with_reducible rfl)
  (try simp only [Act.put, List.getElem_toArray, List.getElem_cons_zero, List.getElem_cons_succ, List.setIfInBounds_toArray, List.set_cons_zero, List.set_cons_succ])
  refine wpAnyJ_done (by kernel_rfl) ?_ _
  refine NoPanic.normal ?_
  go_wp2_with fail
  exact HQ.out _ HS.out
end Go.Proofs.Ytjoopjmcnkiieaa

/- Keys that came in. Conditions: none. -/
namespace Go.Proofs.Ytjoopjmcnkiieaa
open Go.RowKit Go.Lib Go.Maps
set_option linter.unusedSimpArgs false
set_option linter.unusedVariables false

theorem mem_insF {key : ByteArray} {x : Int} {l : List (ByteArray × Int)} {e : ByteArray × Int} : e ∈ insF key x l ↔ e = (key, x) ∨ (e ∈ l ∧ e.1 ≠ key) := by
  unfold insF
  rw [List.mem_append, List.mem_cons, List.mem_filter, List.mem_filter]
  constructor
  · rintro (⟨h1, h2⟩ | h | ⟨h1, h2⟩)
    · exact .inr ⟨h1, ltS_ne h2⟩
    · exact .inl h
    · exact .inr ⟨h1, (ltS_ne h2).symm⟩
  · rintro (h | ⟨h1, h2⟩)
    · exact .inr (.inl h)
    · rcases ltS_tri e.1 key with h3 | h3 | h3
      · exact .inl ⟨h1, h3⟩
      · exact absurd h3 h2
      · exact .inr (.inr ⟨h1, h3⟩)
/-- A key that came in. -/
structure Key25 where
  k : ByteArray
  hk : k.size ≤ maxLen
def Key25.cells (o : Key25) : List Value := [.string o.k]
theorem keysOpen {H : Type} {enc : TypeId × Value → H} {w : World} {base : Nat} {spare : Nat → Bool} {held : Bool} {fuel : Nat} {a : Option Addr} {len cap : Nat} {x : DataW H × List MemPlace}
    (h : DataW.trod enc Try.prog w base spare held fuel 27 [.slice a len cap] = some x) : ∃ os : List Key25, os.length = len ∧ len ≤ cap ∧ cap ≤ maxLen ∧ (a = none → cap = 0) ∧ (∀ o ∈ os, (Key25.cells o).length = 1) ∧ Cells w.heap.size w a (os.flatMap Key25.cells) := by
  have h1 := Try.underlying27
  have h2 : Try.prog.cellsOf 9 = 1 := by kernel_rfl
  refine open_rows Key25.cells 1 h1 h2 (fun n cs y hl hy => ?_) h
  obtain ⟨s, rfl, _, hs⟩ := DataW.trod_string Try.underlying9 hy
  exact ⟨⟨s, hs⟩, rfl⟩
theorem key_cell {W : World} {a0 : Option Addr} {os : List Key25} (hrow : Cells W.heap.size W a0 (os.flatMap Key25.cells)) : ∀ {j : Nat} {o : Key25}, os[j]? = some o →
    ∃ b off, a0 = some ⟨b, off, none⟩ ∧ ∀ u, Below W.heap.size W u → u.cell? ⟨b, off + j, none⟩ = some (.string o.k) := by
  intro j o ho
  obtain ⟨b, off, rfl, hb, hc⟩ := Cells.elem (size := 1) hrow (fun _ _ => rfl) (by omega) ho
  refine ⟨b, off, rfl, fun u hu => ?_⟩
  rw [hu.cell hb, show off + j = off + (j * 1 + 0) from by omega]; exact hc 0 _ rfl
end Go.Proofs.Ytjoopjmcnkiieaa

/- IndexEmpties: when all keys are taken away nothing is left. Conditions: the keys can be read. -/
namespace Go.Proofs.Ytjoopjmcnkiieaa
open Go.RowKit Go.Lib Go.Maps
set_option linter.unusedSimpArgs false
set_option linter.unusedVariables false

theorem getF_has (key : ByteArray) (l : List (ByteArray × Int)) : (getF key l).isSome = hasF key l := by
  induction l with
  | nil => rfl
  | cons e r ih =>
    rw [getF_cons, hasF_cons, ← ih]
    by_cases h : e.1 = key
    · rw [if_pos h, decide_eq_true h]; rfl
    · rw [if_neg h, decide_eq_false h]; rfl
theorem mem_delF {key : ByteArray} {l : List (ByteArray × Int)} {e : ByteArray × Int} (h : e ∈ delF key l) : e ∈ l ∧ e.1 ≠ key := by
  unfold delF at h
  rw [List.mem_filter] at h
  exact ⟨h.1, by simpa using h.2⟩
theorem OT.right {w u : World} {o tb : Nat} {l : List (ByteArray × Int)} {H : List ByteArray} (h : OT w o tb l H u) (ho3 : 3 ≤ o) (ho2 : o ≤ 64) (hl : l.length ≤ 1000000) :
    Calls Try.prog 22 #[.pointer (some ⟨tb, 0, none⟩)] u fun e w' => e = .returned (.bool true) ∧ OT w o tb l H w' := by
  have h0 := h
  obtain ⟨F, h1, hB⟩ := h
  refine (tright_any ho3 ho2 h1 hl).mono ?_
  rintro e w' ⟨rfl, hs⟩
  exact ⟨rfl, h0.same ⟨hs.2.1.symm, hs.2.2.1.symm, hs.2.2.2.symm, by rw [hs.1]; exact Nat.le_refl _, fun k _ => by rw [hs.1]⟩⟩
theorem OT.pair {w u : World} {o tb : Nat} {l : List (ByteArray × Int)} {H : List ByteArray} (h : OT w o tb l H u) : l.Pairwise ltP := by
  obtain ⟨F, h1, _⟩ := h
  exact h1.pair
/-- Filling: what is there is one of the keys. -/
structure FillAt (W : World) (o tb : Nat) (os : List Key25) (i : Nat) (u : World) : Prop where
  t : ∃ l H, OT W o tb l H u ∧ l.length ≤ i ∧ H.length ≤ i ∧ ∀ e ∈ l, ∃ k ∈ os, e.1 = k.k
/-- Emptying: what is there is a key whose turn is still to come. -/
structure EmptyAt (W : World) (o tb : Nat) (os : List Key25) (n r i : Nat) (u : World) : Prop where
  t : ∃ l H, OT W o tb l H u ∧ l.length ≤ n ∧ H.length ≤ n + i ∧ ∀ e ∈ l, (∃ k ∈ os, e.1 = k.k) ∧ ∀ (j : Nat) k, j < i → os[(j + r) % n]? = some k → e.1 ≠ k.k
theorem if_len (was : Bool) (k : ByteArray) (H : List ByteArray) {n : Nat} (h : H.length + 1 ≤ n) : (if was then k :: H else H).length ≤ n := by
  cases was with
  | true => exact h
  | false => exact Nat.le_of_succ_le h
theorem turn_all {n r m : Nat} (hr : r < n) (hm : m < n) : ∃ j, j < n ∧ (j + r) % n = m := by
  by_cases h : r ≤ m
  · exact ⟨m - r, by omega, by rw [show m - r + r = m from by omega]; exact Nat.mod_eq_of_lt hm⟩
  · exact ⟨m + n - r, by omega, by rw [show m + n - r + r = m + n from by omega, Nat.add_mod_right]; exact Nat.mod_eq_of_lt hm⟩
set_option maxRecDepth 100000 in
set_option maxHeartbeats 16000000 in
theorem empties_any (n : Int) (a0 : Option Addr) (cap0 : Nat) (os : List Key25) (turn : Int) (W : World) (hrow : Cells W.heap.size W a0 (os.flatMap Key25.cells)) :
    Calls Try.prog 8 #[.int .i64 n, .slice a0 os.length cap0, .int .i64 turn] W fun e w' => e = .returned (.bool true) ∧ Below W.heap.size W w' := by
  obtain ⟨Q, hQ⟩ : ∃ Q, (fun (e : Ending) (w' : World) => e = .returned (.bool true) ∧ Below W.heap.size W w') = Q := ⟨_, rfl⟩
  have HQ : Hid (∀ u, Below W.heap.size W u → Q (.returned (.bool true)) u) := Lib.hid (fun u hb => by rw [← hQ]; exact ⟨rfl, hb⟩)
  rw [hQ]
  have HO := Lib.hid (order_any n)
  obtain ⟨ho3, ho2⟩ := ordN_ok n
  generalize ordN n = o at *
  have HN := Lib.hid (ot_new ho3 ho2 W)
  have HROW := Lib.hid hrow
  have HW := Lib.hid works_any
  have HWE : Hid (∀ u, Below W.heap.size W u → Calls Try.prog 12 #[] u fun e w' => e = .returned (.bool true) ∧ Below W.heap.size W w') := Lib.hid (fun u hb => (HW.out u).mono (by rintro e w' ⟨rfl, h2⟩; exact ⟨rfl, hb.trans (h2.mono hb.size)⟩))
  obtain ⟨ln, hln⟩ : ∃ ln, os.length = ln := ⟨_, rfl⟩
  rw [hln]
  have HLN := Lib.hid hln
  clear hQ hrow HW hln
  by_cases hbig : 400 < ln
  · have hbig' : (400 : Int) < ln := by omega
    go_enter Try.func8, Try.ntmps8
    go_wp2_with (first
      | (go_at_call 14; refine (HO.out _).mono ?_; rintro e w1 ⟨rfl, rfl⟩)
      | (go_at_call 13; refine HN.out.mono ?_; clear HN; rintro e w1 ⟨tb, rfl, h1⟩; have H1 := Lib.hid h1; clear h1)
      | (go_at_call 12; refine (HWE.out _ H1.out.bel).mono ?_; clear HWE; rintro e w3 ⟨rfl, h3⟩; have H3 := Lib.hid h3; clear h3))
    exact HQ.out _ H3.out
  · have hbig' : ¬ (400 : Int) < ln := by omega
    have hl4 : ln ≤ 400 := by omega
    go_enter Try.func8, Try.ntmps8
    go_wp2_with (first
      | (go_at_call 14; refine (HO.out _).mono ?_; rintro e w1 ⟨rfl, rfl⟩)
      | (go_at_call 13; refine HN.out.mono ?_; clear HN; rintro e w1 ⟨tb, rfl, h1⟩; have H1 := Lib.hid h1; clear h1))
    have H0 : Hid (FillAt W o tb os 0 w1) := Lib.hid ⟨[], [], H1.out, Nat.le_refl _, Nat.le_refl _, fun e he => by cases he⟩
    clear H1
    go_loopw [9] (fun iv wr => ∃ i : Nat, iv = .int .i64 i ∧ i ≤ ln ∧ Hid (FillAt W o tb os i wr)) (fun iv _ => ln - (intOf iv).toNat)
    case atStart => exact ⟨0, rfl, by omega, H0⟩
    case round =>
      clear H0
      obtain ⟨i, rfl, hi, HS⟩ := hrel
      have hi0 : (0 : Int) ≤ i := by omega
      obtain ⟨l, H, hT, hll, hHH, hmem⟩ := HS.out.t
      have HT := Lib.hid hT
      by_cases hlt : i < ln
      · have hlt' : (i : Int) < ln := by omega
        obtain ⟨k, hk⟩ : ∃ k, os[i]? = some k := get_some (by have := HLN.out; omega)
        obtain ⟨b, off, rfl, hc⟩ := key_cell HROW.out hk
        have c1 := hc wr HT.out.bel
        have hj1 : IntKind.i64.wrap ((i : Int) + 1) = (i : Int) + 1 := IntWalk.i64_in _ (by omega)
        have HP := Lib.hid (OT.put (key := k.k) (x := (i : Int)) HT.out ho3 ho2 (by omega) (by omega) k.hk)
        have HNX : Hid (∀ u, OT W o tb (insF k.k (i : Int) l) (k.k :: H) u → FillAt W o tb os (i + 1) u) := Lib.hid (fun u h => ⟨_, _, h, by have := insF_len_le k.k (i : Int) l HT.out.pair; omega, by simp; omega, fun e he => by
          rcases mem_insF.1 he with rfl | ⟨h1, _⟩
          · exact ⟨k, List.mem_of_getElem? hk, rfl⟩
          · exact hmem e h1⟩)
        clear hk hc hT hll hHH hmem HS
        go_wp2_with (go_at_call 15; refine HP.out.mono ?_; clear HP; rintro e w3 ⟨rfl, h3⟩; have H3 := Lib.hid (HNX.out _ h3); clear h3)
        go_roundw
        case rel => exact ⟨i + 1, by go_num, by omega, H3⟩
        case measure => simp [intOf]; omega
      · have hlt' : ¬ (i : Int) < ln := by omega
        obtain rfl : i = ln := by omega
        obtain ⟨q, hq⟩ := wrap_nat turn
        obtain ⟨r, hr⟩ : ∃ r, q % i = r := ⟨_, rfl⟩
        have HE0 : Hid (EmptyAt W o tb os i r 0 wr) := Lib.hid ⟨l, H, hT, hll, by omega, fun e he => ⟨hmem e he, fun j k hj => absurd hj (Nat.not_lt_zero _)⟩⟩
        have HR := Lib.hid hr
        have HQW := Lib.hid hq
        clear hT hll hHH hmem HS HT hlt hlt' hi hi0 hr hq
        go_wp2_with fail
        go_loopw [10] (fun iv wr => ∃ j : Nat, iv = .int .i64 j ∧ j ≤ i ∧ Hid (EmptyAt W o tb os i r j wr)) (fun iv _ => i - (intOf iv).toNat)
        case atStart => exact ⟨0, rfl, by omega, HE0⟩
        case round =>
          clear HE0
          obtain ⟨j, rfl, hj, HS⟩ := hrel
          have hj0 : (0 : Int) ≤ j := by omega
          obtain ⟨l, H, hT, hll, hHH, hmem⟩ := HS.out.t
          have HT := Lib.hid hT
          by_cases hlt : j < i
          · have hlt' : (j : Int) < i := by omega
            have hi1 : 0 < i := by omega
            have hrl : r < i := by have := Nat.mod_lt q hi1; have := HR.out; omega
            obtain ⟨m, hm⟩ : ∃ m, (j + r) % i = m := ⟨_, rfl⟩
            have hml : m < i := by rw [← hm]; exact Nat.mod_lt _ hi1
            have hml' : (m : Int) < i := by omega
            have hm0 : (0 : Int) ≤ m := by omega
            have hqw := HQW.out
            have hiu : IntKind.u64.wrap (i : Int) = i := by simp only [IntKind.wrap, IntKind.signed, IntKind.bits]; exact Int.emod_eq_of_lt (by omega) (by omega)
            have hin0 : ((i : Int) == 0) = false := by simp; omega
            have hin1 : ¬ (i : Int) = 0 := by omega
            have hm1 : (q : Int).tmod (i : Int) = (r : Int) := by rw [Int.tmod_eq_emod_of_nonneg (by omega)]; have := HR.out; rw [← this]; simp
            have hm1' : (q : Int) % (i : Int) = (r : Int) := by have := HR.out; rw [← this]; simp
            have hru : IntKind.u64.wrap (r : Int) = r := by simp only [IntKind.wrap, IntKind.signed, IntKind.bits]; exact Int.emod_eq_of_lt (by omega) (by omega)
            have hri : IntKind.i64.wrap (r : Int) = r := IntWalk.i64_in _ (by omega)
            have hjr : IntKind.i64.wrap ((j : Int) + r) = (j : Int) + r := IntWalk.i64_in _ (by omega)
            have hm2 : ((j : Int) + r).tmod (i : Int) = (m : Int) := by rw [Int.tmod_eq_emod_of_nonneg (by omega), ← hm]; simp
            have hm2' : ((j : Int) + r) % (i : Int) = (m : Int) := by rw [← hm]; simp
            have hmi : IntKind.i64.wrap (m : Int) = m := IntWalk.i64_in _ (by omega)
            obtain ⟨s, hs⟩ : ∃ s, j % 7 = s := ⟨_, rfl⟩
            have hs7 : s < 7 := by omega
            have hm3 : (j : Int).tmod 7 = (s : Int) := by rw [Int.tmod_eq_emod_of_nonneg (by omega)]; omega
            have hm3' : (j : Int) % 7 = (s : Int) := by omega
            have hsi : IntKind.i64.wrap (s : Int) = s := IntWalk.i64_in _ (by omega)
            obtain ⟨k, hk⟩ : ∃ k, os[m]? = some k := get_some (by have := HLN.out; omega)
            obtain ⟨b, off, rfl, hc⟩ := key_cell HROW.out hk
            have c1 := hc wr HT.out.bel
            have hj1 : IntKind.i64.wrap ((j : Int) + 1) = (j : Int) + 1 := IntWalk.i64_in _ (by omega)
            obtain ⟨gv, hgv⟩ : ∃ gv, (getF k.k l).getD 0 = gv := ⟨_, rfl⟩
            obtain ⟨was, hwas⟩ : ∃ was, hasF k.k l = was := ⟨_, rfl⟩
            have HG : Hid (Calls Try.prog 25 #[.pointer (some ⟨tb, 0, none⟩), .string k.k] wr fun e w' => e = .returned (.tuple #[.int .i64 gv, .bool was]) ∧ OT W o tb l H w') := Lib.hid (by
              have := OT.get (key := k.k) HT.out ho2
              rw [getF_has, hgv, hwas] at this
              exact this)
            have HD : Hid (∀ u, OT W o tb l H u → Calls Try.prog 26 #[.pointer (some ⟨tb, 0, none⟩), .string k.k] u fun e w' => e = .returned (.bool was) ∧ OT W o tb (delF k.k l) (if was then k.k :: H else H) w') := Lib.hid (fun u h => by
              have := OT.del (key := k.k) h ho3 ho2 (by omega) (by omega) k.hk
              rw [hwas] at this
              exact this)
            have hdl := delF_len_le k.k l
            have HRT : Hid (∀ u, OT W o tb (delF k.k l) (if was then k.k :: H else H) u → Calls Try.prog 22 #[.pointer (some ⟨tb, 0, none⟩)] u fun e w' => e = .returned (.bool true) ∧ OT W o tb (delF k.k l) (if was then k.k :: H else H) w') := Lib.hid (fun u h => OT.right h ho3 ho2 (by omega))
            have HNX : Hid (∀ u, OT W o tb (delF k.k l) (if was then k.k :: H else H) u → EmptyAt W o tb os i r (j + 1) u) := Lib.hid (fun u h => ⟨_, _, h, by omega, if_len was k.k H (by omega), fun e he => by
              obtain ⟨h1, h2⟩ := mem_delF he
              refine ⟨(hmem e h1).1, fun j' k' hj' hk' => ?_⟩
              rcases Nat.lt_or_ge j' j with h3 | h3
              · exact (hmem e h1).2 j' k' h3 hk'
              · have : j' = j := by omega
                subst this
                rw [hm, hk] at hk'
                injection hk' with hk'
                rw [← hk']; exact h2⟩)
            clear hk hc hT hll hHH hmem HS hm hgv hwas hdl hs
            rcases Nat.eq_zero_or_pos s with hs0 | hs0
            · subst hs0
              cases was <;>
              (go_wp2_with (first
                | (go_at_call 25; refine HG.out.mono ?_; clear HG; rintro e w3 ⟨rfl, h3⟩; have H3 := Lib.hid h3; clear h3)
                | (go_at_call 26; refine (HD.out _ H3.out).mono ?_; clear HD; rintro e w4 ⟨rfl, h4⟩; have H4 := Lib.hid h4; clear h4)
                | (go_at_call 22; refine (HRT.out _ H4.out).mono ?_; clear HRT; rintro e w5 ⟨rfl, h5⟩; have H5 := Lib.hid (HNX.out _ h5); clear h5))
               go_roundw
               case rel => exact ⟨j + 1, by go_num, by omega, H5⟩
               case measure => simp [intOf]; omega)
            · have hs1 : ((s : Int) == 0) = false := by simp; omega
              cases was <;>
              (go_wp2_with (first
                | (go_at_call 25; refine HG.out.mono ?_; clear HG; rintro e w3 ⟨rfl, h3⟩; have H3 := Lib.hid h3; clear h3)
                | (go_at_call 26; refine (HD.out _ H3.out).mono ?_; clear HD; rintro e w4 ⟨rfl, h4⟩; have H4 := Lib.hid (HNX.out _ h4); clear h4))
               go_roundw
               case rel => exact ⟨j + 1, by go_num, by omega, H4⟩
               case measure => simp [intOf]; omega)
          · have hlt' : ¬ (j : Int) < i := by omega
            obtain rfl : j = i := by omega
            have hl0 : l = [] := by
              cases hl : l with
              | nil => rfl
              | cons e rest =>
                exfalso
                obtain ⟨⟨k, hk, hek⟩, h2⟩ := hmem e (by rw [hl]; exact List.mem_cons_self)
                obtain ⟨m, hm⟩ := List.mem_iff_getElem?.1 hk
                have hml := (List.getElem?_eq_some_iff.1 hm).1
                have hln := HLN.out
                have hrl : r < j := by have := Nat.mod_lt q (show 0 < j by omega); have := HR.out; omega
                obtain ⟨t, ht, htm⟩ := turn_all hrl (show m < j by omega)
                exact h2 t k ht (by rw [htm]; exact hm) hek
            subst hl0
            have HA : Hid (∀ u, OT W o tb [] H u → Calls Try.prog 16 #[.pointer (some ⟨tb, 0, none⟩), .string ⟨#[]⟩, .string ⟨#[]⟩, .int .i64 0] u fun e w' => (∃ g c, e = .returned (.tuple #[.slice g 0 c, .bool true])) ∧ OT W o tb [] H w') := Lib.hid (fun u h => by
              have := OT.all (a := ⟨#[]⟩) (b := ⟨#[]⟩) (most := 0) h ho2 (by omega) (by simp)
              refine this.mono ?_
              rintro e w' ⟨⟨_, h1⟩, h2⟩
              refine ⟨?_, h2⟩
              rcases h1 with ⟨_, v, rfl, hr⟩ | ⟨h3, _⟩
              · obtain ⟨g, c, rfl⟩ := own_form' hr
                exact ⟨g, c, rfl⟩
              · exact absurd h3 (by simp [part]))
            have HL : Hid (∀ u, OT W o tb [] H u → Calls Try.prog 17 #[.pointer (some ⟨tb, 0, none⟩)] u fun e w' => e = .returned (.int .i64 0) ∧ u = w') := Lib.hid (fun u h => OT.len h)
            have HDP : Hid (∀ u, OT W o tb [] H u → Calls Try.prog 24 #[.pointer (some ⟨tb, 0, none⟩)] u fun e w' => e = .returned (.int .i64 1) ∧ u = w') := Lib.hid (fun u h => by
              refine (OT.depth h ho3 ho2 (by simp)).mono ?_
              rintro e w' ⟨d, rfl, ⟨_, h2⟩, rfl⟩
              have : d = 0 := by
                rcases Nat.eq_zero_or_pos d with h | h
                · exact h
                · have h3 := h2 h
                  have h4 : 1 ≤ (o / 2 + 1) ^ (d - 1) := Nat.one_le_pow _ _ (by omega)
                  have h5 : 2 * ((o + 1) / 2) * 1 ≤ 2 * ((o + 1) / 2) * (o / 2 + 1) ^ (d - 1) := Nat.mul_le_mul_left _ h4
                  simp at h3
                  omega
              subst this
              exact ⟨rfl, rfl⟩)
            have HRT : Hid (∀ u, OT W o tb [] H u → Calls Try.prog 22 #[.pointer (some ⟨tb, 0, none⟩)] u fun e w' => e = .returned (.bool true) ∧ OT W o tb [] H w') := Lib.hid (fun u h => OT.right h ho3 ho2 (by simp))
            clear hT hll hHH hmem HS
            go_wp2_with (first
              | (go_at_call 16; refine (HA.out _ HT.out).mono ?_; clear HA; rintro e w3 ⟨⟨g, c, rfl⟩, h3⟩; have H3 := Lib.hid h3; clear h3)
              | (go_at_call 17; refine (HL.out _ H3.out).mono ?_; clear HL; rintro e w4 ⟨rfl, rfl⟩)
              | (go_at_call 24; refine (HDP.out _ H3.out).mono ?_; clear HDP; rintro e w5 ⟨rfl, rfl⟩)
              | (go_at_call 22; refine (HRT.out _ H3.out).mono ?_; clear HRT; rintro e w6 ⟨rfl, h6⟩; have H6 := Lib.hid h6; clear h6)
              | (go_at_call 12; refine (HWE.out _ H6.out.bel).mono ?_; clear HWE; rintro e w7 ⟨rfl, h7⟩; have H7 := Lib.hid h7; clear h7))
            exact HQ.out _ H7.out
end Go.Proofs.Ytjoopjmcnkiieaa
