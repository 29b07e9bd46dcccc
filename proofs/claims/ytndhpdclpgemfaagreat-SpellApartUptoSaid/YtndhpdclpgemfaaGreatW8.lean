/- Parts X26 of this seat (pruned, scripts that are alike kept once as default arguments: q1, q2, ..). Conditions: each says its own. -/
import Derived.Test.YtndhpdclpgemfaaGreatW7
namespace Go.Proofs.YtndhpdclpgemfaaGreat
open Go.RowKit Go.Shelf
set_option linter.unusedSimpArgs false
set_option linter.unusedVariables false
set_option maxRecDepth 100000
inductive Part where
  | ex (t : Ex)
  | nm (s : ByteArray)
  | pt (p : Ptt)
  | it (i : Itt)
  | so (s : Sot)
  | si (s : Sit) (set : Bool)
def IsPart (B : Nat) (w : World) : Value → Part → Prop
  | v, .ex t => ∃ cs, v = .iface 93 (.agg (List.toArray cs)) ∧ IsX B w cs t
  | v, .nm s => v = .iface 122 (.string s)
  | v, .pt p => ∃ cs, v = .iface 111 (.agg (List.toArray cs)) ∧ IsPt B w cs p
  | v, .it i => ∃ cs, v = .iface 116 (.agg (List.toArray cs)) ∧ IsIt B w cs i
  | v, .so s => ∃ cs, v = .iface 119 (.agg (List.toArray cs)) ∧ IsSo B w cs s
  | v, .si s set => ∃ cs, v = .iface 126 (.agg (List.toArray (cs ++ [Value.bool set]))) ∧ IsSi B w cs s
def wtPart : Part → Nat
  | .ex t => wtX t
  | .nm s => s.size
  | .pt p => wtPt p
  | .it i => wtIt i
  | .so s => wtSo s
  | .si s _ => wtSi s
def partM : Part → Bool
  | .ex t => deepB 32 t
  | .nm s => plainB s
  | .pt p => pathM p
  | .it i => itemM i
  | .so s => sortM s
  | .si s set => setM s set
def partX : Part → List UInt8
  | .ex t => textX t
  | .nm s => s.data.toList
  | .pt p => pathX p
  | .it i => itemX i
  | .so s => sortX s
  | .si s set => setX s set
theorem fresh_bld (w : World) : Bld w.heap.size w.heap.size [] (w.alloc (.cells #[.pointer none, .slice none 0 0] 74)) := by
 have := Lib.IsBuilderF.of (Lib.fresh_isBuilder 74 5 w)
 unfold Bld
 rw [show Lib.byteCells [] = [] from rfl]
 simpa using this
theorem Sg311376 {P : Prop} (h : P := by
 first
 |(
  guard_hyp z311376a
  have ta : ∀ (w : World), (Instr.typeAssert (.iface 111 v) 85 122 true).run Tryz.prog w = .ok (.tuple #[.string ⟨#[]⟩, .bool false]) w := fun _ => by kernel_rfl
  have hm : ∀ w : World, (method 85 111 v "wattle/spell.put").run Tryz.prog w = .ok (191, v) w := fun _ => by kernel_rfl)
 |(
  guard_hyp z311376b
  have ta : ∀ (w : World), (Instr.typeAssert (.iface 126 v) 85 122 true).run Tryz.prog w = .ok (.tuple #[.string ⟨#[]⟩, .bool false]) w := fun _ => by kernel_rfl
  have hm : ∀ w : World, (method 85 126 v "wattle/spell.put").run Tryz.prog w = .ok (205, v) w := fun _ => by kernel_rfl)
 |(
  guard_hyp z311376c
  have ta : ∀ (w : World), (Instr.typeAssert (.iface 119 v) 85 122 true).run Tryz.prog w = .ok (.tuple #[.string ⟨#[]⟩, .bool false]) w := fun _ => by kernel_rfl
  have hm : ∀ w : World, (method 85 119 v "wattle/spell.put").run Tryz.prog w = .ok (201, v) w := fun _ => by kernel_rfl)
 |(
  guard_hyp z311376d
  have ta : ∀ (w : World), (Instr.typeAssert (.iface 116 v) 85 122 true).run Tryz.prog w = .ok (.tuple #[.string ⟨#[]⟩, .bool false]) w := fun _ => by kernel_rfl
  have hm : ∀ w : World, (method 85 116 v "wattle/spell.put").run Tryz.prog w = .ok (199, v) w := fun _ => by kernel_rfl)
 |(
  have ta : ∀ (w : World), (Instr.typeAssert (.iface 93 v) 85 122 true).run Tryz.prog w = .ok (.tuple #[.string ⟨#[]⟩, .bool false]) w := fun _ => by kernel_rfl
  have hm : ∀ w : World, (method 85 93 v "wattle/spell.put").run Tryz.prog w = .ok (176, v) w := fun _ => by kernel_rfl)
 obtain ⟨W0, hW0⟩ : ∃ W0, w.alloc (.cells #[.pointer none, .slice none 0 0] 74) = W0 := ⟨_, rfl⟩
 have hb0 : Below w.heap.size w W0 := by rw [← hW0]; exact (Below.refl _ _).alloc (Nat.le_refl _) _
 have HC := Lib.hid (HP W0 hb0 hb0.size (by rw [← hW0]; exact fresh_bld w))
 have HB0 := Lib.hid hb0
 have HW0 := Lib.hid hW0
 clear HP hb0 hW0
 go_enter Tryz.func27, Tryz.ntmps27
 go_wp2_with fail
 rw [HW0.out]
 refine HC.out.mono ?_
 rintro e w1 ⟨rfl, h1⟩
 have H1 := Lib.hid h1
 have HS := Lib.hid (bld_str w.heap.size w.heap.size _ w1 h1.1 (Nat.le_trans HB0.out.size h1.2.1.size))
 clear h1
 go_wp2_with fail
 refine HS.out.mono ?_
 rintro e w2 ⟨rfl, h2⟩
 have H2 := Lib.hid h2
 clear h2
 go_wp2_with fail
 go_ret
 exact ⟨by rfl, HB0.out.trans (H1.out.2.1.trans H2.out.2.1)⟩) : P := h
set_option maxHeartbeats 4000000 in
theorem ptext_ex (v : Value) (X : List UInt8) (w : World) (HP : ∀ w1 : World, Below w.heap.size w w1 → w.heap.size ≤ w1.heap.size → Bld w.heap.size w.heap.size [] w1 → Calls Tryz.prog 176 #[v, .pointer (some ⟨w.heap.size, 0, none⟩)] w1 fun e w' => e = .returned (.tuple #[]) ∧ Wrote w.heap.size w.heap.size ([] ++ X) w1 w') :
    Calls Tryz.prog 27 #[.iface 93 v] w fun e w' => e = .returned (.string (strOf X)) ∧ Below w.heap.size w w' := Sg311376
set_option maxHeartbeats 4000000 in
theorem ptext_pt (v : Value) (X : List UInt8) (w : World) (HP : ∀ w1 : World, Below w.heap.size w w1 → w.heap.size ≤ w1.heap.size → Bld w.heap.size w.heap.size [] w1 → Calls Tryz.prog 191 #[v, .pointer (some ⟨w.heap.size, 0, none⟩)] w1 fun e w' => e = .returned (.tuple #[]) ∧ Wrote w.heap.size w.heap.size ([] ++ X) w1 w') :
    Calls Tryz.prog 27 #[.iface 111 v] w fun e w' => e = .returned (.string (strOf X)) ∧ Below w.heap.size w w' := by
 have z311376a := trivial
 exact Sg311376
set_option maxHeartbeats 4000000 in
theorem ptext_it (v : Value) (X : List UInt8) (w : World) (HP : ∀ w1 : World, Below w.heap.size w w1 → w.heap.size ≤ w1.heap.size → Bld w.heap.size w.heap.size [] w1 → Calls Tryz.prog 199 #[v, .pointer (some ⟨w.heap.size, 0, none⟩)] w1 fun e w' => e = .returned (.tuple #[]) ∧ Wrote w.heap.size w.heap.size ([] ++ X) w1 w') :
    Calls Tryz.prog 27 #[.iface 116 v] w fun e w' => e = .returned (.string (strOf X)) ∧ Below w.heap.size w w' := by
 have z311376d := trivial
 exact Sg311376
set_option maxHeartbeats 4000000 in
theorem ptext_so (v : Value) (X : List UInt8) (w : World) (HP : ∀ w1 : World, Below w.heap.size w w1 → w.heap.size ≤ w1.heap.size → Bld w.heap.size w.heap.size [] w1 → Calls Tryz.prog 201 #[v, .pointer (some ⟨w.heap.size, 0, none⟩)] w1 fun e w' => e = .returned (.tuple #[]) ∧ Wrote w.heap.size w.heap.size ([] ++ X) w1 w') :
    Calls Tryz.prog 27 #[.iface 119 v] w fun e w' => e = .returned (.string (strOf X)) ∧ Below w.heap.size w w' := by
 have z311376c := trivial
 exact Sg311376
set_option maxHeartbeats 4000000 in
theorem ptext_si (v : Value) (X : List UInt8) (w : World) (HP : ∀ w1 : World, Below w.heap.size w w1 → w.heap.size ≤ w1.heap.size → Bld w.heap.size w.heap.size [] w1 → Calls Tryz.prog 205 #[v, .pointer (some ⟨w.heap.size, 0, none⟩)] w1 fun e w' => e = .returned (.tuple #[]) ∧ Wrote w.heap.size w.heap.size ([] ++ X) w1 w') :
    Calls Tryz.prog 27 #[.iface 126 v] w fun e w' => e = .returned (.string (strOf X)) ∧ Below w.heap.size w w' := by
 have z311376b := trivial
 exact Sg311376
set_option maxHeartbeats 4000000 in
theorem ptext_nm (s : ByteArray) (w : World) : Calls Tryz.prog 27 #[.iface 122 (.string s)] w fun e w' => e = .returned (.string s) ∧ Below w.heap.size w w' := by
 have ta : ∀ (w : World), (Instr.typeAssert (.iface 122 (.string s)) 85 122 true).run Tryz.prog w = .ok (.tuple #[.string s, .bool true]) w := fun _ => by kernel_rfl
 have HB : Hid (Below w.heap.size w (w.alloc (.cells #[.pointer none, .slice none 0 0] 74))) := Lib.hid ((Below.refl _ _).alloc (Nat.le_refl _) _)
 go_enter Tryz.func27, Tryz.ntmps27
 go_wp2_with fail
 go_ret
 exact ⟨rfl, HB.out⟩
theorem stext_any (p : Part) (v : Value) (B : Nat) (w : World) (hX : IsPart B w v p) (hB : B ≤ w.heap.size) (hML : ML w) (hM : partM p = true) (hw : wtPart p ≤ 4194304) :
    Calls Tryz.prog 27 #[v] w fun e w' => e = .returned (.string (strOf (partX p))) ∧ Below w.heap.size w w' := by
 cases p with
 | nm s =>
  have hX : v = .iface 122 (.string s) := hX
  subst hX
  refine (ptext_nm s w).mono fun e w' h => ⟨?_, h.2⟩
  rw [h.1, show partX (.nm s) = s.data.toList from rfl, strOf_toList]
 | ex t =>
  obtain ⟨cs, rfl, hX⟩ := hX
  have hw2 : wtX t ≤ 4194304 := hw
  exact ptext_ex _ _ w fun w1 hb hs hbl => exprPut_any t cs B w.heap.size w.heap.size [] w1 (IsX.below hb hB _ _ hX) hB hML.1 hs hbl (hML.below hb) hM hw2 (by simp only [List.length_nil]; omega)
 | pt t =>
  obtain ⟨cs, rfl, hX⟩ := hX
  have hw2 : wtPt t ≤ 4194304 := hw
  exact ptext_pt _ _ w fun w1 hb hs hbl => pathPut_any t cs B w.heap.size w.heap.size [] w1 (hX.below hb hB) hB hML.1 hs hbl (hML.below hb) hM hw2 (by simp only [List.length_nil]; omega)
 | it t =>
  obtain ⟨cs, rfl, hX⟩ := hX
  have hw2 : wtIt t ≤ 4194304 := hw
  exact ptext_it _ _ w fun w1 hb hs hbl => itemPut_any t cs B w.heap.size w.heap.size [] w1 (hX.below hb hB) hB hML.1 hs hbl (hML.below hb) hM hw2 (by simp only [List.length_nil]; omega)
 | so t =>
  obtain ⟨cs, rfl, hX⟩ := hX
  have hw2 : wtSo t ≤ 4194304 := hw
  exact ptext_so _ _ w fun w1 hb hs hbl => sortPut_any t cs B w.heap.size w.heap.size [] w1 (hX.below hb hB) hB hML.1 hs hbl (hML.below hb) hM hw2 (by simp only [List.length_nil]; omega)
 | si t st =>
  obtain ⟨cs, rfl, hX⟩ := hX
  have hw2 : wtSi t ≤ 4194304 := hw
  exact ptext_si _ _ w fun w1 hb hs hbl => setPut_any t st cs B w.heap.size w.heap.size [] w1 (hX.below hb hB) hB hML.1 hs hbl (hML.below hb) hM hw2 (by simp only [List.length_nil]; omega)
set_option maxHeartbeats 4000000 in
theorem sexpr_any (t : Ex) (cs : List Value) (B : Nat) (w : World) (hX : IsX B w cs t) (hB : B ≤ w.heap.size) (hML : ML w) (hw : wtX t ≤ 4194304) :
    Calls Tryz.prog 14 #[.agg cs.toArray] w fun e w' => e = .returned (if deepB 32 t = true then .tuple #[.string (strOf (textX t)), .int .i64 0] else .tuple #[.string ⟨#[]⟩, .int .i64 20]) ∧ Below w.heap.size w w' := by
 have hX0 := hX
 obtain ⟨op, nm, v, ns, az⟩ := t
 obtain ⟨k, b, i, s, l, ks, la, lc, ka, kc, na, nc, xa, xc, hv, rfl, hop, hV, hNA, hXA, hNS, hAZ⟩ := hX.cells
 clear hX
 obtain ⟨W0, u0, hW0, hu0, hsz, hbe, hce⟩ := box_ext w [.int .i64 op, .string nm, .int .i64 k, .bool b, .int .i64 i, .string s, .slice la l.length lc, .slice ka ks.length kc, .slice na ns.length nc, .slice xa az.length xc] 36
 obtain ⟨e0, e1, e2, e3, e4, e5, e6, e7, e8, e9⟩ := ge10 hce
 obtain ⟨x0, x1, x2, x3, x4, x5, x6, x7, x8, x9⟩ := gx10 hce u0
 rw [← hu0, ← hW0] at x0 x1 x2 x3 x4 x5 x6 x7 x8 x9
 have HR := Lib.hid (fun u => ext_right u (.mk op nm v ns az) _ B hsz (IsX.below (hbe u) hB _ _ hX0) (Nat.le_trans hB (hbe u).size) (hML.below (hbe u)) (by omega))
 have HT := Lib.hid (fun (hM : deepB 32 (.mk op nm v ns az) = true) (u : Ext (w.heap.size + 1) W0) => ext_call u hsz (stext_any (.ex (.mk op nm v ns az)) _ B u.w ⟨_, rfl, IsX.below (hbe u) hB _ _ hX0⟩ (Nat.le_trans hB (hbe u).size) (hML.below (hbe u)) hM hw))
 rw [show partX (.ex (.mk op nm v ns az)) = textX (.mk op nm v ns az) from rfl] at HT
 obtain ⟨HBE, HW0, HU0⟩ := hd3 hbe hW0 hu0
 generalize deepB 32 (.mk op nm v ns az) = q at *
 generalize textX (.mk op nm v ns az) = X at *
 clear hbe hW0 hu0 hsz hce hNS hv hV hNA hXA hAZ hX0 hw hop hML
 generalize ns.length = n at *
 generalize az.length = m at *
 generalize l.length = y1 at *
 generalize ks.length = y2 at *
 cases q with
 | false =>
  go_enter Tryz.func14, Tryz.ntmps14
  go_wp2_with fail
  rw [HW0.out, HU0.out]
  refine (HR.out _).mono ?_
  rintro e w2 ⟨rfl, u2, rfl⟩
  go_wp2_with fail
  go_ret2
  exact ⟨by rfl, HBE.out _⟩
 | true =>
  have HT2 := Lib.hid (HT.out rfl)
  go_enter Tryz.func14, Tryz.ntmps14
  go_wp2_with fail
  rw [HW0.out, HU0.out]
  refine (HR.out _).mono ?_
  rintro e w2 ⟨rfl, u2, rfl⟩
  go_wp2_with fail
  refine (HT2.out _).mono ?_
  rintro e w3 ⟨rfl, u3, rfl⟩
  go_wp2_with fail
  go_ret2
  exact ⟨by rfl, HBE.out _⟩
end Go.Proofs.YtndhpdclpgemfaaGreat
