/- Parts X6 of this seat (pruned, scripts that are alike kept once as default arguments: q1, q2, ..). Conditions: each says its own. -/
import Derived.Test.YtndhpdclpgemfaaGreatY12
namespace Go.Proofs.YtndhpdclpgemfaaGreat
open Go.RowKit
set_option linter.unusedSimpArgs false
set_option linter.unusedVariables false
set_option maxRecDepth 100000
def litB : Vt → Bool
  | .mk k b i s l ks => mayB (.mk k b i s l ks) && ((k == 0) || ((k == 1) || (((k == 2) && decide (0 ≤ i)) || (k == 3))))
def opX : Ex → Int
  | .mk op _ _ _ _ => op
def firstOp (l : List Ex) : Int := match l with
  | [] => 0
  | t :: _ => opX t
def namedB : Ex → Bool
  | .mk op nm v ns az =>
    if op = 1 then (nm.toList == []) && (((az.length : Int) == 0) && litB v)
    else if op = 2 then ((az.length : Int) == 0) && plainB nm
    else if op = 3 then ((az.length : Int) == 0) && plainB nm
    else if op = 4 then ((az.length : Int) == 1) && keyB nm
    else if op = 15 then ((az.length : Int) == 1) && (keyB nm && (firstOp az == 2))
    else if op = 5 then (nm.toList == [])
    else if op = 6 then ns.all keyB && ((nm.toList == []) && ((az.length : Int) == ns.length))
    else if op = 7 then (nm.toList == []) && ((az.length : Int) == 2)
    else if op = 8 then (nm.toList == []) && ((az.length : Int) == 1)
    else if op = 9 then (nm.toList == []) && ((az.length : Int) == 1)
    else if op = 11 then (nm.toList == []) && ((az.length : Int) == 1)
    else if op = 12 then (nm.toList == []) && ((az.length : Int) == 1)
    else if op = 10 then ((az.length : Int) == 2) && decide (0 < levelB nm)
    else if op = 13 then plainB nm && !aggB nm
    else if op = 14 then (((az.length : Int) == 1) && aggB nm) || (((az.length : Int) == 0) && (nm.toList == [99, 111, 117, 110, 116]))
    else false
def NamedSaid (op : Int) : Prop := ∀ (nm : ByteArray) (v : Vt) (ns : List ByteArray) (az : List Ex) (cs : List Value) (B : Nat) (w : World), IsX B w cs (.mk op nm v ns az) → B ≤ w.heap.size → nm.size ≤ 1099511627776 → ns.length ≤ 1099511627776 → az.length ≤ 1099511627776 →
    Calls Tryz.prog 53 #[.agg cs.toArray] w fun e w' => e = .returned (.bool (namedB (.mk op nm v ns az))) ∧ Below w.heap.size w w'
theorem Sq23 {P : Prop} (h : P := by
 intro nm v ns az cs B w hX hB hs hns haz
 obtain ⟨k, b, i, s, l, ks, la, lc, ka, kc, na, nc, xa, xc, hv, rfl, hop, hV, hNA, hXA, hNS, hAZ⟩ := hX.cells
 clear hX
 first
 | (guard_hyp z23a; obtain ⟨q, hq⟩ := nam (namedB (.mk 3 nm v ns az)))
 | (obtain ⟨q, hq⟩ := nam (namedB (.mk 2 nm v ns az)))
 rw [hq]
 rw [namedB] at hq
 obtain ⟨n, hn⟩ := nam ns.length
 obtain ⟨m, hm⟩ := nam az.length
 have HN := Lib.hid hn
 have HM := Lib.hid hm
 rw [hn] at hNA hns
 rw [hm] at hXA haz
 try rw [hn] at hq
 try rw [hm] at hq
 rw [hn, hm]
 clear hn hm
 first
 | (guard_hyp z23a; obtain ⟨W0, hW0⟩ : ∃ W0, w.alloc (.cells #[.int .i64 3, .string nm, .int .i64 k, .bool b, .int .i64 i, .string s, .slice la l.length lc, .slice ka ks.length kc, .slice na n nc, .slice xa m xc] 36) = W0 := ⟨_, rfl⟩)
 | (obtain ⟨W0, hW0⟩ : ∃ W0, w.alloc (.cells #[.int .i64 2, .string nm, .int .i64 k, .bool b, .int .i64 i, .string s, .slice la l.length lc, .slice ka ks.length kc, .slice na n nc, .slice xa m xc] 36) = W0 := ⟨_, rfl⟩)
 have hb0 : Below w.heap.size w W0 := by rw [← hW0]; exact (Below.refl _ _).alloc (Nat.le_refl _) _
 first
 | (guard_hyp z23a; have hx0 : Block W0 w.heap.size [.int .i64 3, .string nm, .int .i64 k, .bool b, .int .i64 i, .string s, .slice la l.length lc, .slice ka ks.length kc, .slice na n nc, .slice xa m xc] 36 := by rw [← hW0]; exact Block.new _ _ _)
 | (have hx0 : Block W0 w.heap.size [.int .i64 2, .string nm, .int .i64 k, .bool b, .int .i64 i, .string s, .slice la l.length lc, .slice ka ks.length kc, .slice na n nc, .slice xa m xc] 36 := by rw [← hW0]; exact Block.new _ _ _)
 have x0 := hx0.cell (i := 0) rfl
 have x1 := hx0.cell (i := 1) rfl
 have x2 := hx0.cell (i := 2) rfl
 have x3 := hx0.cell (i := 3) rfl
 have x4 := hx0.cell (i := 4) rfl
 have x5 := hx0.cell (i := 5) rfl
 have x6 := hx0.cell (i := 6) rfl
 have x7 := hx0.cell (i := 7) rfl
 have x8 := hx0.cell (i := 8) rfl
 have x9 := hx0.cell (i := 9) rfl
 rw [← hW0] at x0 x1 x2 x3 x4 x5 x6 x7 x8 x9
 obtain ⟨HB0, HX0, HW0, HV, HNS, HAZ⟩ := hd6 hb0 hx0 hW0 hV hNS hAZ
 clear hb0 hx0 hW0 hV hNS hAZ hop
 first
 |(
  guard_hyp z23a
  show Calls Tryz.prog 53 #[.agg #[.int .i64 3, .string nm, .int .i64 k, .bool b, .int .i64 i, .string s, .slice la l.length lc, .slice ka ks.length kc, .slice na n nc, .slice xa m xc]] w _
  rw [if_neg (ng 3 1), if_neg (ng 3 2), if_pos rfl] at hq)
 |(
  show Calls Tryz.prog 53 #[.agg #[.int .i64 2, .string nm, .int .i64 k, .bool b, .int .i64 i, .string s, .slice la l.length lc, .slice ka ks.length kc, .slice na n nc, .slice xa m xc]] w _
  rw [if_neg (ng 2 1), if_pos rfl] at hq)
 obtain ⟨b0, h0⟩ : ∃ r, ((m : Int) == 0) = r := ⟨_, rfl⟩
 have Hplain : Hid (∀ u, Calls Tryz.prog 39 #[.string nm] u fun e w' => e = .returned (.bool (plainB nm)) ∧ Below u.heap.size u w') := Lib.hid (fun u => (rplain_any nm u hs))
 obtain ⟨cplain, hplain⟩ := nam (plainB nm)
 rw [hplain] at Hplain
 rw [h0, hplain] at hq
 clear hplain
 subst hq
 cases b0 <;> cases cplain <;>
 ·go_enter Tryz.func53, Tryz.ntmps53
  go_wp2_with fail
  rw [HW0.out]
  first | (go_ret; exact ⟨by rfl, HB0.out⟩) | (refine (Hplain.out _).mono ?_; rintro e w1 ⟨rfl, hb1⟩; have HB1 := Lib.hid (below_step HB0.out rfl hb1); have HX1 := Lib.hid (HX0.out.below hb1 HX0.out.lt); have z10 := HX1.out.cell (i := 0) rfl; have z11 := HX1.out.cell (i := 1) rfl; have z19 := HX1.out.cell (i := 9) rfl; clear hb1; go_wp2_with fail; (go_ret; exact ⟨by rfl, HB1.out⟩))) : P := h
set_option maxHeartbeats 8000000 in
theorem rnamed_2 : NamedSaid 2 := Sq23
set_option maxHeartbeats 8000000 in
theorem rnamed_3 : NamedSaid 3 := by
 have z23a := trivial
 exact Sq23
set_option maxHeartbeats 8000000 in
theorem rnamed_4 : NamedSaid 4 := by
 intro nm v ns az cs B w hX hB hs hns haz
 obtain ⟨k, b, i, s, l, ks, la, lc, ka, kc, na, nc, xa, xc, hv, rfl, hop, hV, hNA, hXA, hNS, hAZ⟩ := hX.cells
 clear hX
 obtain ⟨q, hq⟩ := nam (namedB (.mk 4 nm v ns az))
 rw [hq]
 rw [namedB] at hq
 obtain ⟨n, hn⟩ := nam ns.length
 obtain ⟨m, hm⟩ := nam az.length
 have HN := Lib.hid hn
 have HM := Lib.hid hm
 rw [hn] at hNA hns
 rw [hm] at hXA haz
 try rw [hn] at hq
 try rw [hm] at hq
 rw [hn, hm]
 clear hn hm
 obtain ⟨W0, hW0⟩ : ∃ W0, w.alloc (.cells #[.int .i64 4, .string nm, .int .i64 k, .bool b, .int .i64 i, .string s, .slice la l.length lc, .slice ka ks.length kc, .slice na n nc, .slice xa m xc] 36) = W0 := ⟨_, rfl⟩
 have hb0 : Below w.heap.size w W0 := by rw [← hW0]; exact (Below.refl _ _).alloc (Nat.le_refl _) _
 have hx0 : Block W0 w.heap.size [.int .i64 4, .string nm, .int .i64 k, .bool b, .int .i64 i, .string s, .slice la l.length lc, .slice ka ks.length kc, .slice na n nc, .slice xa m xc] 36 := by rw [← hW0]; exact Block.new _ _ _
 have x0 := hx0.cell (i := 0) rfl
 have x1 := hx0.cell (i := 1) rfl
 have x2 := hx0.cell (i := 2) rfl
 have x3 := hx0.cell (i := 3) rfl
 have x4 := hx0.cell (i := 4) rfl
 have x5 := hx0.cell (i := 5) rfl
 have x6 := hx0.cell (i := 6) rfl
 have x7 := hx0.cell (i := 7) rfl
 have x8 := hx0.cell (i := 8) rfl
 have x9 := hx0.cell (i := 9) rfl
 rw [← hW0] at x0 x1 x2 x3 x4 x5 x6 x7 x8 x9
 obtain ⟨HB0, HX0, HW0, HV, HNS, HAZ⟩ := hd6 hb0 hx0 hW0 hV hNS hAZ
 clear hb0 hx0 hW0 hV hNS hAZ hop
 show Calls Tryz.prog 53 #[.agg #[.int .i64 4, .string nm, .int .i64 k, .bool b, .int .i64 i, .string s, .slice la l.length lc, .slice ka ks.length kc, .slice na n nc, .slice xa m xc]] w _
 rw [if_neg (ng 4 1), if_neg (ng 4 2), if_neg (ng 4 3), if_pos rfl] at hq
 obtain ⟨b0, h0⟩ : ∃ r, ((m : Int) == 1) = r := ⟨_, rfl⟩
 have Hkey : Hid (∀ u, Calls Tryz.prog 103 #[.string nm] u fun e w' => e = .returned (.bool (keyB nm)) ∧ Below u.heap.size u w') := Lib.hid (fun u => (rkey11_any nm u hs).mono fun e w' h => ⟨h.1, h.2 ▸ Below.refl _ _⟩)
 obtain ⟨ckey, hkey⟩ := nam (keyB nm)
 rw [hkey] at Hkey
 rw [h0, hkey] at hq
 clear hkey
 subst hq
 cases b0 <;> cases ckey <;>
 ·go_enter Tryz.func53, Tryz.ntmps53
  go_wp2_with fail
  rw [HW0.out]
  first | (go_ret; exact ⟨by rfl, HB0.out⟩) | (refine (Hkey.out _).mono ?_; rintro e w1 ⟨rfl, hb1⟩; have HB1 := Lib.hid (below_step HB0.out rfl hb1); have HX1 := Lib.hid (HX0.out.below hb1 HX0.out.lt); have z10 := HX1.out.cell (i := 0) rfl; have z11 := HX1.out.cell (i := 1) rfl; have z19 := HX1.out.cell (i := 9) rfl; clear hb1; go_wp2_with fail; (go_ret; exact ⟨by rfl, HB1.out⟩))
set_option maxHeartbeats 8000000 in
theorem rnamed_5 : NamedSaid 5 := by
 intro nm v ns az cs B w hX hB hs hns haz
 obtain ⟨k, b, i, s, l, ks, la, lc, ka, kc, na, nc, xa, xc, hv, rfl, hop, hV, hNA, hXA, hNS, hAZ⟩ := hX.cells
 clear hX
 obtain ⟨q, hq⟩ := nam (namedB (.mk 5 nm v ns az))
 rw [hq]
 rw [namedB] at hq
 obtain ⟨n, hn⟩ := nam ns.length
 obtain ⟨m, hm⟩ := nam az.length
 have HN := Lib.hid hn
 have HM := Lib.hid hm
 rw [hn] at hNA hns
 rw [hm] at hXA haz
 try rw [hn] at hq
 try rw [hm] at hq
 rw [hn, hm]
 clear hn hm
 obtain ⟨W0, hW0⟩ : ∃ W0, w.alloc (.cells #[.int .i64 5, .string nm, .int .i64 k, .bool b, .int .i64 i, .string s, .slice la l.length lc, .slice ka ks.length kc, .slice na n nc, .slice xa m xc] 36) = W0 := ⟨_, rfl⟩
 have hb0 : Below w.heap.size w W0 := by rw [← hW0]; exact (Below.refl _ _).alloc (Nat.le_refl _) _
 have hx0 : Block W0 w.heap.size [.int .i64 5, .string nm, .int .i64 k, .bool b, .int .i64 i, .string s, .slice la l.length lc, .slice ka ks.length kc, .slice na n nc, .slice xa m xc] 36 := by rw [← hW0]; exact Block.new _ _ _
 have x0 := hx0.cell (i := 0) rfl
 have x1 := hx0.cell (i := 1) rfl
 have x2 := hx0.cell (i := 2) rfl
 have x3 := hx0.cell (i := 3) rfl
 have x4 := hx0.cell (i := 4) rfl
 have x5 := hx0.cell (i := 5) rfl
 have x6 := hx0.cell (i := 6) rfl
 have x7 := hx0.cell (i := 7) rfl
 have x8 := hx0.cell (i := 8) rfl
 have x9 := hx0.cell (i := 9) rfl
 rw [← hW0] at x0 x1 x2 x3 x4 x5 x6 x7 x8 x9
 obtain ⟨HB0, HX0, HW0, HV, HNS, HAZ⟩ := hd6 hb0 hx0 hW0 hV hNS hAZ
 clear hb0 hx0 hW0 hV hNS hAZ hop
 show Calls Tryz.prog 53 #[.agg #[.int .i64 5, .string nm, .int .i64 k, .bool b, .int .i64 i, .string s, .slice la l.length lc, .slice ka ks.length kc, .slice na n nc, .slice xa m xc]] w _
 rw [if_neg (ng 5 1), if_neg (ng 5 2), if_neg (ng 5 3), if_neg (ng 5 4), if_neg (ng 5 15), if_pos rfl] at hq
 obtain ⟨b0, h0⟩ := nam ((nm.toList == []))
 rw [h0] at hq
 subst hq
 cases b0 <;>
 ·go_enter Tryz.func53, Tryz.ntmps53
  go_wp2_with fail
  rw [HW0.out]
  (go_ret; exact ⟨by rfl, HB0.out⟩)
set_option maxHeartbeats 8000000 in
theorem rnamed_7 : NamedSaid 7 := by
 intro nm v ns az cs B w hX hB hs hns haz
 obtain ⟨k, b, i, s, l, ks, la, lc, ka, kc, na, nc, xa, xc, hv, rfl, hop, hV, hNA, hXA, hNS, hAZ⟩ := hX.cells
 clear hX
 obtain ⟨q, hq⟩ := nam (namedB (.mk 7 nm v ns az))
 rw [hq]
 rw [namedB] at hq
 obtain ⟨n, hn⟩ := nam ns.length
 obtain ⟨m, hm⟩ := nam az.length
 have HN := Lib.hid hn
 have HM := Lib.hid hm
 rw [hn] at hNA hns
 rw [hm] at hXA haz
 try rw [hn] at hq
 try rw [hm] at hq
 rw [hn, hm]
 clear hn hm
 obtain ⟨W0, hW0⟩ : ∃ W0, w.alloc (.cells #[.int .i64 7, .string nm, .int .i64 k, .bool b, .int .i64 i, .string s, .slice la l.length lc, .slice ka ks.length kc, .slice na n nc, .slice xa m xc] 36) = W0 := ⟨_, rfl⟩
 have hb0 : Below w.heap.size w W0 := by rw [← hW0]; exact (Below.refl _ _).alloc (Nat.le_refl _) _
 have hx0 : Block W0 w.heap.size [.int .i64 7, .string nm, .int .i64 k, .bool b, .int .i64 i, .string s, .slice la l.length lc, .slice ka ks.length kc, .slice na n nc, .slice xa m xc] 36 := by rw [← hW0]; exact Block.new _ _ _
 have x0 := hx0.cell (i := 0) rfl
 have x1 := hx0.cell (i := 1) rfl
 have x2 := hx0.cell (i := 2) rfl
 have x3 := hx0.cell (i := 3) rfl
 have x4 := hx0.cell (i := 4) rfl
 have x5 := hx0.cell (i := 5) rfl
 have x6 := hx0.cell (i := 6) rfl
 have x7 := hx0.cell (i := 7) rfl
 have x8 := hx0.cell (i := 8) rfl
 have x9 := hx0.cell (i := 9) rfl
 rw [← hW0] at x0 x1 x2 x3 x4 x5 x6 x7 x8 x9
 obtain ⟨HB0, HX0, HW0, HV, HNS, HAZ⟩ := hd6 hb0 hx0 hW0 hV hNS hAZ
 clear hb0 hx0 hW0 hV hNS hAZ hop
 show Calls Tryz.prog 53 #[.agg #[.int .i64 7, .string nm, .int .i64 k, .bool b, .int .i64 i, .string s, .slice la l.length lc, .slice ka ks.length kc, .slice na n nc, .slice xa m xc]] w _
 rw [if_neg (ng 7 1), if_neg (ng 7 2), if_neg (ng 7 3), if_neg (ng 7 4), if_neg (ng 7 15), if_neg (ng 7 5), if_neg (ng 7 6), if_pos rfl] at hq
 obtain ⟨b0, h0⟩ := nam ((nm.toList == []))
 obtain ⟨b1, h1⟩ : ∃ r, ((m : Int) == 2) = r := ⟨_, rfl⟩
 rw [h0, h1] at hq
 subst hq
 cases b0 <;> cases b1 <;>
 ·go_enter Tryz.func53, Tryz.ntmps53
  go_wp2_with fail
  rw [HW0.out]
  (go_ret; exact ⟨by rfl, HB0.out⟩)
theorem Sq25 {P : Prop} (h : P := by
 intro nm v ns az cs B w hX hB hs hns haz
 obtain ⟨k, b, i, s, l, ks, la, lc, ka, kc, na, nc, xa, xc, hv, rfl, hop, hV, hNA, hXA, hNS, hAZ⟩ := hX.cells
 clear hX
 first
 | (guard_hyp z25a; obtain ⟨q, hq⟩ := nam (namedB (.mk 9 nm v ns az)))
 | (obtain ⟨q, hq⟩ := nam (namedB (.mk 8 nm v ns az)))
 rw [hq]
 rw [namedB] at hq
 obtain ⟨n, hn⟩ := nam ns.length
 obtain ⟨m, hm⟩ := nam az.length
 have HN := Lib.hid hn
 have HM := Lib.hid hm
 rw [hn] at hNA hns
 rw [hm] at hXA haz
 try rw [hn] at hq
 try rw [hm] at hq
 rw [hn, hm]
 clear hn hm
 first
 | (guard_hyp z25a; obtain ⟨W0, hW0⟩ : ∃ W0, w.alloc (.cells #[.int .i64 9, .string nm, .int .i64 k, .bool b, .int .i64 i, .string s, .slice la l.length lc, .slice ka ks.length kc, .slice na n nc, .slice xa m xc] 36) = W0 := ⟨_, rfl⟩)
 | (obtain ⟨W0, hW0⟩ : ∃ W0, w.alloc (.cells #[.int .i64 8, .string nm, .int .i64 k, .bool b, .int .i64 i, .string s, .slice la l.length lc, .slice ka ks.length kc, .slice na n nc, .slice xa m xc] 36) = W0 := ⟨_, rfl⟩)
 have hb0 : Below w.heap.size w W0 := by rw [← hW0]; exact (Below.refl _ _).alloc (Nat.le_refl _) _
 first
 | (guard_hyp z25a; have hx0 : Block W0 w.heap.size [.int .i64 9, .string nm, .int .i64 k, .bool b, .int .i64 i, .string s, .slice la l.length lc, .slice ka ks.length kc, .slice na n nc, .slice xa m xc] 36 := by rw [← hW0]; exact Block.new _ _ _)
 | (have hx0 : Block W0 w.heap.size [.int .i64 8, .string nm, .int .i64 k, .bool b, .int .i64 i, .string s, .slice la l.length lc, .slice ka ks.length kc, .slice na n nc, .slice xa m xc] 36 := by rw [← hW0]; exact Block.new _ _ _)
 have x0 := hx0.cell (i := 0) rfl
 have x1 := hx0.cell (i := 1) rfl
 have x2 := hx0.cell (i := 2) rfl
 have x3 := hx0.cell (i := 3) rfl
 have x4 := hx0.cell (i := 4) rfl
 have x5 := hx0.cell (i := 5) rfl
 have x6 := hx0.cell (i := 6) rfl
 have x7 := hx0.cell (i := 7) rfl
 have x8 := hx0.cell (i := 8) rfl
 have x9 := hx0.cell (i := 9) rfl
 rw [← hW0] at x0 x1 x2 x3 x4 x5 x6 x7 x8 x9
 obtain ⟨HB0, HX0, HW0, HV, HNS, HAZ⟩ := hd6 hb0 hx0 hW0 hV hNS hAZ
 clear hb0 hx0 hW0 hV hNS hAZ hop
 first
 |(
  guard_hyp z25a
  show Calls Tryz.prog 53 #[.agg #[.int .i64 9, .string nm, .int .i64 k, .bool b, .int .i64 i, .string s, .slice la l.length lc, .slice ka ks.length kc, .slice na n nc, .slice xa m xc]] w _
  rw [if_neg (ng 9 1), if_neg (ng 9 2), if_neg (ng 9 3), if_neg (ng 9 4), if_neg (ng 9 15), if_neg (ng 9 5), if_neg (ng 9 6), if_neg (ng 9 7), if_neg (ng 9 8), if_pos rfl] at hq)
 |(
  show Calls Tryz.prog 53 #[.agg #[.int .i64 8, .string nm, .int .i64 k, .bool b, .int .i64 i, .string s, .slice la l.length lc, .slice ka ks.length kc, .slice na n nc, .slice xa m xc]] w _
  rw [if_neg (ng 8 1), if_neg (ng 8 2), if_neg (ng 8 3), if_neg (ng 8 4), if_neg (ng 8 15), if_neg (ng 8 5), if_neg (ng 8 6), if_neg (ng 8 7), if_pos rfl] at hq)
 obtain ⟨b0, h0⟩ := nam ((nm.toList == []))
 obtain ⟨b1, h1⟩ : ∃ r, ((m : Int) == 1) = r := ⟨_, rfl⟩
 rw [h0, h1] at hq
 subst hq
 cases b0 <;> cases b1 <;>
 ·go_enter Tryz.func53, Tryz.ntmps53
  go_wp2_with fail
  rw [HW0.out]
  (go_ret; exact ⟨by rfl, HB0.out⟩)) : P := h
set_option maxHeartbeats 8000000 in
theorem rnamed_8 : NamedSaid 8 := Sq25
set_option maxHeartbeats 8000000 in
theorem rnamed_9 : NamedSaid 9 := by
 have z25a := trivial
 exact Sq25
set_option maxHeartbeats 8000000 in
theorem rnamed_11 : NamedSaid 11 := by
 intro nm v ns az cs B w hX hB hs hns haz
 obtain ⟨k, b, i, s, l, ks, la, lc, ka, kc, na, nc, xa, xc, hv, rfl, hop, hV, hNA, hXA, hNS, hAZ⟩ := hX.cells
 clear hX
 obtain ⟨q, hq⟩ := nam (namedB (.mk 11 nm v ns az))
 rw [hq]
 rw [namedB] at hq
 obtain ⟨n, hn⟩ := nam ns.length
 obtain ⟨m, hm⟩ := nam az.length
 have HN := Lib.hid hn
 have HM := Lib.hid hm
 rw [hn] at hNA hns
 rw [hm] at hXA haz
 try rw [hn] at hq
 try rw [hm] at hq
 rw [hn, hm]
 clear hn hm
 obtain ⟨W0, hW0⟩ : ∃ W0, w.alloc (.cells #[.int .i64 11, .string nm, .int .i64 k, .bool b, .int .i64 i, .string s, .slice la l.length lc, .slice ka ks.length kc, .slice na n nc, .slice xa m xc] 36) = W0 := ⟨_, rfl⟩
 have hb0 : Below w.heap.size w W0 := by rw [← hW0]; exact (Below.refl _ _).alloc (Nat.le_refl _) _
 have hx0 : Block W0 w.heap.size [.int .i64 11, .string nm, .int .i64 k, .bool b, .int .i64 i, .string s, .slice la l.length lc, .slice ka ks.length kc, .slice na n nc, .slice xa m xc] 36 := by rw [← hW0]; exact Block.new _ _ _
 have x0 := hx0.cell (i := 0) rfl
 have x1 := hx0.cell (i := 1) rfl
 have x2 := hx0.cell (i := 2) rfl
 have x3 := hx0.cell (i := 3) rfl
 have x4 := hx0.cell (i := 4) rfl
 have x5 := hx0.cell (i := 5) rfl
 have x6 := hx0.cell (i := 6) rfl
 have x7 := hx0.cell (i := 7) rfl
 have x8 := hx0.cell (i := 8) rfl
 have x9 := hx0.cell (i := 9) rfl
 rw [← hW0] at x0 x1 x2 x3 x4 x5 x6 x7 x8 x9
 obtain ⟨HB0, HX0, HW0, HV, HNS, HAZ⟩ := hd6 hb0 hx0 hW0 hV hNS hAZ
 clear hb0 hx0 hW0 hV hNS hAZ hop
 show Calls Tryz.prog 53 #[.agg #[.int .i64 11, .string nm, .int .i64 k, .bool b, .int .i64 i, .string s, .slice la l.length lc, .slice ka ks.length kc, .slice na n nc, .slice xa m xc]] w _
 rw [if_neg (ng 11 1), if_neg (ng 11 2), if_neg (ng 11 3), if_neg (ng 11 4), if_neg (ng 11 15), if_neg (ng 11 5), if_neg (ng 11 6), if_neg (ng 11 7), if_neg (ng 11 8), if_neg (ng 11 9), if_pos rfl] at hq
 obtain ⟨b0, h0⟩ := nam ((nm.toList == []))
 obtain ⟨b1, h1⟩ : ∃ r, ((m : Int) == 1) = r := ⟨_, rfl⟩
 rw [h0, h1] at hq
 subst hq
 cases b0 <;> cases b1 <;>
 ·go_enter Tryz.func53, Tryz.ntmps53
  go_wp2_with fail
  rw [HW0.out]
  (go_ret; exact ⟨by rfl, HB0.out⟩)
set_option maxHeartbeats 8000000 in
theorem rnamed_12 : NamedSaid 12 := by
 intro nm v ns az cs B w hX hB hs hns haz
 obtain ⟨k, b, i, s, l, ks, la, lc, ka, kc, na, nc, xa, xc, hv, rfl, hop, hV, hNA, hXA, hNS, hAZ⟩ := hX.cells
 clear hX
 obtain ⟨q, hq⟩ := nam (namedB (.mk 12 nm v ns az))
 rw [hq]
 rw [namedB] at hq
 obtain ⟨n, hn⟩ := nam ns.length
 obtain ⟨m, hm⟩ := nam az.length
 have HN := Lib.hid hn
 have HM := Lib.hid hm
 rw [hn] at hNA hns
 rw [hm] at hXA haz
 try rw [hn] at hq
 try rw [hm] at hq
 rw [hn, hm]
 clear hn hm
 obtain ⟨W0, hW0⟩ : ∃ W0, w.alloc (.cells #[.int .i64 12, .string nm, .int .i64 k, .bool b, .int .i64 i, .string s, .slice la l.length lc, .slice ka ks.length kc, .slice na n nc, .slice xa m xc] 36) = W0 := ⟨_, rfl⟩
 have hb0 : Below w.heap.size w W0 := by rw [← hW0]; exact (Below.refl _ _).alloc (Nat.le_refl _) _
 have hx0 : Block W0 w.heap.size [.int .i64 12, .string nm, .int .i64 k, .bool b, .int .i64 i, .string s, .slice la l.length lc, .slice ka ks.length kc, .slice na n nc, .slice xa m xc] 36 := by rw [← hW0]; exact Block.new _ _ _
 have x0 := hx0.cell (i := 0) rfl
 have x1 := hx0.cell (i := 1) rfl
 have x2 := hx0.cell (i := 2) rfl
 have x3 := hx0.cell (i := 3) rfl
 have x4 := hx0.cell (i := 4) rfl
 have x5 := hx0.cell (i := 5) rfl
 have x6 := hx0.cell (i := 6) rfl
 have x7 := hx0.cell (i := 7) rfl
 have x8 := hx0.cell (i := 8) rfl
 have x9 := hx0.cell (i := 9) rfl
 rw [← hW0] at x0 x1 x2 x3 x4 x5 x6 x7 x8 x9
 obtain ⟨HB0, HX0, HW0, HV, HNS, HAZ⟩ := hd6 hb0 hx0 hW0 hV hNS hAZ
 clear hb0 hx0 hW0 hV hNS hAZ hop
 show Calls Tryz.prog 53 #[.agg #[.int .i64 12, .string nm, .int .i64 k, .bool b, .int .i64 i, .string s, .slice la l.length lc, .slice ka ks.length kc, .slice na n nc, .slice xa m xc]] w _
 rw [if_neg (ng 12 1), if_neg (ng 12 2), if_neg (ng 12 3), if_neg (ng 12 4), if_neg (ng 12 15), if_neg (ng 12 5), if_neg (ng 12 6), if_neg (ng 12 7), if_neg (ng 12 8), if_neg (ng 12 9), if_neg (ng 12 11), if_pos rfl] at hq
 obtain ⟨b0, h0⟩ := nam ((nm.toList == []))
 obtain ⟨b1, h1⟩ : ∃ r, ((m : Int) == 1) = r := ⟨_, rfl⟩
 rw [h0, h1] at hq
 subst hq
 cases b0 <;> cases b1 <;>
 ·go_enter Tryz.func53, Tryz.ntmps53
  go_wp2_with fail
  rw [HW0.out]
  (go_ret; exact ⟨by rfl, HB0.out⟩)
set_option maxHeartbeats 8000000 in
theorem rnamed_10 : NamedSaid 10 := by
 intro nm v ns az cs B w hX hB hs hns haz
 obtain ⟨k, b, i, s, l, ks, la, lc, ka, kc, na, nc, xa, xc, hv, rfl, hop, hV, hNA, hXA, hNS, hAZ⟩ := hX.cells
 clear hX
 obtain ⟨q, hq⟩ := nam (namedB (.mk 10 nm v ns az))
 rw [hq]
 rw [namedB] at hq
 obtain ⟨n, hn⟩ := nam ns.length
 obtain ⟨m, hm⟩ := nam az.length
 have HN := Lib.hid hn
 have HM := Lib.hid hm
 rw [hn] at hNA hns
 rw [hm] at hXA haz
 try rw [hn] at hq
 try rw [hm] at hq
 rw [hn, hm]
 clear hn hm
 obtain ⟨W0, hW0⟩ : ∃ W0, w.alloc (.cells #[.int .i64 10, .string nm, .int .i64 k, .bool b, .int .i64 i, .string s, .slice la l.length lc, .slice ka ks.length kc, .slice na n nc, .slice xa m xc] 36) = W0 := ⟨_, rfl⟩
 have hb0 : Below w.heap.size w W0 := by rw [← hW0]; exact (Below.refl _ _).alloc (Nat.le_refl _) _
 have hx0 : Block W0 w.heap.size [.int .i64 10, .string nm, .int .i64 k, .bool b, .int .i64 i, .string s, .slice la l.length lc, .slice ka ks.length kc, .slice na n nc, .slice xa m xc] 36 := by rw [← hW0]; exact Block.new _ _ _
 have x0 := hx0.cell (i := 0) rfl
 have x1 := hx0.cell (i := 1) rfl
 have x2 := hx0.cell (i := 2) rfl
 have x3 := hx0.cell (i := 3) rfl
 have x4 := hx0.cell (i := 4) rfl
 have x5 := hx0.cell (i := 5) rfl
 have x6 := hx0.cell (i := 6) rfl
 have x7 := hx0.cell (i := 7) rfl
 have x8 := hx0.cell (i := 8) rfl
 have x9 := hx0.cell (i := 9) rfl
 rw [← hW0] at x0 x1 x2 x3 x4 x5 x6 x7 x8 x9
 obtain ⟨HB0, HX0, HW0, HV, HNS, HAZ⟩ := hd6 hb0 hx0 hW0 hV hNS hAZ
 clear hb0 hx0 hW0 hV hNS hAZ hop
 show Calls Tryz.prog 53 #[.agg #[.int .i64 10, .string nm, .int .i64 k, .bool b, .int .i64 i, .string s, .slice la l.length lc, .slice ka ks.length kc, .slice na n nc, .slice xa m xc]] w _
 rw [if_neg (ng 10 1), if_neg (ng 10 2), if_neg (ng 10 3), if_neg (ng 10 4), if_neg (ng 10 15), if_neg (ng 10 5), if_neg (ng 10 6), if_neg (ng 10 7), if_neg (ng 10 8), if_neg (ng 10 9), if_neg (ng 10 11), if_neg (ng 10 12), if_pos rfl] at hq
 obtain ⟨b0, h0⟩ : ∃ r, ((m : Int) == 2) = r := ⟨_, rfl⟩
 have Hlevel : Hid (∀ u, Calls Tryz.prog 89 #[.string nm] u fun e w' => e = .returned (.int .i64 (levelB nm)) ∧ Below u.heap.size u w') := Lib.hid (fun u => (rlevel_any nm u).mono fun e w' h => ⟨h.1, h.2 ▸ Below.refl _ _⟩)
 obtain ⟨cl, hcl⟩ := nam (levelB nm)
 rw [hcl] at Hlevel
 obtain ⟨clevel, hlevel⟩ := nam (decide (0 < cl))
 rw [hcl] at hq
 rw [h0, hlevel] at hq
 clear  hcl
 subst hq
 cases b0 <;> cases clevel <;>
 ·go_enter Tryz.func53, Tryz.ntmps53
  go_wp2_with fail
  rw [HW0.out]
  first | (go_ret; exact ⟨by rfl, HB0.out⟩) | (refine (Hlevel.out _).mono ?_; rintro e w1 ⟨rfl, hb1⟩; have HB1 := Lib.hid (below_step HB0.out rfl hb1); have HX1 := Lib.hid (HX0.out.below hb1 HX0.out.lt); have z10 := HX1.out.cell (i := 0) rfl; have z11 := HX1.out.cell (i := 1) rfl; have z19 := HX1.out.cell (i := 9) rfl; clear hb1; go_wp2_with fail; (go_ret; exact ⟨by rfl, HB1.out⟩))
set_option maxHeartbeats 8000000 in
theorem rnamed_13 : NamedSaid 13 := by
 intro nm v ns az cs B w hX hB hs hns haz
 obtain ⟨k, b, i, s, l, ks, la, lc, ka, kc, na, nc, xa, xc, hv, rfl, hop, hV, hNA, hXA, hNS, hAZ⟩ := hX.cells
 clear hX
 obtain ⟨q, hq⟩ := nam (namedB (.mk 13 nm v ns az))
 rw [hq]
 rw [namedB] at hq
 obtain ⟨n, hn⟩ := nam ns.length
 obtain ⟨m, hm⟩ := nam az.length
 have HN := Lib.hid hn
 have HM := Lib.hid hm
 rw [hn] at hNA hns
 rw [hm] at hXA haz
 try rw [hn] at hq
 try rw [hm] at hq
 rw [hn, hm]
 clear hn hm
 obtain ⟨W0, hW0⟩ : ∃ W0, w.alloc (.cells #[.int .i64 13, .string nm, .int .i64 k, .bool b, .int .i64 i, .string s, .slice la l.length lc, .slice ka ks.length kc, .slice na n nc, .slice xa m xc] 36) = W0 := ⟨_, rfl⟩
 have hb0 : Below w.heap.size w W0 := by rw [← hW0]; exact (Below.refl _ _).alloc (Nat.le_refl _) _
 have hx0 : Block W0 w.heap.size [.int .i64 13, .string nm, .int .i64 k, .bool b, .int .i64 i, .string s, .slice la l.length lc, .slice ka ks.length kc, .slice na n nc, .slice xa m xc] 36 := by rw [← hW0]; exact Block.new _ _ _
 have x0 := hx0.cell (i := 0) rfl
 have x1 := hx0.cell (i := 1) rfl
 have x2 := hx0.cell (i := 2) rfl
 have x3 := hx0.cell (i := 3) rfl
 have x4 := hx0.cell (i := 4) rfl
 have x5 := hx0.cell (i := 5) rfl
 have x6 := hx0.cell (i := 6) rfl
 have x7 := hx0.cell (i := 7) rfl
 have x8 := hx0.cell (i := 8) rfl
 have x9 := hx0.cell (i := 9) rfl
 rw [← hW0] at x0 x1 x2 x3 x4 x5 x6 x7 x8 x9
 obtain ⟨HB0, HX0, HW0, HV, HNS, HAZ⟩ := hd6 hb0 hx0 hW0 hV hNS hAZ
 clear hb0 hx0 hW0 hV hNS hAZ hop
 show Calls Tryz.prog 53 #[.agg #[.int .i64 13, .string nm, .int .i64 k, .bool b, .int .i64 i, .string s, .slice la l.length lc, .slice ka ks.length kc, .slice na n nc, .slice xa m xc]] w _
 rw [if_neg (ng 13 1), if_neg (ng 13 2), if_neg (ng 13 3), if_neg (ng 13 4), if_neg (ng 13 15), if_neg (ng 13 5), if_neg (ng 13 6), if_neg (ng 13 7), if_neg (ng 13 8), if_neg (ng 13 9), if_neg (ng 13 11), if_neg (ng 13 12), if_neg (ng 13 10), if_pos rfl] at hq
 have Hplain : Hid (∀ u, Calls Tryz.prog 39 #[.string nm] u fun e w' => e = .returned (.bool (plainB nm)) ∧ Below u.heap.size u w') := Lib.hid (fun u => (rplain_any nm u hs))
 obtain ⟨cplain, hplain⟩ := nam (plainB nm)
 rw [hplain] at Hplain
 have Hagg : Hid (∀ u, Calls Tryz.prog 104 #[.string nm] u fun e w' => e = .returned (.bool (aggB nm)) ∧ Below u.heap.size u w') := Lib.hid (fun u => (ragg_any nm u).mono fun e w' h => ⟨h.1, h.2 ▸ Below.refl _ _⟩)
 obtain ⟨cagg, hagg⟩ := nam (aggB nm)
 rw [hagg] at Hagg
 rw [hplain, hagg] at hq
 clear hplain hagg
 subst hq
 cases cplain <;> cases cagg <;>
 ·go_enter Tryz.func53, Tryz.ntmps53
  go_wp2_with fail
  rw [HW0.out]
  first | (go_ret; exact ⟨by rfl, HB0.out⟩) | (refine (Hplain.out _).mono ?_; rintro e w1 ⟨rfl, hb1⟩; have HB1 := Lib.hid (below_step HB0.out rfl hb1); have HX1 := Lib.hid (HX0.out.below hb1 HX0.out.lt); have z10 := HX1.out.cell (i := 0) rfl; have z11 := HX1.out.cell (i := 1) rfl; have z19 := HX1.out.cell (i := 9) rfl; clear hb1; go_wp2_with fail; first | (go_ret; exact ⟨by rfl, HB1.out⟩) | (refine (Hagg.out _).mono ?_; rintro e w2 ⟨rfl, hb2⟩; have HB2 := Lib.hid (below_step HB1.out rfl hb2); have HX2 := Lib.hid (HX1.out.below hb2 HX1.out.lt); have z20 := HX2.out.cell (i := 0) rfl; have z21 := HX2.out.cell (i := 1) rfl; have z29 := HX2.out.cell (i := 9) rfl; clear hb2; go_wp2_with fail; (go_ret; exact ⟨by rfl, HB2.out⟩)))
set_option maxHeartbeats 8000000 in
theorem rnamed_14 : NamedSaid 14 := by
 intro nm v ns az cs B w hX hB hs hns haz
 obtain ⟨k, b, i, s, l, ks, la, lc, ka, kc, na, nc, xa, xc, hv, rfl, hop, hV, hNA, hXA, hNS, hAZ⟩ := hX.cells
 clear hX
 obtain ⟨q, hq⟩ := nam (namedB (.mk 14 nm v ns az))
 rw [hq]
 rw [namedB] at hq
 obtain ⟨n, hn⟩ := nam ns.length
 obtain ⟨m, hm⟩ := nam az.length
 have HN := Lib.hid hn
 have HM := Lib.hid hm
 rw [hn] at hNA hns
 rw [hm] at hXA haz
 try rw [hn] at hq
 try rw [hm] at hq
 rw [hn, hm]
 clear hn hm
 obtain ⟨W0, hW0⟩ : ∃ W0, w.alloc (.cells #[.int .i64 14, .string nm, .int .i64 k, .bool b, .int .i64 i, .string s, .slice la l.length lc, .slice ka ks.length kc, .slice na n nc, .slice xa m xc] 36) = W0 := ⟨_, rfl⟩
 have hb0 : Below w.heap.size w W0 := by rw [← hW0]; exact (Below.refl _ _).alloc (Nat.le_refl _) _
 have hx0 : Block W0 w.heap.size [.int .i64 14, .string nm, .int .i64 k, .bool b, .int .i64 i, .string s, .slice la l.length lc, .slice ka ks.length kc, .slice na n nc, .slice xa m xc] 36 := by rw [← hW0]; exact Block.new _ _ _
 have x0 := hx0.cell (i := 0) rfl
 have x1 := hx0.cell (i := 1) rfl
 have x2 := hx0.cell (i := 2) rfl
 have x3 := hx0.cell (i := 3) rfl
 have x4 := hx0.cell (i := 4) rfl
 have x5 := hx0.cell (i := 5) rfl
 have x6 := hx0.cell (i := 6) rfl
 have x7 := hx0.cell (i := 7) rfl
 have x8 := hx0.cell (i := 8) rfl
 have x9 := hx0.cell (i := 9) rfl
 rw [← hW0] at x0 x1 x2 x3 x4 x5 x6 x7 x8 x9
 obtain ⟨HB0, HX0, HW0, HV, HNS, HAZ⟩ := hd6 hb0 hx0 hW0 hV hNS hAZ
 clear hb0 hx0 hW0 hV hNS hAZ hop
 show Calls Tryz.prog 53 #[.agg #[.int .i64 14, .string nm, .int .i64 k, .bool b, .int .i64 i, .string s, .slice la l.length lc, .slice ka ks.length kc, .slice na n nc, .slice xa m xc]] w _
 rw [if_neg (ng 14 1), if_neg (ng 14 2), if_neg (ng 14 3), if_neg (ng 14 4), if_neg (ng 14 15), if_neg (ng 14 5), if_neg (ng 14 6), if_neg (ng 14 7), if_neg (ng 14 8), if_neg (ng 14 9), if_neg (ng 14 11), if_neg (ng 14 12), if_neg (ng 14 10), if_neg (ng 14 13), if_pos rfl] at hq
 obtain ⟨b0, h0⟩ : ∃ r, ((m : Int) == 1) = r := ⟨_, rfl⟩
 obtain ⟨b1, h1⟩ : ∃ r, ((m : Int) == 0) = r := ⟨_, rfl⟩
 obtain ⟨b2, h2⟩ : ∃ r, (nm.toList == [99, 111, 117, 110, 116]) = r := ⟨_, rfl⟩
 have Hagg : Hid (∀ u, Calls Tryz.prog 104 #[.string nm] u fun e w' => e = .returned (.bool (aggB nm)) ∧ Below u.heap.size u w') := Lib.hid (fun u => (ragg_any nm u).mono fun e w' h => ⟨h.1, h.2 ▸ Below.refl _ _⟩)
 obtain ⟨cagg, hagg⟩ := nam (aggB nm)
 rw [hagg] at Hagg
 rw [h0, h1, h2, hagg] at hq
 clear hagg
 subst hq
 cases b0 <;> cases b1 <;> cases b2 <;> cases cagg <;>
 ·go_enter Tryz.func53, Tryz.ntmps53
  go_wp2_with fail
  rw [HW0.out]
  first | (go_ret; exact ⟨by rfl, HB0.out⟩) | (refine (Hagg.out _).mono ?_; rintro e w1 ⟨rfl, hb1⟩; have HB1 := Lib.hid (below_step HB0.out rfl hb1); have HX1 := Lib.hid (HX0.out.below hb1 HX0.out.lt); have z10 := HX1.out.cell (i := 0) rfl; have z11 := HX1.out.cell (i := 1) rfl; have z19 := HX1.out.cell (i := 9) rfl; clear hb1; go_wp2_with fail; (go_ret; exact ⟨by rfl, HB1.out⟩))
end Go.Proofs.YtndhpdclpgemfaaGreat
