/- Parts X37, X38 of this seat (pruned, scripts that are alike kept once as default arguments: q1, q2, ..). Conditions: each says its own. -/
import Derived.Test.YtndhpdclpgemfaaGreatW20
namespace Go.Proofs.YtndhpdclpgemfaaGreat
open Go.RowKit Go.Shelf
set_option linter.unusedSimpArgs false
set_option linter.unusedVariables false
set_option maxRecDepth 100000
theorem clTail_drop {f : Bool} {l : List Clt} {j : Nat} {c : Clt} (h : l[j]? = some c) : clTail f (l.drop j) = (if f = true then [] else [32]) ++ (clauseX c ++ clTail false (l.drop (j + 1))) := by
 obtain ⟨hj, rfl⟩ := List.getElem?_eq_some_iff.1 h
 rw [List.drop_eq_getElem_cons hj]; rfl
theorem partsX_drop {w : List UInt8} {f : Bool} {l : List Part} {j : Nat} {p : Part} (h : l[j]? = some p) : partsX w f (l.drop j) = (if f = true then w else [44, 32]) ++ (partX p ++ partsX w false (l.drop (j + 1))) := by
 obtain ⟨hj, rfl⟩ := List.getElem?_eq_some_iff.1 h
 rw [List.drop_eq_getElem_cons hj]; rfl
theorem flat_drop {l : List Grt} {j : Nat} {g : Grt} (h : l[j]? = some g) : (l.drop j).flatMap groupX = groupX g ++ (l.drop (j + 1)).flatMap groupX := by
 obtain ⟨hj, rfl⟩ := List.getElem?_eq_some_iff.1 h
 rw [List.drop_eq_getElem_cons hj]; rfl
theorem head_len {a b c X : List UInt8} (h : a ++ (b ++ c) = X) : a.length + b.length ≤ X.length := by rw [← h]; simp only [List.length_append]; omega
theorem two_len {a b c d X : List UInt8} (h : a ++ (b ++ (c ++ d)) = X) : a.length + b.length + c.length ≤ X.length := by rw [← h]; simp only [List.length_append]; omega
theorem all_get {α : Type} {f : α → Bool} {l : List α} (h : l.all f = true) {x : α} (hx : x ∈ l) : f x = true := List.all_eq_true.1 h x hx
theorem rightB_parts {l : List Clt} (h : rightB ⟨l⟩ = true) {c : Clt} (hc : c ∈ l) {g : Grt} (hg : g ∈ groupsL c) {p : Part} (hp : p ∈ g.parts) : partM p = true := by
 unfold rightB at h
 simp only [Bool.and_eq_true] at h
 obtain ⟨i, hi⟩ := List.getElem?_of_mem hc
 have h1 := (clausesM_iff l).1 h.2.2.2 i c hi
 unfold clauseM at h1
 simp only [Bool.and_eq_true] at h1
 have h2 := all_get h1.2.2.2 hg
 unfold groupM at h2
 simp only [Bool.and_eq_true] at h2
 exact all_get h2.2.2 hp
set_option maxHeartbeats 64000000 in
theorem pprint_any (s : Smt) (HG : ∀ c ∈ s.clauses, GroupsAt c) (cs : List Value) (B : Nat) (w : World) (hX : IsSm B w cs s) (hB : B ≤ w.heap.size) (hML : ML w) (hw : wtSm s ≤ 1048576) :
    Calls Tryz.prog 10 #[.agg cs.toArray] w fun e w' => e = .returned (.tuple #[.string (printT s), .int .i64 (printE s)]) ∧ Below w.heap.size w w' := by
 obtain ⟨l⟩ := s
 obtain ⟨X, hX0⟩ := nam (stmtX l)
 have hxl := stmtX_len ⟨l⟩ hw
 simp only at hxl
 rw [hX0] at hxl
 obtain ⟨rq, hrq⟩ : ∃ r, rightB ⟨l⟩ = r := ⟨_, rfl⟩
 have hpt : printT ⟨l⟩ = if rq = true then (if scanOk (scanL X) = true then strOf X else ⟨#[]⟩) else ⟨#[]⟩ := by unfold printT; rw [hrq, hX0]
 have hpe : printE ⟨l⟩ = if rq = true then (if scanOk (scanL X) = true then 0 else 8) else 20 := by unfold printE; rw [hrq, hX0]
 obtain ⟨T, hT⟩ : ∃ T, printT ⟨l⟩ = T := ⟨_, rfl⟩
 obtain ⟨E, hE⟩ : ∃ E, printE ⟨l⟩ = E := ⟨_, rfl⟩
 rw [hT] at hpt ⊢
 rw [hE] at hpe ⊢
 have HTT := Lib.hid hpt
 have HTE := Lib.hid hpe
 clear hpt hpe hT hE
 have hX2 := hX
 obtain ⟨a, cc, rfl, hsl, hR⟩ := hX
 simp only at hsl hR hX2 ⊢
 obtain ⟨n, hn⟩ := nam l.length
 rw [hn] at hsl hX2 ⊢
 have HW : Hid (∀ c ∈ l, wtCl c ≤ 1048576) := Lib.hid (fun c hc => by have := sum_mem (f := wtCl) hc; unfold wtSm at hw; simp only at hw; omega)
 have HPT : Hid (∀ (c : Clt), c ∈ l → ∀ g ∈ groupsL c, ∀ p ∈ g.parts, rq = true → partM p = true) := Lib.hid (fun c hc g hg p hp hr => rightB_parts (by rw [hrq]; exact hr) hc hg hp)
 obtain ⟨W0, p0, hW0, hp0, hsz, hbe, hce⟩ := box_ext w [.slice a n cc] 24
 have e0 := fun u => hce u 0 _ rfl
 have HAT : Hid (∀ (j : Nat) c, l[j]? = some c → ∃ bb off cs, a = some ⟨bb, off, none⟩ ∧ bb < B ∧ cs.length = 22 ∧ (∀ (u : Ext (w.heap.size + 1) W0) (q : Nat) v, cs[q]? = some v → u.w.cell? ⟨bb, off + j * 22 + q, none⟩ = some v) ∧ ∀ u : Ext (w.heap.size + 1) W0, IsCl B u.w cs c) := Lib.hid (fun j c hc => hR.at_gen (R := fun v => IsCl B v) (f := fun u : Ext (w.heap.size + 1) W0 => u.w) hB hbe (fun u cs x h => h.below (hbe u) hB) hc)
 have HML : Hid (∀ u : Ext (w.heap.size + 1) W0, ML u.w) := Lib.hid (fun u => hML.below (hbe u))
 have HRI := Lib.hid (pright_any ⟨l⟩ HG [.slice a n cc] B p0.w (hX2.below (hbe p0) hB) (Nat.le_trans hB (hbe p0).size) (hML.below (hbe p0)) hw)
 rw [hrq] at HRI
 obtain ⟨HN, HX0, HXL, HBE, HSZ, HW0, HP0, HB⟩ := hd8 hn hX0 hxl hbe hsz hW0 hp0 hB
 have hsc : n ≤ 9223372036854775807 := by have := hsl.1; omega
 clear hR hn hbe hsz hW0 hp0 hce hB hML hw hsl hX2 hX0 hxl hrq
 go_enter Tryz.func10, Tryz.ntmps10
 go_upto_region 1 with fail
 rw [HW0.out, HP0.out]
 go_wp2_with fail
 refine HRI.out.mono ?_
 rintro e w2 ⟨rfl, hb⟩
 obtain ⟨p1, hp1⟩ := ext_next p0 HSZ.out hb
 subst hp1
 clear hb
 cases rq with
 | false =>
  have hT : T = ⟨#[]⟩ := HTT.out
  have hE : E = 20 := HTE.out
  subst hT
  subst hE
  go_wp2_with fail
  go_ret2
  exact ⟨rfl, HBE.out _⟩
 | true =>
  obtain ⟨W1, hW1⟩ : ∃ W1, p1.w.alloc (.cells #[.pointer none, .slice none 0 0] 74) = W1 := ⟨_, rfl⟩
  have hb1 : Below p1.w.heap.size p1.w W1 := by rw [← hW1]; exact (Below.refl _ _).alloc (Nat.le_refl _) _
  have hbl1 : Bld p1.w.heap.size p1.w.heap.size [] W1 := by rw [← hW1]; exact fresh_bld p1.w
  have HEX : Hid (∀ u : Kp p1.w.heap.size p1.w.heap.size W1, ∃ v : Ext (w.heap.size + 1) W0, u.w = v.w) := Lib.hid (fun u => ⟨⟨u.w, p1.below.trans ((hb1.trans u.below).mono (Nat.le_trans HSZ.out p1.below.size))⟩, rfl⟩)
  have HS1 : Hid (p1.w.heap.size < W1.heap.size) := Lib.hid hbl1.lt
  have HC1 : Hid (w.heap.size + 1 ≤ p1.w.heap.size) := Lib.hid (Nat.le_trans HSZ.out p1.below.size)
  have HBL1 := Lib.hid hbl1
  have HW1 := Lib.hid hW1
  have x0 : ∀ u : Kp p1.w.heap.size p1.w.heap.size W1, u.w.cell? ⟨w.heap.size, 0, none⟩ = some (.slice a n cc) := fun u => by obtain ⟨v, hv⟩ := HEX.out u; rw [hv]; exact e0 v
  clear hb1 hbl1 hW1
  obtain ⟨k0, hk0⟩ := Kp.start p1.w.heap.size p1.w.heap.size W1
  have HK0 := Lib.hid hk0
  clear hk0
  go_upto_region 4 with fail
  rw [HW1.out, HK0.out]
  go_wp2_with fail
  go_loopw [22] (fun iv wr => ∃ j : Nat, iv = .int .i64 j ∧ j ≤ n ∧ ∃ (u : Kp p1.w.heap.size p1.w.heap.size W1) (cur : List UInt8), wr = u.w ∧ Hid (Bld p1.w.heap.size p1.w.heap.size cur u.w) ∧ Hid (cur ++ clTail (j == 0) (l.drop j) = X)) (fun iv _ => n - (intOf iv).toNat)
  case atStart => exact ⟨0, rfl, Nat.zero_le _, k0, [], rfl, Lib.hid (by rw [← HK0.out]; exact HBL1.out), Lib.hid HX0.out⟩
  case round =>
   obtain ⟨j, rfl, hj, pu, cur, rfl, HBL, HT⟩ := hrel
   by_cases hlt : j < n
   ·have hlt' : (j : Int) < n := by omega
    have hj0 : (0 : Int) ≤ (j : Int) := by omega
    have hwi : IntKind.i64.wrap ((j : Int) + 1) = (j : Int) + 1 := IntWalk.i64_in _ (by omega)
    obtain ⟨c, hc⟩ := get_some (l := l) (j := j) (by have := HN.out; omega)
    have HC := Lib.hid hc
    have HWC : Hid (wtCl c ≤ 1048576) := Lib.hid (HW.out c (List.mem_of_getElem? hc))
    have HPC : Hid (∀ g ∈ groupsL c, ∀ p ∈ g.parts, partM p = true) := Lib.hid (fun g hg p hp => HPT.out c (List.mem_of_getElem? hc) g hg p hp (by first | rfl | trivial))
    clear hc
    obtain ⟨bb, off, cs, rfl, hbb, hcl, hcell, hic⟩ := HAT.out j c HC.out
    have HRG : Hid (pu.w.rangeAt bb (off + j * 22) cs) := Lib.hid (fun q v hv => by obtain ⟨v', hv'⟩ := HEX.out pu; rw [hv']; exact hcell v' q v hv)
    have hone := (cl_one (hic p0)).2
    obtain ⟨p2, hbx, hbl, hbk, hne, hth⟩ := kp_box pu (Nat.le_of_lt HS1.out) cur HBL.out [.int .i64 0, .slice none 0 0, .slice none 0 0, .int .i64 0, .string ⟨#[]⟩, .int .i64 0, .bool false, .int .i64 0, .string ⟨#[]⟩, .slice none 0 0, .slice none 0 0, .slice none 0 0, .slice none 0 0, .string ⟨#[]⟩, .slice none 0 0, .bool false, .slice none 0 0, .slice none 0 0, .slice none 0 0, .slice none 0 0, .slice none 0 0, .bool false] cs 42 hcl
    have HX1 := Lib.hid (show World.setCells _ _ 0 (cs.toArray).toList = p2.w from hbx)
    have HT1 : Hid (World.there _ pu.w.heap.size 0 cs.toArray.size) := Lib.hid hth
    have HONE := Lib.hid hone.1
    have HRK : Hid (∀ v : Kp p1.w.heap.size p1.w.heap.size p2.w, v.w.rangeAt pu.w.heap.size 0 cs) := Lib.hid (fun v => rangeAt_block (kp_block v hbk (by decide) hne))
    have HGC : Hid (∀ v : Kp p1.w.heap.size p1.w.heap.size p2.w, Calls Tryz.prog 25 #[.agg cs.toArray] v.w fun e w' => ∃ a n cap, e = .returned (.tuple #[.slice a n cap, .bool (groupsB c)]) ∧ n = (groupsL c).length ∧ SlOk a n cap ∧ GRow B w' a (groupsL c) ∧ Below v.w.heap.size v.w w') := Lib.hid (fun v => by
    obtain ⟨v', hv'⟩ := HEX.out (p2.trans v)
    have hv2 : v.w = v'.w := hv'
    rw [hv2]; exact HG c (List.mem_of_getElem? HC.out) cs B v'.w (hic v') (by have := HB.out; have := (HBE.out v').size; omega) HWC.out)
    have HCL := Lib.hid (show (Tryz.prog.info? 42).map (·.size) = some cs.length from by rw [hcl]; kernel_rfl)
    have HCL2 := Lib.hid (show (Tryz.prog.info? 42).map (·.size) = some cs.toArray.size from by rw [List.size_toArray, hcl]; kernel_rfl)
    have HBL2 := Lib.hid hbl
    have HSP2 : Hid (p1.w.heap.size ≤ p2.w.heap.size) := Lib.hid (Nat.le_trans (Nat.le_of_lt HS1.out) p2.below.size)
    obtain ⟨R1, hR1⟩ := nam (clTail false (l.drop (j + 1)))
    have HT2 : Hid (cur ++ ((if (j == 0) = true then [] else [32]) ++ (clauseX c ++ R1)) = X) := Lib.hid (by rw [← hR1, ← clTail_drop HC.out]; exact HT.out)
    have HR1 := Lib.hid hR1
    clear hcell hic hone hbx hbl hbk hth hcl hbb hne hR1
    go_upto_region 7 with (first | (refine wpList_load_mid rfl 42 _ rfl bb (off + j * 22) rfl cs _ HRG.out Tryz.underlying42 rfl HCL.out ?_) | (refine wpList_store_mid rfl 42 _ _ rfl pu.w.heap.size 0 cs.toArray rfl rfl HT1.out HCL2.out HONE.out ?_))
    rw [HX1.out]
    go_upto_if 28 with fail
    go_cut [] (fun wx => ∃ (v : Kp p1.w.heap.size p1.w.heap.size p2.w) (cur2 : List UInt8), wx = v.w ∧ Hid (Bld p1.w.heap.size p1.w.heap.size cur2 v.w) ∧ Hid (cur2 ++ (clauseX c ++ R1) = X))
    case first =>
     obtain ⟨k2, hk2⟩ := Kp.start p1.w.heap.size p1.w.heap.size p2.w
     have HBK2 : Hid (Bld p1.w.heap.size p1.w.heap.size cur k2.w) := Lib.hid (by rw [← hk2]; exact HBL2.out)
     have HSK2 : Hid (p1.w.heap.size ≤ k2.w.heap.size) := Lib.hid (by rw [← hk2]; exact HSP2.out)
     have HK2 := Lib.hid hk2
     clear hk2
     rcases j with _ | j
     ·have hz : decide (((0 : Nat) : Int) > 0) = false := by decide
      go_wp2_with fail
      go_meet
      exact ⟨k2, cur, HK2.out, HBK2, Lib.hid (by have := HT2.out; simpa using this)⟩
     ·have hz : decide ((0 : Int) < ((j + 1 : Nat) : Int)) = true := by first | (simp; done) | (simp; omega)
      have hln : cur.length + 1 ≤ 140737488355328 := by have h := head_len HT2.out; have := HXL.out; simp at h; omega
      have HWB := Lib.hid (kp_write k2 (bld_byte p1.w.heap.size p1.w.heap.size cur 32 k2.w HBK2.out hln HSK2.out (by decide)))
      clear hln
      rw [HK2.out]
      go_wp2_with fail
      refine HWB.out.mono ?_
      rintro e w4 ⟨rfl, v4, rfl, hb4⟩
      go_wp2_with fail
      go_meet
      exact ⟨v4, _, rfl, Lib.hid hb4, Lib.hid (by have := HT2.out; simpa using this)⟩
    case rest =>
     obtain ⟨p3, cur3, hwc, HBL3, HT3⟩ := hcut
     subst hwc
     have HRK3 := Lib.hid (HRK.out p3)
     go_wp2_with (refine wpList_load_mid rfl 42 _ rfl pu.w.heap.size 0 rfl cs _ HRK3.out Tryz.underlying42 rfl HCL.out ?_)
     refine (HGC.out p3).mono ?_
     rintro e w5 ⟨ga, gn, gc, rfl, hgn, hgs, hgr, hgb⟩
     obtain ⟨p4, hp4⟩ := kp_next (p2.trans p3) (Nat.le_of_lt HS1.out) hgb
     subst hp4
     have hbl4 : Bld p1.w.heap.size p1.w.heap.size cur3 p4.w := HBL3.out.below hgb
     have HBL4 := Lib.hid hbl4
     have HGR : Hid (∀ v : Kp p1.w.heap.size p1.w.heap.size p4.w, GRow B v.w ga (groupsL c)) := Lib.hid (fun v => hgr.kp v (by have := HB.out; have := HC1.out; omega) (bld_there hbl4))
     have HGN := Lib.hid hgn
     have hgsc : gn ≤ 9223372036854775807 := by have := hgs.1; omega
     have HS4 : Hid (p1.w.heap.size ≤ p4.w.heap.size) := Lib.hid (Nat.le_trans (Nat.le_of_lt HS1.out) p4.below.size)
     have HML4 : Hid (∀ v : Kp p1.w.heap.size p1.w.heap.size p4.w, ML v.w) := Lib.hid (fun v => by obtain ⟨v', hv'⟩ := HEX.out (p4.trans v); have h : v.w = v'.w := hv'; rw [h]; exact HML.out v')
     clear hgn hgs hgr hgb hbl4
     go_wp2_with fail
     go_loopw [37] (fun iv wr => ∃ k : Nat, iv = .int .i64 k ∧ k ≤ gn ∧ ∃ (u : Kp p1.w.heap.size p1.w.heap.size p4.w) (cur : List UInt8), wr = u.w ∧ Hid (Bld p1.w.heap.size p1.w.heap.size cur u.w) ∧ Hid (cur ++ (((groupsL c).drop k).flatMap groupX ++ R1) = X)) (fun iv _ => gn - (intOf iv).toNat)
     case atStart =>
      obtain ⟨k4, hk4⟩ := Kp.start p1.w.heap.size p1.w.heap.size p4.w
      exact ⟨0, rfl, Nat.zero_le _, k4, cur3, hk4, Lib.hid (by rw [← hk4]; exact HBL4.out), HT3⟩
     case round =>
       obtain ⟨k, rfl, hk, q4, cur4, rfl, HBLq, HTq⟩ := hrel
       by_cases hlt2 : k < gn
       · have hlt2' : (k : Int) < gn := by omega
         have hk0 : (0 : Int) ≤ (k : Int) := by omega
         have hwk : IntKind.i64.wrap ((k : Int) + 1) = (k : Int) + 1 := IntWalk.i64_in _ (by omega)
         obtain ⟨g, hg⟩ := get_some (l := groupsL c) (j := k) (by have := HGN.out; omega)
         have HGK := Lib.hid hg
         have HWG : Hid (∀ p ∈ g.parts, wtPart p ≤ 1048576 ∧ partM p = true) := Lib.hid (fun p hp => ⟨Nat.le_trans (groups_wt c g (List.mem_of_getElem? hg) p hp) HWC.out, HPC.out g (List.mem_of_getElem? hg) p hp⟩)
         clear hg
         obtain ⟨gbb, gcs, rfl, hgl, -, hgc, pa, pc, rfl, hps, hpr⟩ := HGR.out q4 k g HGK.out
         obtain ⟨word, parts, least, most⟩ := g
         simp only at hps hpr hgc HWG
         obtain ⟨R2, hR2⟩ := nam (((groupsL c).drop (k + 1)).flatMap groupX ++ R1)
         have HT5 : Hid (cur4 ++ (partsX word.data.toList true parts ++ R2) = X) := Lib.hid (by rw [← hR2]; have h := HTq.out; rw [flat_drop HGK.out, List.append_assoc] at h; exact h)
         have HR2 := Lib.hid hR2
         clear hR2
         obtain ⟨pn, hpn⟩ := nam parts.length
         rw [hpn] at hps hgc
         have HPN := Lib.hid hpn
         clear hpn
         have g0 : q4.w.cell? ⟨gbb, k * 4, none⟩ = some _ := hgc 0 _ rfl
         have g1 := hgc 1 _ rfl
         have g2 := hgc 2 _ rfl
         have g3 := hgc 3 _ rfl
         obtain ⟨q5, hal, hvb, hbk, hne⟩ := kp_alloc q4 HS4.out cur4 HBLq.out [.string word, .slice pa pn pc, .int .i64 least, .int .i64 most] 83
         have HX5 := Lib.hid hal
         have HBL5 := Lib.hid hvb
         have b0 : ∀ v : Kp p1.w.heap.size p1.w.heap.size q5.w, v.w.cell? ⟨q4.w.heap.size, 0, none⟩ = some _ := fun v => (kp_block v hbk (by decide) hne).cell (i := 0) rfl
         have b1 : ∀ v : Kp p1.w.heap.size p1.w.heap.size q5.w, v.w.cell? ⟨q4.w.heap.size, 1, none⟩ = some _ := fun v => (kp_block v hbk (by decide) hne).cell (i := 1) rfl
         obtain ⟨k5, hk5⟩ := Kp.start p1.w.heap.size p1.w.heap.size q5.w
         have HK5 := Lib.hid hk5
         have hpsc : pn ≤ 9223372036854775807 := by have := hps.1; omega
         have HPR : Hid (∀ v : Kp p1.w.heap.size p1.w.heap.size q5.w, PartT B v.w pa parts) := Lib.hid (fun v => by
     have h : PartT B q5.w pa parts := by
       obtain ⟨gb2, gcs2, h1, -, -, h4, pa2, pc2, h5, h6, h7⟩ := HGR.out q5 k _ HGK.out
       have hh := h4 1 _ (by rw [h5]; rfl)
       have h8 := (show q5.w.cell? ⟨gbb, k * 4 + 1, none⟩ = some (.slice pa pn pc) from by rw [← hal]; exact (((Below.refl _ _).alloc (Nat.le_refl _) _).cell (p := ⟨gbb, _, none⟩) hgl).trans g1)
       injection h1 with h1
       injection h1 with h1
       subst h1
       rw [h8] at hh
       injection hh with hh
       injection hh with hh
       subst hh
       exact h7
     exact h.kp v (by have := HB.out; have := HC1.out; omega) (bld_there hvb))
         clear hal hvb hbk hne hgc hps hpr hgl hk5
         go_upto_region 13 with fail
         rw [HX5.out, HK5.out]
         clear g0 g1 g2 g3
         go_wp2_with fail
         go_loopw [44] (fun iv wr => ∃ m : Nat, iv = .int .i64 m ∧ m ≤ pn ∧ ∃ (u : Kp p1.w.heap.size p1.w.heap.size q5.w) (cur : List UInt8), wr = u.w ∧ Hid (Bld p1.w.heap.size p1.w.heap.size cur u.w) ∧ Hid (cur ++ (partsX word.data.toList (m == 0) (parts.drop m) ++ R2) = X)) (fun iv _ => pn - (intOf iv).toNat)
         case atStart => exact ⟨0, rfl, Nat.zero_le _, k5, cur4, rfl, Lib.hid (by rw [← HK5.out]; exact HBL5.out), HT5⟩
         case round =>
           obtain ⟨m, rfl, hm, v6, cur6, rfl, HBL6, HT6⟩ := hrel
           by_cases hlt3 : m < pn
           · have hlt3' : (m : Int) < pn := by omega
             have hm0 : (0 : Int) ≤ (m : Int) := by omega
             have hwm : IntKind.i64.wrap ((m : Int) + 1) = (m : Int) + 1 := IntWalk.i64_in _ (by omega)
             obtain ⟨p, hp⟩ := get_some (l := parts) (j := m) (by have := HPN.out; omega)
             have hwp := HWG.out p (List.mem_of_getElem? hp)
             obtain ⟨vs, hcs, hvl, hvp⟩ := HPR.out v6
             obtain ⟨pv, hpv, hip⟩ := hvp m p hp
             rcases hcs with hcs | ⟨pb, rfl, hpb, -, hpc⟩
             · rw [hcs] at hpv; cases hpv
             have hcp : v6.w.cell? ⟨pb, m, none⟩ = some pv := hpc m _ hpv
             have HTX : Hid (∀ v : Kp p1.w.heap.size p1.w.heap.size v6.w, Calls Tryz.prog 27 #[pv] v.w fun e w' => e = .returned (.string (strOf (partX p))) ∧ Below v.w.heap.size v.w w') := Lib.hid (fun v => stext_any p pv B v.w (hip.below (v.below.mono (by have := HB.out; have := HC1.out; omega)) (Nat.le_refl _)) (by have := HB.out; have := HC1.out; have h1 := v6.below.size; have h2 := v.below.size; have h3 := HS4.out; have h4 := (show p4.w.heap.size ≤ q5.w.heap.size from q5.below.size); omega) (HML4.out ((q5.trans v6).trans v)) hwp.2 (Nat.le_trans hwp.1 (by decide)))
             obtain ⟨R3, hR3⟩ := nam (partsX word.data.toList false (parts.drop (m + 1)) ++ R2)
             have HT7 : Hid (cur6 ++ ((if (m == 0) = true then word.data.toList else [44, 32]) ++ (partX p ++ R3)) = X) := Lib.hid (by rw [← hR3]; have h := HT6.out; rw [partsX_drop hp, List.append_assoc, List.append_assoc] at h; exact h)
             have HR3 := Lib.hid hR3
             have HS6 : Hid (p1.w.heap.size ≤ v6.w.heap.size) := Lib.hid (by have h1 := v6.below.size; have h3 := HS4.out; have h4 := (show p4.w.heap.size ≤ q5.w.heap.size from q5.below.size); omega)
             clear hvl hvp hpv hip hpc hpb hp hwp hR3
             obtain ⟨k6, hk6⟩ := Kp.start p1.w.heap.size p1.w.heap.size v6.w
             have HBK6 : Hid (Bld p1.w.heap.size p1.w.heap.size cur6 k6.w) := Lib.hid (by rw [← hk6]; exact HBL6.out)
             have HSK6 : Hid (p1.w.heap.size ≤ k6.w.heap.size) := Lib.hid (by rw [← hk6]; exact HS6.out)
             have hcp6 : k6.w.cell? ⟨pb, m, none⟩ = some pv := by rw [← hk6]; exact hcp
             have bw : k6.w.cell? ⟨q4.w.heap.size, 0, none⟩ = some (.string word) := b0 (v6.trans k6)
             have HK6 := Lib.hid hk6
             clear hk6 hcp
             have HLN : Hid (cur6.length + (if (m == 0) = true then word.data.toList else [44, 32]).length + (partX p).length ≤ 549755813888) := Lib.hid (Nat.le_trans (two_len HT7.out) HXL.out)
             rw [HK6.out]
             rcases m with _ | m
             · have HWS := Lib.hid (kp_write k6 (bld_string p1.w.heap.size p1.w.heap.size cur6 word k6.w HBK6.out (by have := HLN.out; have hh := ba_len word; simp at this; omega) HSK6.out))
               have hz : decide (((0 : Nat) : Int) = 0) = true := by decide
               go_wp2_with fail
               refine HWS.out.mono ?_
               rintro e w7 ⟨rfl, v7, rfl, hb7⟩
               have HB7 := Lib.hid hb7
               clear hb7
               go_wp2_with fail
               refine (kp_grow v7 HS6.out HB7.out (HTX.out v7)).mono ?_
               rintro e w8 ⟨rfl, v8, rfl, hb8⟩
               have HW8 := Lib.hid (kp_write v8 (bld_string p1.w.heap.size p1.w.heap.size _ (strOf (partX p)) v8.w hb8 (by have := HLN.out; have hh := ba_len (strOf (partX p)); rw [strOf_data] at hh; simp only [List.length_append] at this ⊢; have h9 := ba_len word; simp at this; omega) (Nat.le_trans HS6.out v8.below.size)))
               clear hb8
               go_wp2_with fail
               refine HW8.out.mono ?_
               rintro e w9 ⟨rfl, v9, rfl, hb9⟩
               have HB9 := Lib.hid hb9
               clear hb9
               go_wp2_with fail
               go_roundw
               case rel => exact ⟨0 + 1, by go_num, by omega, v6.trans v9, _, rfl, HB9, Lib.hid (by have h := HT7.out; have h2 := HR3.out; rw [← h2] at h; rw [strOf_data]; simpa using h)⟩
               case measure => simp [intOf]; omega
             · have HWS := Lib.hid (kp_write k6 (bld_string p1.w.heap.size p1.w.heap.size cur6 ⟨#[44, 32]⟩ k6.w HBK6.out (by have := HLN.out; have hh : (⟨#[44, 32]⟩ : ByteArray).size = 2 := rfl; simp at this; omega) HSK6.out))
               have hz : (((m + 1 : Nat) : Int) == 0) = false := by simp; omega
               go_wp2_with fail
               refine HWS.out.mono ?_
               rintro e w7 ⟨rfl, v7, rfl, hb7⟩
               have HB7 := Lib.hid hb7
               clear hb7
               go_wp2_with fail
               refine (kp_grow v7 HS6.out HB7.out (HTX.out v7)).mono ?_
               rintro e w8 ⟨rfl, v8, rfl, hb8⟩
               have HW8 := Lib.hid (kp_write v8 (bld_string p1.w.heap.size p1.w.heap.size _ (strOf (partX p)) v8.w hb8 (by have := HLN.out; have hh := ba_len (strOf (partX p)); rw [strOf_data] at hh; simp only [List.length_append] at this ⊢; have h9 := ba_len (⟨#[44, 32]⟩ : ByteArray); simp at this; have h7 : ([44, 32] : List UInt8).length = 2 := rfl; omega) (Nat.le_trans HS6.out v8.below.size)))
               clear hb8
               go_wp2_with fail
               refine HW8.out.mono ?_
               rintro e w9 ⟨rfl, v9, rfl, hb9⟩
               have HB9 := Lib.hid hb9
               clear hb9
               go_wp2_with fail
               go_roundw
               case rel => exact ⟨m + 1 + 1, by go_num, by omega, v6.trans v9, _, rfl, HB9, Lib.hid (by have h := HT7.out; have h2 := HR3.out; rw [← h2] at h; rw [strOf_data]; simpa using h)⟩
               case measure => simp [intOf]; omega
           · have hlt3' : ¬ (m : Int) < pn := by omega
             have HTZ : Hid (cur6 ++ R2 = X) := Lib.hid (by have h := HT6.out; rw [List.drop_of_length_le (by have := HPN.out; omega)] at h; simpa [partsX] using h)
             go_wp2_with fail
             go_roundw
             case rel => exact ⟨k + 1, by go_num, by omega, q5.trans v6, cur6, rfl, HBL6, Lib.hid (by rw [HR2.out]; exact HTZ.out)⟩
             case measure => simp [intOf]; omega
       · have hlt2' : ¬ (k : Int) < gn := by omega
         have HTY : Hid (cur4 ++ R1 = X) := Lib.hid (by have h := HTq.out; rw [List.drop_of_length_le (by have := HGN.out; omega)] at h; simpa using h)
         go_wp2_with fail
         go_roundw
         case rel => exact ⟨j + 1, by go_num, by omega, p4.trans q4, cur4, rfl, HBLq, Lib.hid (by rw [show ((j + 1 : Nat) == 0) = false from by simp, HR1.out]; exact HTY.out)⟩
         case measure => simp [intOf]; omega
   ·have hlt' : ¬ (j : Int) < n := by omega
    have hcx : cur = X := by have h := HT.out; rw [List.drop_of_length_le (by have := HN.out; omega)] at h; simpa [clTail] using h
    subst hcx
    have HST := Lib.hid (kp_write pu (bld_str p1.w.heap.size p1.w.heap.size cur pu.w HBL.out (Nat.le_trans (Nat.le_of_lt HS1.out) pu.below.size)))
    go_wp2_with fail
    refine HST.out.mono ?_
    rintro e w7 ⟨rfl, v7, rfl, hb7⟩
    have HB7 := Lib.hid hb7
    clear hb7
    obtain ⟨x7, hx7⟩ := HEX.out v7
    obtain ⟨hm0, mm, hmm⟩ := HML.out x7
    rw [← hx7] at hm0 hmm
    clear hx7
    have HSC := Lib.hid (scan_any (strOf cur) mm v7.w (by have := HXL.out; have hh := ba_len (strOf cur); rw [strOf_data] at hh; omega) hmm hm0)
    rw [strOf_data] at HSC
    clear hmm hm0
    go_wp2_with fail
    refine HSC.out.mono ?_
    rintro e w8 ⟨hsc8, hb8⟩
    obtain ⟨v8, hv8⟩ := kp_next v7 (Nat.le_of_lt HS1.out) hb8
    subst hv8
    have hbl8 := HB7.out.below hb8
    clear hb8
    obtain ⟨xf, hxf⟩ := HEX.out v8
    have HBF : Hid (Below w.heap.size w v8.w) := Lib.hid (by rw [hxf]; exact HBE.out xf)
    clear hxf
    cases hsr : scanL cur with
    | ok tl =>
     have HSR : Hid (scanOk (scanL cur) = true) := Lib.hid (by rw [hsr]; rfl)
     rw [hsr] at hsc8
     obtain ⟨vt, rfl, -⟩ := hsc8
     have hT : T = strOf cur := HTT.out.trans (by simp [HSR.out])
     have hE : E = 0 := HTE.out.trans (by simp [HSR.out])
     subst hT
     subst hE
     have HST8 := Lib.hid (kp_write v8 (bld_str p1.w.heap.size p1.w.heap.size cur v8.w hbl8 (Nat.le_trans (Nat.le_of_lt HS1.out) v8.below.size)))
     clear hbl8 hsr
     go_wp2_with fail
     refine HST8.out.mono ?_
     rintro e w9 ⟨rfl, v9, rfl, -⟩
     go_wp2_with fail
     go_ret2
     obtain ⟨x9, hx9⟩ := HEX.out v9
     exact ⟨by rfl, by rw [hx9]; exact HBE.out x9⟩
    | bad tp tx =>
     rw [hsr] at hsc8
     have hsc8 : _ = _ := hsc8
     subst hsc8
     obtain ⟨zb, hzb⟩ := nam ((tx == 0))
     have HSR : Hid (scanOk (scanL cur) = zb) := Lib.hid (by rw [hsr]; exact hzb)
     have hzn : (tx != 0) = !zb := by rw [← hzb]; rfl
     have HST8 := Lib.hid (kp_write v8 (bld_str p1.w.heap.size p1.w.heap.size cur v8.w hbl8 (Nat.le_trans (Nat.le_of_lt HS1.out) v8.below.size)))
     clear hbl8 hsr hzb
     cases zb with
     | true =>
      have hT : T = strOf cur := HTT.out.trans (by simp [HSR.out])
      have hE : E = 0 := HTE.out.trans (by simp [HSR.out])
      subst hT
      subst hE
      go_wp2_with fail
      refine HST8.out.mono ?_
      rintro e w9 ⟨rfl, v9, rfl, -⟩
      go_wp2_with fail
      go_ret2
      obtain ⟨x9, hx9⟩ := HEX.out v9
      exact ⟨by rfl, by rw [hx9]; exact HBE.out x9⟩
     | false =>
      have hT : T = ⟨#[]⟩ := HTT.out.trans (by simp [HSR.out])
      have hE : E = 8 := HTE.out.trans (by simp [HSR.out])
      subst hT
      subst hE
      go_wp2_with fail
      go_ret2
      exact ⟨by rfl, HBF.out⟩
theorem flatS_get {size : Nat} : ∀ (css : List (List Value)) (i j : Nat) (cs : List Value) (v : Value), (∀ cs ∈ css, cs.length = size) → css[i]? = some cs → cs[j]? = some v → css.flatten[i * size + j]? = some v
  | [], _, _, _, _, _, h, _ => by simp at h
  | c :: r, 0, j, cs, v, hl, h, hv => by
    simp only [List.getElem?_cons_zero] at h
    have h := Option.some.inj h
    subst h
    rw [List.flatten_cons, Nat.zero_mul, Nat.zero_add, List.getElem?_append_left (List.getElem?_eq_some_iff.1 hv).1]
    exact hv
  | c :: r, i + 1, j, cs, v, hl, h, hv => by
    have h4 := hl c (List.mem_cons_self ..)
    rw [List.getElem?_cons_succ] at h
    rw [List.flatten_cons, List.getElem?_append_right (by rw [Nat.add_mul, Nat.one_mul]; omega), h4, show (i + 1) * size + j - size = i * size + j from by rw [Nat.add_mul, Nat.one_mul]; omega]
    exact flatS_get r i j cs v (fun cs hc => hl cs (List.mem_cons_of_mem _ hc)) h hv
inductive AllR {α : Type} (R : List Value → α → Prop) (size : Nat) : List (List Value) → List α → Prop where
  | nil : AllR R size [] []
  | cons {cs x css l} (h : R cs x) (hl : cs.length = size) (hs : AllR R size css l) : AllR R size (cs :: css) (x :: l)
theorem AllR.lens {α : Type} {R : List Value → α → Prop} {size : Nat} {css : List (List Value)} {l : List α} (h : AllR R size css l) : ∀ cs ∈ css, cs.length = size := by
 induction h with
 | nil => intro cs hc; simp at hc
 | cons h hl hs ih =>
  intro cs hc
  rcases List.mem_cons.1 hc with rfl | hc
  ·exact hl
  ·exact ih cs hc
theorem AllR.get {α : Type} {R : List Value → α → Prop} {size : Nat} {css : List (List Value)} {l : List α} (h : AllR R size css l) : ∀ (i : Nat) x, l[i]? = some x → ∃ cs, css[i]? = some cs ∧ cs.length = size ∧ R cs x := by
 induction h with
 | nil => intro i g hg; simp at hg
 | cons h hl hs ih =>
  intro i g hg
  cases i with
  | zero => simp only [List.getElem?_cons_zero, Option.some.injEq] at hg; subst hg; exact ⟨_, rfl, hl, h⟩
  | succ i => rw [List.getElem?_cons_succ] at hg; exact ih i g hg
theorem rowR_block {α : Type} {R : List Value → α → Prop} {size B : Nat} {w : World} {b : Nat} {t : TypeId} {cells : List Value} {css : List (List Value)} {l : List α} (hb : Block w b cells t) (hc : cells = css.flatten) (hbB : b < B) (h : AllR R size css l) : RowR R size B w (some ⟨b, 0, none⟩) l := by
 intro i x hx
 obtain ⟨cs, h1, h2, h3⟩ := h.get i x hx
 refine ⟨b, 0, cs, rfl, hbB, h2, fun j v hv => ?_, h3⟩
 rw [Nat.zero_add]
 exact hb.cell (by rw [hc]; exact flatS_get css i j cs v h.lens h1 hv)
def exC (op : Int) (nm : ByteArray) (xa : Option Addr) (n : Nat) : List Value := [.int .i64 op, .string nm, .int .i64 0, .bool false, .int .i64 0, .string ⟨#[]⟩, .slice none 0 0, .slice none 0 0, .slice none 0 0, .slice xa n n]
theorem args_isX {B : Nat} {w : World} {op : Int} {nm : ByteArray} {xa : Option Addr} {az : List Ex} (ho : in64 op) (hs : SlOk xa az.length az.length) (hr : RowR (IsX B w) 10 B w xa az) : IsX B w (exC op nm xa az.length) (.mk op nm emptyV [] az) := by
 unfold IsX
 exact ⟨zeroC, none, 0, xa, az.length, rfl, ho, empty_isV _ _, nil_sl, hs, Cells.nil, isXs_iff.2 hr⟩
def wX : Ex := .mk 2 ⟨#[120]⟩ emptyV [] []
def wSum : Ex := .mk 10 ⟨#[43]⟩ emptyV [] [wX, wX]
def wMul : Ex := .mk 10 ⟨#[42]⟩ emptyV [] [wSum, wX]
def wCl : Clt := { bareC 9 with items := [⟨wSum, ⟨#[121]⟩⟩] }
theorem wMul_deep : deepB 32 wMul = true := by kernel_rfl
theorem wMul_text : strOf (textX wMul) = ⟨#[40, 120, 32, 43, 32, 120, 41, 32, 42, 32, 120]⟩ := by kernel_rfl
theorem wCl_right : rightB ⟨[wCl]⟩ = true := by kernel_rfl
theorem wCl_text : stmtX [wCl] = [82, 69, 84, 85, 82, 78, 32, 120, 32, 43, 32, 120, 32, 65, 83, 32, 121] := by kernel_rfl
theorem wCl_scan : scanOk (scanL [82, 69, 84, 85, 82, 78, 32, 120, 32, 43, 32, 120, 32, 65, 83, 32, 121]) = true := by kernel_rfl
theorem wCl_print : printT ⟨[wCl]⟩ = ⟨#[82, 69, 84, 85, 82, 78, 32, 120, 32, 43, 32, 120, 32, 65, 83, 32, 121]⟩ ∧ printE ⟨[wCl]⟩ = 0 := by
 unfold printT printE
 rw [wCl_right, wCl_text, wCl_scan]
 exact ⟨by rfl, rfl⟩
end Go.Proofs.YtndhpdclpgemfaaGreat
