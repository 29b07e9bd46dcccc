/- Parts L14, L15, L10, L11, L16, L17, L18 of this seat (pruned, scripts that are alike kept once as default arguments: q1, q2, ..). Conditions: each says its own. -/
import Derived.Test.YteljlahcdipilaaGreatF9
namespace Go.Proofs.YteljlahcdipilaaGreat
set_option maxRecDepth 100000
open Go.RowKit Go.Shelf
set_option linter.unusedSimpArgs false
set_option linter.unusedVariables false
theorem oneL_num {r : List UInt8} (h : letter (nb r 0) = false) (h2 : digt (nb r 0) = true) (h3 : (parseOf (r.take (spanB digt r))).2 = 0) : oneL r = .tok ⟨3, [], (parseOf (r.take (spanB digt r))).1⟩ (spanB digt r) := by
 unfold oneL; rw [h, if_neg (by decide), h2, if_pos rfl, if_pos h3]
theorem oneL_numbad {r : List UInt8} (h : letter (nb r 0) = false) (h2 : digt (nb r 0) = true) (h3 : ¬ (parseOf (r.take (spanB digt r))).2 = 0) : oneL r = .bad (parseOf (r.take (spanB digt r))).2 := by
 unfold oneL; rw [h, if_neg (by decide), h2, if_pos rfl, if_neg h3]
theorem oneL_q {r : List UInt8} (h : nb r 0 = 39) : oneL r = match qd (r.drop 1) with | none => .bad 1 | some (x, rest) => .tok ⟨4, x, 0⟩ (r.length - rest.length) := by
 unfold oneL; rw [h, if_neg (by decide), if_neg (by decide), if_pos rfl]
 all_goals (generalize qd (r.drop 1) = o; cases o <;> rfl)
theorem oneL_sign {r : List UInt8} (h : letter (nb r 0) = false) (h2 : digt (nb r 0) = false) (h3 : ¬ nb r 0 = 39) : oneL r = if signL r = [] then .bad 1 else .tok ⟨5, signL r, 0⟩ (signL r).length := by
 unfold oneL; rw [h, if_neg (by decide), h2, if_neg (by decide), if_neg h3]
theorem own_heap {w w' : World} {B : Nat} {e : TypeId} {size : Nat} {v : Value} {n : Nat} {xs : List Value} (h : w.ownsRow B e size v n xs) (hk : ∀ k, v.ownBlock = some k → w'.heap[k]? = w.heap[k]?) : w'.ownsRow B e size v n xs := by
 refine ⟨h.1, ?_⟩
 rcases h.2 with h2 | ⟨g, cap, cur, rfl, hb, hg, rest⟩
 ·exact .inl h2
 ·exact .inr ⟨g, cap, cur, rfl, hb, (hk g rfl).trans hg, rest⟩
theorem own_set {w : World} {B : Nat} {e : TypeId} {size : Nat} {v : Value} {n : Nat} {xs : List Value} (h : w.ownsRow B e size v n xs) {a : Addr} (ha : ∀ k, v.ownBlock = some k → k ≠ a.block) (x : Value) : (w.setCell a x).ownsRow B e size v n xs :=
  own_heap h (fun k hk => Below.heap_setCell _ _ _ _ (ha k hk))
theorem own_below {w w' : World} {B : Nat} {e : TypeId} {size : Nat} {v : Value} {n : Nat} {xs : List Value} (h : w.ownsRow B e size v n xs) (hb : Below w.heap.size w w') : w'.ownsRow B e size v n xs :=
  own_heap h (fun k hk => hb.block k (h.lt k hk).2)
theorem own_form {w : World} {B : Nat} {e : TypeId} {size : Nat} {v : Value} {n : Nat} {xs : List Value} (h : w.ownsRow B e size v n xs) : ∃ a cap, v = .slice a n cap := by
 rcases h.2 with ⟨rfl, rfl⟩ | ⟨g, cap, cur, rfl, _⟩
 ·exact ⟨none, 0, rfl⟩
 ·exact ⟨_, _, rfl⟩
theorem heap_newN (w : World) (n : Nat) (o : Obj) (h : w.heap.size = n) : (w.alloc o).heap[n]? = some o := by subst h; exact heap_alloc_new w o
theorem Tryz.infoTok : (Tryz.prog.info? 31).map (fun i => (i.zero, i.size, i.bytes)) = some (some (.agg #[.int .i64 0, .string ⟨#[]⟩, .int .i64 0, .int .i64 0]), 4, 40) := by kernel_rfl
def tokC (x : Tok × Nat) : List Value := [.int .i64 x.1.k, .string (strOf x.1.t), .int .i64 x.1.n, .int .i64 x.2]
def tokCells (l : List (Tok × Nat)) : List Value := l.flatMap tokC
theorem tokCells_snoc (l : List (Tok × Nat)) (x : Tok × Nat) : tokCells (l ++ [x]) = tokCells l ++ tokC x := by simp [tokCells]
def ScanE (r : ScanR) (B : Nat) (e : Ending) (w' : World) : Prop :=
  match r with
  | .bad p x => e = .returned (.tuple #[.slice none 0 0, .int .i64 p, .int .i64 x])
  | .ok l => ∃ v, e = .returned (.tuple #[v, .int .i64 0, .int .i64 0]) ∧ w'.ownsRow B 31 4 v l.length (tokCells l)
def ScanP (r : ScanR) (w : World) (e : Ending) (w' : World) : Prop := ScanE r w.heap.size e w' ∧ Below w.heap.size w w'
theorem scanN_at (f : Nat) (L : List UInt8) (p j : Nat) (acc : List (Tok × Nat)) (hj : p ≤ j) (h : spanB blankB (L.drop p) = j - p) :
    scanN (f + 1) (L.drop p) p acc = if L.drop j = [] then (if 4096 ≤ acc.length then .bad j 8 else .ok (acc ++ [(⟨6, [], 0⟩, j)]))
      else match oneL (L.drop j) with
        | .bad e => .bad j e
        | .tok t n => if 4096 ≤ acc.length then .bad j 8 else scanN f (L.drop (j + n)) (j + n) (acc ++ [(t, j)]) := by
 rw [scanN, h, List.drop_drop, show p + (j - p) = j from by omega]
 by_cases hd : L.drop j = []
 ·rw [if_pos hd, if_pos hd]
 ·rw [if_neg hd, if_neg hd]
  cases oneL (L.drop j) with
  | bad e => rfl
  | tok t n => simp only [List.drop_drop]
theorem oneL_kind {r : List UInt8} {t : Tok} {n : Nat} (h : oneL r = .tok t n) : 1 ≤ t.k ∧ t.k ≤ 5 := by
 unfold oneL at h
 split at h
 ·split at h
  ·cases h
  ·split at h <;> (cases h; exact ⟨by simp, by simp⟩)
 ·split at h
  ·split at h
   ·cases h; exact ⟨by simp, by simp⟩
   ·cases h
  ·split at h
   ·split at h
    ·cases h
    ·cases h; exact ⟨by simp, by simp⟩
   ·split at h
    ·cases h
    ·cases h; exact ⟨by simp, by simp⟩
theorem oneL_size {r : List UInt8} {t : Tok} {n : Nat} (hr : r ≠ []) (h : oneL r = .tok t n) : 1 ≤ n ∧ n ≤ r.length :=
  oneL_len hr h (fun x rest hq => by
    obtain ⟨j, hj, _, hr2⟩ := qd_last _ _ rfl _ _ hq
    have : 0 < r.length := List.length_pos_iff.2 hr
    rw [hr2, List.length_drop, List.length_drop]; omega)
theorem oneL_ne {r : List UInt8} {e : Int} (h : oneL r = .bad e) : e ≠ 0 := by
 unfold oneL at h
 split at h
 ·split at h
  ·cases h; decide
  ·split at h <;> cases h
 ·split at h
  ·split at h
   ·cases h
   ·rename_i hp
    cases h; exact hp
  ·split at h
   ·split at h
    ·cases h; decide
    ·cases h
   ·split at h
    ·cases h; decide
    ·cases h
end Go.Proofs.YteljlahcdipilaaGreat
namespace Go.Proofs.YteljlahcdipilaaGreat
set_option maxRecDepth 100000
open Go.RowKit
set_option linter.unusedSimpArgs false
set_option linter.unusedVariables false
theorem blank_any (c : Nat) (hc : c < 256) (w : World) :
    Calls Tryz.prog 24 #[.int .u8 c] w fun e w' => e = .returned (.bool (blankB c)) ∧ w' = w := by
 unfold blankB
 by_cases a : c = 32
 ·subst a
  go_enter Tryz.func24, Tryz.ntmps24
  go_wp2_with fail
  go_ret
  exact ⟨rfl, rfl⟩
 ·by_cases b : c = 9
  ·subst b
   go_enter Tryz.func24, Tryz.ntmps24
   go_wp2_with fail
   go_ret
   exact ⟨rfl, rfl⟩
  ·by_cases d : c = 10
   ·subst d
    go_enter Tryz.func24, Tryz.ntmps24
    go_wp2_with fail
    go_ret
    exact ⟨rfl, rfl⟩
   ·by_cases e : c = 13
    ·subst e
     go_enter Tryz.func24, Tryz.ntmps24
     go_wp2_with fail
     go_ret
     exact ⟨rfl, rfl⟩
    ·have h1 : ((c : Int) == 32) = false := beq_eq_false_iff_ne.2 (by omega)
     have h2 : ((c : Int) == 9) = false := beq_eq_false_iff_ne.2 (by omega)
     have h3 : ((c : Int) == 10) = false := beq_eq_false_iff_ne.2 (by omega)
     have h4 : ((c : Int) == 13) = false := beq_eq_false_iff_ne.2 (by omega)
     have HR : Hid (decide (c = 32 ∨ c = 9 ∨ c = 10 ∨ c = 13) = false) := Lib.hid (decide_eq_false (by omega))
     go_enter Tryz.func24, Tryz.ntmps24
     go_wp2_with fail
     go_ret
     exact ⟨(by rw [HR.out]; rfl), rfl⟩
set_option maxRecDepth 20000 in
theorem pletter_any (c : Nat) (hc : c < 256) (w : World) :
    Calls Tryz.prog 15 #[.int .u8 c] w fun e w' => e = .returned (.bool (letter c)) ∧ w = w' := by
 by_cases a : 97 ≤ c
 ·have a' : (97 : Int) ≤ c := by omega
  by_cases b : c ≤ 122
  ·have b' : (c : Int) ≤ 122 := by omega
   have HE : Hid (letter c = true) := Lib.hid (decide_eq_true (by omega))
   rw [HE.out]
   go_enter Tryz.func15, Tryz.ntmps15
   go_wp2_with fail
   go_ret
   exact ⟨rfl, rfl⟩
  ·have b' : ¬ (c : Int) ≤ 122 := by omega
   have u1 : (65 : Int) ≤ c := by omega
   have u2 : ¬ (c : Int) ≤ 90 := by omega
   have hq : ((c : Int) == 95) = false := by simp; omega
   have HE : Hid (letter c = false) := Lib.hid (decide_eq_false (by omega))
   rw [HE.out]
   go_enter Tryz.func15, Tryz.ntmps15
   go_wp2_with fail
   go_ret
   exact ⟨rfl, rfl⟩
 ·have a' : ¬ (97 : Int) ≤ c := by omega
  by_cases b : 65 ≤ c
  ·have b' : (65 : Int) ≤ c := by omega
   by_cases d : c ≤ 90
   ·have d' : (c : Int) ≤ 90 := by omega
    have HE : Hid (letter c = true) := Lib.hid (decide_eq_true (by omega))
    rw [HE.out]
    go_enter Tryz.func15, Tryz.ntmps15
    go_wp2_with fail
    go_ret
    exact ⟨rfl, rfl⟩
   ·have d' : ¬ (c : Int) ≤ 90 := by omega
    by_cases e : c = 95
    ·have e' : ((c : Int) == 95) = true := by simp; omega
     have HE : Hid (letter c = true) := Lib.hid (decide_eq_true (by omega))
     rw [HE.out]
     go_enter Tryz.func15, Tryz.ntmps15
     go_wp2_with fail
     go_ret
     exact ⟨rfl, rfl⟩
    ·have e' : ((c : Int) == 95) = false := by simp; omega
     have HE : Hid (letter c = false) := Lib.hid (decide_eq_false (by omega))
     rw [HE.out]
     go_enter Tryz.func15, Tryz.ntmps15
     go_wp2_with fail
     go_ret
     exact ⟨rfl, rfl⟩
  ·have b' : ¬ (65 : Int) ≤ c := by omega
   have hq : ((c : Int) == 95) = false := by simp; omega
   have HE : Hid (letter c = false) := Lib.hid (decide_eq_false (by omega))
   rw [HE.out]
   go_enter Tryz.func15, Tryz.ntmps15
   go_wp2_with fail
   go_ret
   exact ⟨rfl, rfl⟩
set_option maxRecDepth 20000 in
theorem pdigit_any (c : Nat) (hc : c < 256) (w : World) :
    Calls Tryz.prog 17 #[.int .u8 c] w fun e w' => e = .returned (.bool (digt c)) ∧ w = w' := by
 by_cases a : 48 ≤ c
 ·have a' : (48 : Int) ≤ c := by omega
  by_cases b : c ≤ 57
  ·have b' : (c : Int) ≤ 57 := by omega
   have HE : Hid (digt c = true) := Lib.hid (decide_eq_true (by omega))
   rw [HE.out]
   go_enter Tryz.func17, Tryz.ntmps17
   go_wp2_with fail
   go_ret
   exact ⟨rfl, rfl⟩
  ·have b' : ¬ (c : Int) ≤ 57 := by omega
   have HE : Hid (digt c = false) := Lib.hid (decide_eq_false (by omega))
   rw [HE.out]
   go_enter Tryz.func17, Tryz.ntmps17
   go_wp2_with fail
   go_ret
   exact ⟨rfl, rfl⟩
 ·have a' : ¬ (48 : Int) ≤ c := by omega
  have HE : Hid (digt c = false) := Lib.hid (decide_eq_false (by omega))
  rw [HE.out]
  go_enter Tryz.func17, Tryz.ntmps17
  go_wp2_with fail
  go_ret
  exact ⟨rfl, rfl⟩
theorem nchar_any (c : Nat) (hc : c < 256) (w : World) :
    Calls Tryz.prog 39 #[.int .u8 c] w fun e w' => e = .returned (.bool (nchar c)) ∧ w' = w := by
 obtain ⟨R, hR⟩ := nam (nchar c)
 have HR := Lib.hid hR
 rw [hR]
 clear hR
 have hl := pletter_any c hc w
 have hd := pdigit_any c hc w
 cases ha : letter c with
 | true =>
  rw [ha] at hl
  have hr : R = true := by rw [← HR.out]; unfold nchar; rw [ha]; rfl
  subst hr
  clear ha
  go_enter Tryz.func39, Tryz.ntmps39
  go_wp2_with fail
  refine hl.mono ?_
  rintro e w1 ⟨rfl, rfl⟩
  go_wp2_with fail
  go_ret
  exact ⟨rfl, rfl⟩
 | false =>
  rw [ha] at hl
  have hr : R = digt c := by rw [← HR.out]; unfold nchar; rw [ha]; rfl
  rw [← hr] at hd
  clear ha hr
  go_enter Tryz.func39, Tryz.ntmps39
  go_wp2_with fail
  refine hl.mono ?_
  rintro e w1 ⟨rfl, rfl⟩
  go_wp2_with fail
  refine hd.mono ?_
  rintro e w1 ⟨rfl, rfl⟩
  go_wp2_with fail
  go_ret
  exact ⟨rfl, rfl⟩
theorem isq_any (c : Nat) (hc : c < 256) (w : World) :
    Calls Tryz.prog 19 #[.int .u8 c] w fun e w' => e = .returned (.bool (decide (c = 39))) ∧ w' = w := by
 by_cases a : c = 39
 ·subst a
  go_enter Tryz.func19, Tryz.ntmps19
  go_wp2_with fail
  go_ret
  exact ⟨rfl, rfl⟩
 ·have h1 : ((c : Int) == 39) = false := beq_eq_false_iff_ne.2 (by omega)
  have HR : Hid (decide (c = 39) = false) := Lib.hid (decide_eq_false a)
  go_enter Tryz.func19, Tryz.ntmps19
  go_wp2_with fail
  go_ret
  exact ⟨(by rw [HR.out]; rfl), rfl⟩
theorem isany_any (c : Nat) (w : World) :
    Calls Tryz.prog 21 #[.int .u8 c] w fun e w' => e = .returned (.bool true) ∧ w' = w := by
 go_enter Tryz.func21, Tryz.ntmps21
 go_wp2_with fail
 go_ret
 exact ⟨rfl, rfl⟩
def tokT (k : Int) (s : List UInt8) (n : Int) : List UInt8 := if k = 3 then textOf n else if k = 4 then 39 :: (quoteL s ++ [39]) else s
end Go.Proofs.YteljlahcdipilaaGreat
namespace Go.Proofs.YteljlahcdipilaaGreat
set_option maxRecDepth 100000
open Go.RowKit Go.Shelf
set_option linter.unusedSimpArgs false
set_option linter.unusedVariables false
def Sc (w : World) (B b : Nat) (s : ByteArray) (p : Nat) (v : Value) (acc : List (Tok × Nat)) : Prop :=
  B ≤ b ∧ Block w b [.string s, .int .i64 p, v] 47 ∧ w.ownsRow B 31 4 v acc.length (tokCells acc) ∧ (∀ k, v.ownBlock = some k → k ≠ b)
theorem Sc.drewN {w : World} {B b : Nat} {s : ByteArray} {p : Nat} {v : Value} {acc : List (Tok × Nat)} (h : Sc w B b s p v acc) (n : Nat) : Sc (w.drewN n) B b s p v acc := h
theorem pdigit_any' (c : Nat) (hc : c < 256) (w : World) : Calls Tryz.prog 17 #[.int .u8 c] w fun e w' => e = .returned (.bool (digt c)) ∧ w' = w := (pdigit_any c hc w).mono fun _ _ ⟨h, k⟩ => ⟨h, k.symm⟩
theorem pletter_any' (c : Nat) (hc : c < 256) (w : World) : Calls Tryz.prog 15 #[.int .u8 c] w fun e w' => e = .returned (.bool (letter c)) ∧ w' = w := (pletter_any c hc w).mono fun _ _ ⟨h, k⟩ => ⟨h, k.symm⟩
def WhileP (n : Nat) (w : World) (e : Ending) (w' : World) : Prop := e = .returned (.int .i64 n) ∧ ∃ m, w' = w.drewN m
theorem Sq296057 {P : Prop} (h : P := by
 have HLN : Hid (s.data.toList.length = s.size) := Lib.hid (by simp)
 have HB := Lib.hid hb
 clear hb
 go_enter Tryz.func23, Tryz.ntmps23
 go_wp2_with fail
 first
 | (guard_hyp z296057a; go_loopw [5] (fun k wr => ∃ n : Nat, k = .int .i64 n ∧ Hid (SpanTo blankB s.data.toList p (p + n)) ∧ Hid (∃ m, wr = w.drewN m)) (fun k _ => s.size - (intOf k).toNat))
 | (guard_hyp z296057c; go_loopw [5] (fun k wr => ∃ n : Nat, k = .int .i64 n ∧ Hid (SpanTo nchar s.data.toList p (p + n)) ∧ Hid (∃ m, wr = w.drewN m)) (fun k _ => s.size - (intOf k).toNat))
 | (go_loopw [5] (fun k wr => ∃ n : Nat, k = .int .i64 n ∧ Hid (SpanTo digt s.data.toList p (p + n)) ∧ Hid (∃ m, wr = w.drewN m)) (fun k _ => s.size - (intOf k).toNat))
 case atStart => exact ⟨0, rfl, Lib.hid (spanTo_zero (by rw [HLN.out]; exact hp)), Lib.hid ⟨0, rfl⟩⟩
 case round =>
  obtain ⟨n, rfl, hd, HM⟩ := hrel
  have hnl : p + n ≤ s.size := by have := hd.out.2.1; rw [HLN.out] at this; exact this
  have HBR : Hid (Block wr b [.string s, .int .i64 p, v] 47) := Lib.hid (by obtain ⟨m, hm⟩ := HM.out; rw [hm]; exact HB.out)
  have c0 := HBR.out.cell (i := 0) rfl
  have c1 := HBR.out.cell (i := 1) rfl
  have s1 : IntKind.i64.wrap ((p : Int) + n) = (p : Int) + n := IntWalk.i64_in _ (by omega)
  have s2 : (0 : Int) ≤ (p : Int) + n := by omega
  have s3 : ((p : Int) + n).toNat = p + n := by omega
  by_cases hq : p + n < s.size
  ·have hq' : (p : Int) + n < s.size := by omega
   have hc : s[p + n].toNat < 256 := by have := s[p + n].toNat_lt; omega
   have X : Hid (s[p + n].toNat = nb s.data.toList (p + n)) := Lib.hid (nb_get s (p + n) hq)
   first
   |(
    guard_hyp z296057a
    have HT := Lib.hid (fun w => blank_any s[p + n].toNat hc w)
    cases ht : blankB s[p + n].toNat with
    | true =>
     rw [ht] at HT
     have HU := Lib.hid (spanTo_step hd.out (by rw [HLN.out]; exact hq) (by rw [← X.out]; exact ht))
     clear ht
     go_wp2_with fail
     go_quiet ((go_at_call 24; exact Calls.quiet_of_same (HT.out _)))
     clear s1
     go_wp2_with fail
     go_roundw
     case rel => exact ⟨n + 1, by go_num, HU, Lib.hid (by obtain ⟨m, hm⟩ := HM.out; exact ⟨_, by rw [hm, World.drewN_drewN]⟩)⟩
     case measure => simp [intOf]; omega
    | false =>
     rw [ht] at HT
     have HSP := Lib.hid (spanTo_end hd.out (fun _ => by rw [← X.out]; exact ht))
     clear ht
     go_wp2_with fail
     go_quiet ((go_at_call 24; exact Calls.quiet_of_same (HT.out _)))
     clear s1
     go_wp2_with fail
     go_ret
     exact ⟨by rw [HSP.out, show p + n - p = n from by omega]; rfl, by obtain ⟨m, hm⟩ := HM.out; exact ⟨_, by rw [hm, World.drewN_drewN]⟩⟩)
   |(
    guard_hyp z296057b
    have HT := Lib.hid (fun w => pdigit_any' s[p + n].toNat hc w)
    cases ht : digt s[p + n].toNat with
    | true =>
     rw [ht] at HT
     have HU := Lib.hid (spanTo_step hd.out (by rw [HLN.out]; exact hq) (by rw [← X.out]; exact ht))
     clear ht
     go_wp2_with fail
     go_quiet ((go_at_call 17; exact Calls.quiet_of_same (HT.out _)))
     clear s1
     go_wp2_with fail
     go_roundw
     case rel => exact ⟨n + 1, by go_num, HU, Lib.hid (by obtain ⟨m, hm⟩ := HM.out; exact ⟨_, by rw [hm, World.drewN_drewN]⟩)⟩
     case measure => simp [intOf]; omega
    | false =>
     rw [ht] at HT
     have HSP := Lib.hid (spanTo_end hd.out (fun _ => by rw [← X.out]; exact ht))
     clear ht
     go_wp2_with fail
     go_quiet ((go_at_call 17; exact Calls.quiet_of_same (HT.out _)))
     clear s1
     go_wp2_with fail
     go_ret
     exact ⟨by rw [HSP.out, show p + n - p = n from by omega]; rfl, by obtain ⟨m, hm⟩ := HM.out; exact ⟨_, by rw [hm, World.drewN_drewN]⟩⟩)
   |(
    have HT := Lib.hid (fun w => nchar_any s[p + n].toNat hc w)
    cases ht : nchar s[p + n].toNat with
    | true =>
     rw [ht] at HT
     have HU := Lib.hid (spanTo_step hd.out (by rw [HLN.out]; exact hq) (by rw [← X.out]; exact ht))
     clear ht
     go_wp2_with fail
     go_quiet ((go_at_call 39; exact Calls.quiet_of_same (HT.out _)))
     clear s1
     go_wp2_with fail
     go_roundw
     case rel => exact ⟨n + 1, by go_num, HU, Lib.hid (by obtain ⟨m, hm⟩ := HM.out; exact ⟨_, by rw [hm, World.drewN_drewN]⟩)⟩
     case measure => simp [intOf]; omega
    | false =>
     rw [ht] at HT
     have HSP := Lib.hid (spanTo_end hd.out (fun _ => by rw [← X.out]; exact ht))
     clear ht
     go_wp2_with fail
     go_quiet ((go_at_call 39; exact Calls.quiet_of_same (HT.out _)))
     clear s1
     go_wp2_with fail
     go_ret
     exact ⟨by rw [HSP.out, show p + n - p = n from by omega]; rfl, by obtain ⟨m, hm⟩ := HM.out; exact ⟨_, by rw [hm, World.drewN_drewN]⟩⟩)
  ·have hqd : decide ((p : Int) + n < s.size) = false := decide_eq_false (by omega)
   have HSP := Lib.hid (spanTo_end hd.out (fun h => by rw [HLN.out] at h; omega))
   go_wp2_with fail
   go_quiet (fail)
   clear s1
   go_wp2_with fail
   go_ret
   exact ⟨by rw [HSP.out, show p + n - p = n from by omega]; rfl, by obtain ⟨m, hm⟩ := HM.out; exact ⟨_, by rw [hm, World.drewN_drewN]⟩⟩) : P := h
set_option maxRecDepth 1000000 in
set_option maxHeartbeats 4000000 in
theorem while_name (s : ByteArray) (p b : Nat) (w : World) (v : Value) (hs : s.size ≤ 1099511627776) (hp : p ≤ s.size) (hb : Block w b [.string s, .int .i64 p, v] 47) :
    Calls Tryz.prog 23 #[.pointer (some ⟨b, 0, none⟩), .func (.func 39) #[] #[]] w (WhileP (spanB nchar (s.data.toList.drop p)) w) := by
 have z296057c := trivial
 exact Sq296057
set_option maxRecDepth 1000000 in
set_option maxHeartbeats 4000000 in
theorem while_digit (s : ByteArray) (p b : Nat) (w : World) (v : Value) (hs : s.size ≤ 1099511627776) (hp : p ≤ s.size) (hb : Block w b [.string s, .int .i64 p, v] 47) :
    Calls Tryz.prog 23 #[.pointer (some ⟨b, 0, none⟩), .func (.func 17) #[] #[]] w (WhileP (spanB digt (s.data.toList.drop p)) w) := by
 have z296057b := trivial
 exact Sq296057
set_option maxRecDepth 1000000 in
set_option maxHeartbeats 4000000 in
theorem while_blank (s : ByteArray) (p b : Nat) (w : World) (v : Value) (hs : s.size ≤ 1099511627776) (hp : p ≤ s.size) (hb : Block w b [.string s, .int .i64 p, v] 47) :
    Calls Tryz.prog 23 #[.pointer (some ⟨b, 0, none⟩), .func (.func 24) #[] #[]] w (WhileP (spanB blankB (s.data.toList.drop p)) w) := by
 have z296057a := trivial
 exact Sq296057
def ownL (b : Nat) (v : Value) : List Nat := b :: v.ownBlock.toList
theorem ownL_b (b : Nat) (v : Value) : b ∈ ownL b v := by simp [ownL]
theorem ownL_v {b k : Nat} {v : Value} (h : v.ownBlock = some k) : k ∈ ownL b v := by simp [ownL, h]
theorem ownL_cases {b x : Nat} {v : Value} (h : x ∈ ownL b v) : x = b ∨ v.ownBlock = some x := by
 simp only [ownL, List.mem_cons, Option.mem_toList] at h
 exact h
def ScMoved (B b : Nat) (s : ByteArray) (v : Value) (p : Nat) (acc : List (Tok × Nat)) (w w' : World) : Prop :=
  ∃ v', Sc w' B b s p v' acc ∧ Kept (ownL b v) w w' ∧ ∀ x ∈ ownL b v', x ∈ ownL b v ∨ w.heap.size ≤ x
theorem Sc.of_heap {w w' : World} {B b : Nat} {s : ByteArray} {p : Nat} {v : Value} {acc : List (Tok × Nat)} (h : Sc w B b s p v acc) (hk : ∀ k ∈ ownL b v, w'.heap[k]? = w.heap[k]?) : Sc w' B b s p v acc :=
  ⟨h.1, h.2.1.of_heap (hk b (ownL_b b v)), own_heap h.2.2.1 (fun k e => hk k (ownL_v e)), h.2.2.2⟩
theorem Sc.lt {w : World} {B b : Nat} {s : ByteArray} {p : Nat} {v : Value} {acc : List (Tok × Nat)} (h : Sc w B b s p v acc) : ∀ k ∈ ownL b v, B ≤ k ∧ k < w.heap.size := fun k hk => by
  rcases ownL_cases hk with rfl | e
  · exact ⟨h.1, h.2.1.lt⟩
  · exact h.2.2.1.lt k e
theorem Sc.below {w w' : World} {B b : Nat} {s : ByteArray} {p : Nat} {v : Value} {acc : List (Tok × Nat)} (h : Sc w B b s p v acc) (hb : Below w.heap.size w w') : Sc w' B b s p v acc := h.of_heap (fun k hk => hb.block k (h.lt k hk).2)
theorem ScMoved.same {w w' : World} {B b : Nat} {s : ByteArray} {p : Nat} {v : Value} {acc : List (Tok × Nat)} (h : Sc w B b s p v acc) (hb : Below w.heap.size w w') : ScMoved B b s v p acc w w' :=
  ⟨v, h.below hb, Kept.of_below hb, fun x hx => .inl hx⟩
theorem ScMoved.trans {a w w' : World} {B b : Nat} {s : ByteArray} {p : Nat} {v v1 : Value} {acc acc' : List (Tok × Nat)} (hk : Kept (ownL b v) a w) (hv : ∀ x ∈ ownL b v1, x ∈ ownL b v ∨ a.heap.size ≤ x)
    (h : ScMoved B b s v1 p acc' w w') : ScMoved B b s v p acc' a w' := by
 obtain ⟨v', h1, h2, h3⟩ := h
 refine ⟨v', h1, hk.trans h2 hv, fun x hx => ?_⟩
 rcases h3 x hx with h | h
 ·exact hv x h
 ·exact .inr (Nat.le_trans hk.size h)
theorem grown_block {w w0 w1 : World} {row : Option Nat} {b : Nat} {cur : List Value} {t : TypeId} (hb : Block w b cur t) (h0 : w0.heap[b]? = w.heap[b]?) (hg : w0.grownBy w1 row) (hr : row ≠ some b) : Block w1 b cur t := by
 have h1 : Block w0 b cur t := hb.of_heap h0
 exact h1.of_heap (hg.block b h1.lt (Ne.symm hr))
theorem two_new (w : World) (X Y : Obj) : ((w.alloc X).alloc Y).drew.heap[w.heap.size + 1]? = some Y := by
 show ((w.alloc X).alloc Y).heap[w.heap.size + 1]? = _
 exact heap_newN _ _ _ (by simp)
def PutP (B b : Nat) (s : ByteArray) (v : Value) (p : Nat) (acc : List (Tok × Nat)) (t : Tok) (m : Nat) (w : World) (e : Ending) (w' : World) : Prop :=
  if 4096 ≤ acc.length then e = .returned (.int .i64 8) ∧ ScMoved B b s v p acc w w'
  else e = .returned (.int .i64 0) ∧ ScMoved B b s v (p + m) (acc ++ [(t, p)]) w w'
theorem put_moved {w w1 : World} {B b : Nat} {s : ByteArray} {p m n cap gg cap2 : Nat} {a : Option Addr} {acc : List (Tok × Nat)} {X Y : Obj} {t : Tok} (hn : n = acc.length) (hB : B ≤ b) (hlt : b < w.heap.size)
    (hne : ∀ k, (Value.slice a n cap).ownBlock = some k → k ≠ b)
    (hb1 : Block w1 b [.string s, .int .i64 p, .slice a n cap] 47)
    (hown1 : w1.ownsRow B 31 4 (.slice (some ⟨gg, 0, none⟩) (n + 1) cap2) (n + 1) (tokCells acc ++ tokC (t, p)))
    (hgrow : (((w.alloc X).alloc Y).drew).grownBy w1 (Value.slice a n cap).ownBlock) (hat : (Value.slice a n cap).ownBlock = some gg ∨ gg = w.heap.size + 2) :
    ScMoved B b s (.slice a n cap) (p + m) (acc ++ [(t, p)]) w ((w1.setCell ⟨b, 2, none⟩ (.slice (some ⟨gg, 0, none⟩) (n + 1) cap2)).setCell ⟨b, 1, none⟩ (.int .i64 ((p : Int) + m))) := by
 have hgb : gg ≠ b := by
  rcases hat with h | h
  ·exact hne _ h
  ·omega
 have hk : Kept (ownL b (.slice a n cap)) w w1 := (((((Kept.refl _ w).alloc X).alloc Y).drew).grown hgrow (fun k hk => .inl (ownL_v hk)))
 have hs2 : ∀ k, (Value.slice (some ⟨gg, 0, none⟩) (n + 1) cap2).ownBlock = some k → k ≠ b := fun k e => by
  have : gg = k := by injection e
  omega
 refine ⟨.slice (some ⟨gg, 0, none⟩) (n + 1) cap2, ⟨hB, ?_, ?_, hs2⟩, (hk.setCell (.inl (ownL_b b _)) _).setCell (.inl (ownL_b b _)) _, fun x hx => ?_⟩
 ·have := (hb1.set 2 (.slice (some ⟨gg, 0, none⟩) (n + 1) cap2)).set 1 (.int .i64 ((p : Int) + m))
  rw [show (((p + m : Nat)) : Int) = (p : Int) + m from by omega]
  exact this
 ·rw [List.length_append, ← hn, tokCells_snoc]
  exact own_set (a := ⟨b, 1, none⟩) (own_set (a := ⟨b, 2, none⟩) hown1 hs2 _) hs2 _
 ·rcases ownL_cases hx with rfl | e
  ·exact .inl (ownL_b _ _)
  ·have he : gg = x := by injection e
   subst he
   rcases hat with h | h
   ·exact .inl (ownL_v h)
   ·exact .inr (by omega)
set_option maxRecDepth 100000 in
set_option maxHeartbeats 3200000 in
theorem put_any (B b : Nat) (s : ByteArray) (v : Value) (p : Nat) (acc : List (Tok × Nat)) (t : Tok) (x : Int) (m : Nat) (w : World) (h : Sc w B b s p v acc) (hacc : acc.length ≤ 4096) (hpm : p + m ≤ 1099511627776) :
    Calls Tryz.prog 25 #[.pointer (some ⟨b, 0, none⟩), .agg #[.int .i64 t.k, .string (strOf t.t), .int .i64 t.n, .int .i64 x], .int .i64 m] w (PutP B b s v p acc t m w) := by
 obtain ⟨i0, hi0, hz0, hz1, hz2⟩ := info_parts Tryz.infoTok
 have hH := h
 obtain ⟨hBb, hb, ho, hne⟩ := h
 obtain ⟨a, cap, rfl⟩ := own_form ho
 obtain ⟨n, hn⟩ := nam acc.length
 have HH := Lib.hid hH
 clear hH
 rw [hn] at ho hb hne hacc
 have HN := Lib.hid hn.symm
 have hlt := hb.lt
 have c1 := hb.cell (i := 1) rfl
 have c2 := hb.cell (i := 2) rfl
 have f1 := hb.free 1
 have f2 := hb.free 2
 have ag : (Value.slice a n cap).ownBlock ≠ some b := fun e => hne b e rfl
 have hfa : ∀ o o', ((w.alloc o).alloc o').drew.frozen? ⟨b, 2, none⟩ = false := fun o o' => ((hb.alloc o).alloc o').free 2
 obtain ⟨HO, HB, HNE⟩ := hd3 ho hb hne
 clear hb ho hne
 obtain ⟨tk, tt, tn⟩ := t
 by_cases hfull : 4096 ≤ n
 ·have hfull' : (4096 : Int) ≤ n := by omega
  clear hn
  go_enter Tryz.func25, Tryz.ntmps25
  go_wp2_with fail
  go_ret
  unfold PutP
  rw [if_pos (by rw [← HN.out]; exact hfull)]
  exact ⟨rfl, by rw [HN.out] at *; exact ScMoved.same HH.out ((Below.refl _ _).alloc (Nat.le_refl _) _)⟩
 ·have hfull' : ¬ (4096 : Int) ≤ n := by omega
  have hge : decide ((4096 : Int) ≤ n) = false := decide_eq_false hfull'
  clear hn
  go_enter Tryz.func25, Tryz.ntmps25
  go_wp2_with fail
  go_region_law (first | (refine step_append_lies _ (by rfl) _ _ _ (by rfl) B 31 i0 _ 4 40 Tryz.underlying23 hi0 hz0 hz1 hz2 rfl (by omega) (.slice a n cap) n (tokCells acc) (by rfl) (((HO.out.alloc _).alloc _).drew) ⟨w.heap.size + 1, 0, none⟩ 1 1 [.int .i64 tk, .string (strOf tt), .int .i64 tn, .int .i64 p] (by rfl) (by rfl) (World.news_of_block (cs := #[.int .i64 tk, .string (strOf tt), .int .i64 tn, .int .i64 p]) (t := 31) (fr := (0, 0)) (two_new w _ _)) (by simp [Value.oneCell']) (by omega) (by unfold maxLen; omega) (by omega) (by simp; omega) (w.heap.size + 2) (by simp) ?_; intro gg cap2 w1 hown1 hgrow hat hlt1; have hb1 := grown_block HB.out (w0 := ((w.alloc _).alloc _).drew) ((Below.heap_alloc _ _ _ (by simp; omega)).trans (Below.heap_alloc _ _ _ hlt)) hgrow ag; have k1 := hb1.cell (i := 1) rfl; have k2 := hb1.cell (i := 2) rfl; have g1 := hb1.free 1; have g2 := hb1.free 2; have HB1 := Lib.hid hb1; clear hb1))
  all_goals go_wp2_with fail
  all_goals go_ret
  all_goals (unfold PutP; rw [if_neg (by rw [← HN.out]; exact hfull), ← HN.out]; exact ⟨rfl, put_moved (t := ⟨tk, tt, tn⟩) HN.out HH.out.1 hlt HNE.out HB1.out hown1 hgrow hat⟩)
def ReadP (B b : Nat) (s : ByteArray) (v : Value) (p : Nat) (acc : List (Tok × Nat)) (r : One) (w : World) (e : Ending) (w' : World) : Prop :=
  match r with
  | .bad x => e = .returned (.int .i64 x) ∧ ScMoved B b s v p acc w w'
  | .tok t n => PutP B b s v p acc t n w e w'
theorem PutP.trans {a w w' : World} {B b : Nat} {s : ByteArray} {p : Nat} {v : Value} {acc : List (Tok × Nat)} {t : Tok} {m : Nat} {e : Ending} (hk : Kept (ownL b v) a w) (h : PutP B b s v p acc t m w e w') : PutP B b s v p acc t m a e w' := by
 unfold PutP at h ⊢
 split at h
 ·rename_i hc; rw [if_pos hc]; exact ⟨h.1, ScMoved.trans (acc := acc) hk (fun x hx => .inl hx) h.2⟩
 ·rename_i hc; rw [if_neg hc]; exact ⟨h.1, ScMoved.trans (acc := acc) hk (fun x hx => .inl hx) h.2⟩
theorem parse_any' (s : ByteArray) (w : World) (hs : s.size ≤ 9223372036854775807) : Calls Tryz.prog 41 #[.string s] w fun e w' => e = .returned (.tuple #[.int .i64 (parseOf s.data.toList).1, .int .i64 (parseOf s.data.toList).2]) ∧ w' = w := (parse_any s w hs).mono fun _ _ ⟨h, k⟩ => ⟨h, k.symm⟩
theorem below_of_draws {w w' : World} (h : ∃ m, w' = w.drewN m) : Below w.heap.size w w' := by
 obtain ⟨m, rfl⟩ := h; exact below_draws (Below.refl _ _) m
set_option maxRecDepth 1000000 in
set_option maxHeartbeats 4000000 in
theorem name_read (B b : Nat) (s : ByteArray) (v : Value) (p : Nat) (acc : List (Tok × Nat)) (mm : Int) (w : World) (hs : s.size ≤ 1099511627776) (h : Sc w B b s p v acc) (hacc : acc.length ≤ 4096) (hp : p < s.size)
    (hm : w.cell? mlA = some (.int .i64 mm)) (hg : 0 < w.heap.size) (hl : letter s[p].toNat = true) :
    Calls Tryz.prog 16 #[.pointer (some ⟨b, 0, none⟩)] w (ReadP B b s v p acc (oneL (s.data.toList.drop p)) w) := by
 have HLN : Hid (s.data.toList.length = s.size) := Lib.hid (by simp)
 obtain ⟨R, hR⟩ := nam (oneL (s.data.toList.drop p))
 have HR := Lib.hid hR
 rw [hR]
 clear hR
 have HLD : Hid (letter (nb (s.data.toList.drop p) 0) = true) := Lib.hid (by rw [nb_drop, Nat.add_zero, ← nb_get s p hp]; exact hl)
 obtain ⟨n, hn⟩ := nam (spanB nchar (s.data.toList.drop p))
 have hnle : p + n ≤ s.size := by have := spanB_le nchar (s.data.toList.drop p); rw [hn, List.length_drop, HLN.out] at this; omega
 have HW := Lib.hid (while_name s p b w v hs (by omega) h.2.1)
 rw [hn] at HW
 obtain ⟨HSPN, HS, HM⟩ := hd3 hn h hm
 clear h hm hl hn
 have s1 : IntKind.i64.wrap ((p : Int) + n) = (p : Int) + n := IntWalk.i64_in _ (by omega)
 have S1 := Lib.hid s1
 clear s1
 have q0 : (0 : Int) ≤ (p : Int) + n := by omega
 have q1 : (p : Int) ≤ (p : Int) + n := by omega
 have q2 : (p : Int) + n ≤ s.size := by omega
 have q3 : ((p : Int) + n).toNat = p + n := by omega
 have Q3 := Lib.hid q3
 clear q3
 have hxz : (s.extract p (p + n)).size ≤ 1099511627776 := by simp; omega
 have HX : Hid ((s.extract p (p + n)).data.toList = (s.data.toList.drop p).take (spanB nchar (s.data.toList.drop p))) := Lib.hid (by rw [extract_drop, HSPN.out, show p + n - p = n from by omega])
 go_enter Tryz.func16, Tryz.ntmps16
 go_wp2_with fail
 refine HW.out.mono ?_
 rintro e w1 ⟨rfl, hm1⟩
 have HB1 := Lib.hid (below_of_draws hm1)
 have HS1 : Hid (Sc w1 B b s p v acc) := Lib.hid (HS.out.below HB1.out)
 have HM1 : Hid (w1.cell? mlA = some (.int .i64 mm)) := Lib.hid (by rw [HB1.out.cell (by show 0 < w.heap.size; exact hg)]; exact HM.out)
 have hg1 : 0 < w1.heap.size := Nat.lt_of_lt_of_le hg HB1.out.size
 clear hm1
 have c0 := HS1.out.2.1.cell (i := 0) rfl
 have c1 := HS1.out.2.1.cell (i := 1) rfl
 have HWD := Lib.hid (fun k => word_any (s.extract p (p + n)) mm (w1.drewN k) hxz (by exact HM1.out) (by exact hg1))
 have s1 := S1.out
 have q3 := Q3.out
 go_wp2_with fail
 go_quiet (fail)
 clear s1
 by_cases h64 : 64 < n
 ·have h64' : (64 : Int) < n := by omega
  have HRR : Hid (R = .bad 1) := Lib.hid (by rw [← HR.out]; exact oneL_bad_name HLD.out (by rw [HSPN.out]; exact h64))
  go_wp2_with fail
  go_ret
  rw [HRR.out]
  exact ⟨rfl, ScMoved.same HS.out (below_draws HB1.out _)⟩
 ·have h64' : ¬ (64 : Int) < n := by omega
  have HN64 : Hid (¬ 64 < spanB nchar (s.data.toList.drop p)) := Lib.hid (by rw [HSPN.out]; exact h64)
  unfold wordR at HWD
  rw [HX.out] at HWD
  cases hw : wordB ((s.data.toList.drop p).take (spanB nchar (s.data.toList.drop p))) with
  | true =>
   obtain ⟨lw, hlw⟩ := nam (largeL ((s.data.toList.drop p).take (spanB nchar (s.data.toList.drop p))))
   have HRR : Hid (R = .tok ⟨2, lw, 0⟩ n) := Lib.hid (by rw [← HR.out, oneL_word HLD.out HN64.out hw, hlw, HSPN.out])
   rw [hw, hlw] at HWD
   clear hw hlw
   have HWW : Hid (∀ k, Calls Tryz.prog 40 #[.string (s.extract p (p + n))] (w1.drewN k) fun e w' => e = .returned (.tuple #[.string (strOf lw), .bool true]) ∧ Below (w1.drewN k).heap.size (w1.drewN k) w') := Lib.hid (fun k => HWD.out k)
   clear HWD
   have HPUT : Hid (∀ w2, Sc w2 B b s p v acc → Calls Tryz.prog 25 #[.pointer (some ⟨b, 0, none⟩), .agg #[.int .i64 2, .string (strOf lw), .int .i64 0, .int .i64 0], .int .i64 n] w2 (PutP B b s v p acc ⟨2, lw, 0⟩ n w2)) := Lib.hid (fun w2 h2 => put_any B b s v p acc ⟨2, lw, 0⟩ 0 n w2 h2 hacc (by omega))
   go_wp2_with fail
   refine (HWW.out _).mono ?_
   rintro e w2 ⟨rfl, hb2⟩
   have HB2 := Lib.hid (below_step (below_draws HB1.out _) rfl hb2)
   clear hb2
   go_wp2_with fail
   refine (HPUT.out _ (HS.out.below HB2.out)).mono ?_
   rintro e w3 hp3
   have HP3 := Lib.hid (PutP.trans (Kept.of_below HB2.out) hp3)
   unfold PutP at hp3
   split at hp3
   ·obtain ⟨rfl, _⟩ := hp3
    go_wp2_with fail
    go_ret
    rw [HRR.out]; exact HP3.out
   ·obtain ⟨rfl, _⟩ := hp3
    go_wp2_with fail
    go_ret
    rw [HRR.out]; exact HP3.out
  | false =>
   have HRR : Hid (R = .tok ⟨1, (s.data.toList.drop p).take (spanB nchar (s.data.toList.drop p)), 0⟩ n) := Lib.hid (by rw [← HR.out, oneL_name HLD.out HN64.out hw, HSPN.out])
   have HXX : Hid (strOf ((s.data.toList.drop p).take (spanB nchar (s.data.toList.drop p))) = s.extract p (p + n)) := Lib.hid (by rw [← HX.out]; exact strOf_toList _)
   rw [hw] at HWD
   clear hw
   have HWW : Hid (∀ k, Calls Tryz.prog 40 #[.string (s.extract p (p + n))] (w1.drewN k) fun e w' => e = .returned (.tuple #[.string ⟨#[]⟩, .bool false]) ∧ Below (w1.drewN k).heap.size (w1.drewN k) w') := Lib.hid (fun k => HWD.out k)
   clear HWD
   have HPUT : Hid (∀ w2, Sc w2 B b s p v acc → Calls Tryz.prog 25 #[.pointer (some ⟨b, 0, none⟩), .agg #[.int .i64 1, .string (s.extract p (p + n)), .int .i64 0, .int .i64 0], .int .i64 n] w2 (PutP B b s v p acc ⟨1, (s.data.toList.drop p).take (spanB nchar (s.data.toList.drop p)), 0⟩ n w2)) := Lib.hid (fun w2 h2 => by
    have := put_any B b s v p acc ⟨1, (s.data.toList.drop p).take (spanB nchar (s.data.toList.drop p)), 0⟩ 0 n w2 h2 hacc (by omega)
    dsimp only at this
    rw [HXX.out] at this
    exact this)
   go_wp2_with fail
   refine (HWW.out _).mono ?_
   rintro e w2 ⟨rfl, hb2⟩
   have HB2 := Lib.hid (below_step (below_draws HB1.out _) rfl hb2)
   clear hb2
   go_wp2_with fail
   refine (HPUT.out _ (HS.out.below HB2.out)).mono ?_
   rintro e w3 hp3
   have HP3 := Lib.hid (PutP.trans (Kept.of_below HB2.out) hp3)
   unfold PutP at hp3
   split at hp3
   ·obtain ⟨rfl, _⟩ := hp3
    go_wp2_with fail
    go_ret
    rw [HRR.out]; exact HP3.out
   ·obtain ⟨rfl, _⟩ := hp3
    go_wp2_with fail
    go_ret
    rw [HRR.out]; exact HP3.out
set_option maxRecDepth 1000000 in
set_option maxHeartbeats 4000000 in
theorem number_read (B b : Nat) (s : ByteArray) (v : Value) (p : Nat) (acc : List (Tok × Nat)) (w : World) (hs : s.size ≤ 1099511627776) (h : Sc w B b s p v acc) (hacc : acc.length ≤ 4096) (hp : p < s.size)
    (hl : letter s[p].toNat = false) (hdg : digt s[p].toNat = true) :
    Calls Tryz.prog 18 #[.pointer (some ⟨b, 0, none⟩)] w (ReadP B b s v p acc (oneL (s.data.toList.drop p)) w) := by
 have HLN : Hid (s.data.toList.length = s.size) := Lib.hid (by simp)
 obtain ⟨R, hR⟩ := nam (oneL (s.data.toList.drop p))
 have HR := Lib.hid hR
 rw [hR]
 clear hR
 have HLD : Hid (letter (nb (s.data.toList.drop p) 0) = false) := Lib.hid (by rw [nb_drop, Nat.add_zero, ← nb_get s p hp]; exact hl)
 have HDD : Hid (digt (nb (s.data.toList.drop p) 0) = true) := Lib.hid (by rw [nb_drop, Nat.add_zero, ← nb_get s p hp]; exact hdg)
 obtain ⟨n, hn⟩ := nam (spanB digt (s.data.toList.drop p))
 have hnle : p + n ≤ s.size := by have := spanB_le digt (s.data.toList.drop p); rw [hn, List.length_drop, HLN.out] at this; omega
 have HW := Lib.hid (while_digit s p b w v hs (by omega) h.2.1)
 rw [hn] at HW
 have HSPN := Lib.hid hn
 have HS := Lib.hid h
 clear h hl hdg hn
 have s1 : IntKind.i64.wrap ((p : Int) + n) = (p : Int) + n := IntWalk.i64_in _ (by omega)
 have S1 := Lib.hid s1
 clear s1
 have q0 : (0 : Int) ≤ (p : Int) + n := by omega
 have q1 : (p : Int) ≤ (p : Int) + n := by omega
 have q2 : (p : Int) + n ≤ s.size := by omega
 have q3 : ((p : Int) + n).toNat = p + n := by omega
 have Q3 := Lib.hid q3
 clear q3
 have hxz : (s.extract p (p + n)).size ≤ 9223372036854775807 := by simp; omega
 have HX : Hid ((s.extract p (p + n)).data.toList = (s.data.toList.drop p).take (spanB digt (s.data.toList.drop p))) := Lib.hid (by rw [extract_drop, HSPN.out, show p + n - p = n from by omega])
 have HPA := Lib.hid (fun w => parse_any' (s.extract p (p + n)) w hxz)
 rw [HX.out] at HPA
 obtain ⟨x, f, hxf⟩ : ∃ x f, parseOf ((s.data.toList.drop p).take (spanB digt (s.data.toList.drop p))) = (x, f) := ⟨_, _, rfl⟩
 rw [hxf] at HPA
 have HXF := Lib.hid hxf
 clear hxf
 have HPP : Hid (∀ w, Calls Tryz.prog 41 #[.string (s.extract p (p + n))] w fun e w' => e = .returned (.tuple #[.int .i64 x, .int .i64 f]) ∧ w' = w) := Lib.hid (fun w => HPA.out w)
 clear HPA hxz
 go_enter Tryz.func18, Tryz.ntmps18
 go_wp2_with fail
 refine HW.out.mono ?_
 rintro e w1 ⟨rfl, hm1⟩
 have HB1 := Lib.hid (below_of_draws hm1)
 have HS1 : Hid (Sc w1 B b s p v acc) := Lib.hid (HS.out.below HB1.out)
 clear hm1
 have c0 := HS1.out.2.1.cell (i := 0) rfl
 have c1 := HS1.out.2.1.cell (i := 1) rfl
 have s1 := S1.out
 have q3 := Q3.out
 go_wp2_with fail
 go_quiet ((go_at_call 41; exact Calls.quiet_of_same (HPP.out _)))
 clear s1
 by_cases hf : f = 0
 ·subst hf
  have HRR : Hid (R = .tok ⟨3, [], x⟩ n) := Lib.hid (by rw [← HR.out, oneL_num HLD.out HDD.out (by rw [HXF.out]), HXF.out, HSPN.out])
  have HPUT : Hid (∀ w2, Sc w2 B b s p v acc → Calls Tryz.prog 25 #[.pointer (some ⟨b, 0, none⟩), .agg #[.int .i64 3, .string ⟨#[]⟩, .int .i64 x, .int .i64 0], .int .i64 n] w2 (PutP B b s v p acc ⟨3, [], x⟩ n w2)) := Lib.hid (fun w2 h2 => put_any B b s v p acc ⟨3, [], x⟩ 0 n w2 h2 hacc (by omega))
  go_wp2_with fail
  refine (HPUT.out _ (HS.out.below (below_draws HB1.out _))).mono ?_
  rintro e w3 hp3
  have HP3 := Lib.hid (PutP.trans (Kept.of_below (below_draws HB1.out _)) hp3)
  unfold PutP at hp3
  split at hp3
  ·obtain ⟨rfl, _⟩ := hp3
   go_wp2_with fail
   go_ret
   rw [HRR.out]; exact HP3.out
  ·obtain ⟨rfl, _⟩ := hp3
   go_wp2_with fail
   go_ret
   rw [HRR.out]; exact HP3.out
 ·have hfb : (f == 0) = false := beq_eq_false_iff_ne.2 hf
  have hfn : (f != 0) = true := by simp [bne, hfb]
  have HRR : Hid (R = .bad f) := Lib.hid (by rw [← HR.out, oneL_numbad HLD.out HDD.out (by rw [HXF.out]; exact hf), HXF.out])
  clear hf
  go_wp2_with fail
  go_ret
  rw [HRR.out]
  exact ⟨rfl, ScMoved.same HS.out (below_draws HB1.out _)⟩
end Go.Proofs.YteljlahcdipilaaGreat
