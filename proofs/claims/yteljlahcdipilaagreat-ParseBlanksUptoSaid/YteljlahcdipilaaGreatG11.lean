/- Parts L15, L10, L11, L16, L17, L18 of this seat (pruned, scripts that are alike kept once as default arguments: q1, q2, ..). Conditions: each says its own. -/
import Derived.Test.YteljlahcdipilaaGreatG10
set_option linter.unusedSimpArgs false
set_option linter.unusedVariables false
set_option maxRecDepth 1000000
set_option maxHeartbeats 64000000
namespace Go.Proofs.YteljlahcdipilaaGreat
open Go.RowKit Go.Shelf
theorem dF {w w' : World} {B : Nat} {e : TypeId} {size : Nat} {v : Value} {n : Nat} {xs : List Value} (h : w.ownsRow B e size v n xs) (hk : ∀ k, v.ownBlock = some k -> w'.heap[k]? = w.heap[k]?) : w'.ownsRow B e size v n xs := by
 refine ⟨h.1, ?_⟩;rcases h.2 with h2 | ⟨g, cap, cur, rfl, hb, hg, rest⟩
 ·exact .inl h2
 ·exact .inr ⟨g, cap, cur, rfl, hb, (hk g rfl).trans hg, rest⟩
theorem nh {w : World} {B : Nat} {e : TypeId} {size : Nat} {v : Value} {n : Nat} {xs : List Value} (h : w.ownsRow B e size v n xs) {a : Addr} (ha : ∀ k, v.ownBlock = some k -> k ≠ a.block) (x : Value) : (w.setCell a x).ownsRow B e size v n xs :=
  dF h (fun k hk => Below.heap_setCell _ _ _ _ (ha k hk))
theorem tr {w w' : World} {B : Nat} {e : TypeId} {size : Nat} {v : Value} {n : Nat} {xs : List Value} (h : w.ownsRow B e size v n xs) (hb : Below w.heap.size w w') : w'.ownsRow B e size v n xs :=
  dF h (fun k hk => hb.block k (h.lt k hk).2)
theorem oO {w : World} {B : Nat} {e : TypeId} {size : Nat} {v : Value} {n : Nat} {xs : List Value} (h : w.ownsRow B e size v n xs) : ∃ a cap, v = .slice a n cap := by
 rcases h.2 with ⟨rfl, rfl⟩ | ⟨g, cap, cur, rfl, _⟩
 ·exact ⟨none, 0, rfl⟩
 ·exact ⟨_, _, rfl⟩
theorem tu (w : World) (n : Nat) (o : Obj) (h : w.heap.size = n) : (w.alloc o).heap[n]? = some o := by subst h; exact heap_alloc_new w o
theorem Tryz.infoTok : (Tryz.prog.info? 31).map (fun i => (i.zero, i.size, i.bytes)) = some (some (.agg #[.int .i64 0, .string ⟨#[]⟩, .int .i64 0, .int .i64 0]), 4, 40) := by kernel_rfl
def ni (x : am × Nat) : List Value := [.int .i64 x.1.k, .string (ai x.1.t), .int .i64 x.1.n, .int .i64 x.2]
def bV (l : List (am × Nat)) : List Value := l.flatMap ni
theorem lJ (l : List (am × Nat)) (x : am × Nat) : bV (l ++ [x]) = bV l ++ ni x := by simp [bV]
def Bv (r : iC) (B : Nat) (e : Ending) (w' : World) : Prop :=
  match r with
  | .bad p x => e = .returned (.tuple #[.slice none 0 0, .int .i64 p, .int .i64 x])
  | .ok l => ∃ v, e = .returned (.tuple #[v, .int .i64 0, .int .i64 0]) /\ w'.ownsRow B 31 4 v l.length (bV l)
def zT (r : iC) (w : World) (e : Ending) (w' : World) : Prop := Bv r w.heap.size e w' /\ Below w.heap.size w w'
theorem oP (f : Nat) (L : List UInt8) (p j : Nat) (acc : List (am × Nat)) (hj : p <= j) (h : aG aI (L.drop p) = j - p) :
    db (f + 1) (L.drop p) p acc = if L.drop j = [] then (if 4096 <= acc.length then .bad j 8 else .ok (acc ++ [(⟨6, [], 0⟩, j)]))
      else match cu (L.drop j) with
        | .bad e => .bad j e
        | .tok t n => if 4096 <= acc.length then .bad j 8 else db f (L.drop (j + n)) (j + n) (acc ++ [(t, j)]) := by
 rw [db, h, List.drop_drop, show p + (j - p) = j from by omega]
 by_cases hd : L.drop j = []
 ·rw [if_pos hd, if_pos hd]
 ·rw [if_neg hd, if_neg hd];cases cu (L.drop j) with
  | bad e => rfl
  | tok t n => simp only [List.drop_drop]
theorem tw {r : List UInt8} {t : am} {n : Nat} (h : cu r = .tok t n) : 1 <= t.k /\ t.k <= 5 := by
 unfold cu at h
 split at h
 ·split at h
  ·cases h
  ·split at h <;> (cases h; exact ⟨by simp, by simp⟩)
 ·split at h
  ·split at h
   ·cases h; exact ⟨by simp, by simp⟩
   ·cases h
  ·split at h
   ·split at h
    ·cases h
    ·cases h; exact ⟨by simp, by simp⟩
   ·split at h
    ·cases h
    ·cases h; exact ⟨by simp, by simp⟩
theorem eA {r : List UInt8} {t : am} {n : Nat} (hr : r ≠ []) (h : cu r = .tok t n) : 1 <= n /\ n <= r.length :=
  vo hr h (fun x rest hq => by
    obtain ⟨j, hj, _, hr2⟩ := yf _ _ rfl _ _ hq;have : 0 < r.length := List.length_pos_iff.2 hr;rw [hr2, List.length_drop, List.length_drop]; omega)
theorem rV {r : List UInt8} {e : Int} (h : cu r = .bad e) : e ≠ 0 := by
 unfold cu at h
 split at h
 ·split at h
  ·cases h; decide
  ·split at h <;> cases h
 ·split at h
  ·split at h
   ·cases h
   ·rename_i hp
    cases h; exact hp
  ·split at h
   ·split at h
    ·cases h; decide
    ·cases h
   ·split at h
    ·cases h; decide
    ·cases h
end Go.Proofs.YteljlahcdipilaaGreat
namespace Go.Proofs.YteljlahcdipilaaGreat
open Go.RowKit
theorem tx (c : Nat) (hc : c < 256) (w : World) :
    Calls Tryz.prog 24 #[.int .u8 c] w fun e w' => e = .returned (.bool (aI c)) /\ w' = w := by
 unfold aI
 by_cases a : c = 32
 ·subst a;go_enter Tryz.func24, Tryz.ntmps24;go_wp2_with fail;go_ret;exact ⟨rfl, rfl⟩
 ·by_cases b : c = 9
  ·subst b;go_enter Tryz.func24, Tryz.ntmps24;go_wp2_with fail;go_ret;exact ⟨rfl, rfl⟩
  ·by_cases d : c = 10
   ·subst d;go_enter Tryz.func24, Tryz.ntmps24;go_wp2_with fail;go_ret;exact ⟨rfl, rfl⟩
   ·by_cases e : c = 13
    ·subst e;go_enter Tryz.func24, Tryz.ntmps24;go_wp2_with fail;go_ret;exact ⟨rfl, rfl⟩
    ·have h1 : ((c : Int) == 32) = false := beq_eq_false_iff_ne.2 (by omega);have h2 : ((c : Int) == 9) = false := beq_eq_false_iff_ne.2 (by omega);have h3 : ((c : Int) == 10) = false := beq_eq_false_iff_ne.2 (by omega);have h4 : ((c : Int) == 13) = false := beq_eq_false_iff_ne.2 (by omega);have HR : Hid (decide (c = 32 \/ c = 9 \/ c = 10 \/ c = 13) = false) := aa (decide_eq_false (by omega));go_enter Tryz.func24, Tryz.ntmps24;go_wp2_with fail;go_ret;exact ⟨(by rw [HR.out]; rfl), rfl⟩
theorem jR (c : Nat) (hc : c < 256) (w : World) :
    Calls Tryz.prog 15 #[.int .u8 c] w fun e w' => e = .returned (.bool (aV c)) /\ w = w' := by
 by_cases a : 97 <= c
 ·have a' : (97 : Int) <= c := by omega
  by_cases b : c <= 122
  ·have b' : (c : Int) <= 122 := by omega
   have HE : Hid (aV c = true) := aa (decide_eq_true (by omega));rw [HE.out];go_enter Tryz.func15, Tryz.ntmps15;go_wp2_with fail;go_ret;exact ⟨rfl, rfl⟩
  ·have b' : ¬ (c : Int) <= 122 := by omega
   have u1 : (65 : Int) <= c := by omega
   have u2 : ¬ (c : Int) <= 90 := by omega
   have hq : ((c : Int) == 95) = false := by simp; omega
   have HE : Hid (aV c = false) := aa (decide_eq_false (by omega));rw [HE.out];go_enter Tryz.func15, Tryz.ntmps15;go_wp2_with fail;go_ret;exact ⟨rfl, rfl⟩
 ·have a' : ¬ (97 : Int) <= c := by omega
  by_cases b : 65 <= c
  ·have b' : (65 : Int) <= c := by omega
   by_cases d : c <= 90
   ·have d' : (c : Int) <= 90 := by omega
    have HE : Hid (aV c = true) := aa (decide_eq_true (by omega));rw [HE.out];go_enter Tryz.func15, Tryz.ntmps15;go_wp2_with fail;go_ret;exact ⟨rfl, rfl⟩
   ·have d' : ¬ (c : Int) <= 90 := by omega
    by_cases e : c = 95
    ·have e' : ((c : Int) == 95) = true := by simp; omega
     have HE : Hid (aV c = true) := aa (decide_eq_true (by omega));rw [HE.out];go_enter Tryz.func15, Tryz.ntmps15;go_wp2_with fail;go_ret;exact ⟨rfl, rfl⟩
    ·have e' : ((c : Int) == 95) = false := by simp; omega
     have HE : Hid (aV c = false) := aa (decide_eq_false (by omega));rw [HE.out];go_enter Tryz.func15, Tryz.ntmps15;go_wp2_with fail;go_ret;exact ⟨rfl, rfl⟩
  ·have b' : ¬ (65 : Int) <= c := by omega
   have hq : ((c : Int) == 95) = false := by simp; omega
   have HE : Hid (aV c = false) := aa (decide_eq_false (by omega));rw [HE.out];go_enter Tryz.func15, Tryz.ntmps15;go_wp2_with fail;go_ret;exact ⟨rfl, rfl⟩
theorem kC (c : Nat) (hc : c < 256) (w : World) :
    Calls Tryz.prog 17 #[.int .u8 c] w fun e w' => e = .returned (.bool (cP c)) /\ w = w' := by
 by_cases a : 48 <= c
 ·have a' : (48 : Int) <= c := by omega
  by_cases b : c <= 57
  ·have b' : (c : Int) <= 57 := by omega
   have HE : Hid (cP c = true) := aa (decide_eq_true (by omega));rw [HE.out];go_enter Tryz.func17, Tryz.ntmps17;go_wp2_with fail;go_ret;exact ⟨rfl, rfl⟩
  ·have b' : ¬ (c : Int) <= 57 := by omega
   have HE : Hid (cP c = false) := aa (decide_eq_false (by omega));rw [HE.out];go_enter Tryz.func17, Tryz.ntmps17;go_wp2_with fail;go_ret;exact ⟨rfl, rfl⟩
 ·have a' : ¬ (48 : Int) <= c := by omega
  have HE : Hid (cP c = false) := aa (decide_eq_false (by omega));rw [HE.out];go_enter Tryz.func17, Tryz.ntmps17;go_wp2_with fail;go_ret;exact ⟨rfl, rfl⟩
theorem tA (c : Nat) (hc : c < 256) (w : World) :
    Calls Tryz.prog 39 #[.int .u8 c] w fun e w' => e = .returned (.bool (bf c)) /\ w' = w := by
 obtain ⟨R, hR⟩ := nam (bf c);have HR := aa hR;rw [hR];clear hR;have hl := jR c hc w;have hd := kC c hc w;cases ha : aV c with
 | true =>
  rw [ha] at hl;have hr : R = true := by rw [<- HR.out]; unfold bf; rw [ha]; rfl
  subst hr;clear ha;go_enter Tryz.func39, Tryz.ntmps39;go_wp2_with fail;refine hl.mono ?_;rintro e w1 ⟨rfl, rfl⟩;go_wp2_with fail;go_ret;exact ⟨rfl, rfl⟩
 | false =>
  rw [ha] at hl;have hr : R = cP c := by rw [<- HR.out]; unfold bf; rw [ha]; rfl
  rw [<- hr] at hd;clear ha hr;go_enter Tryz.func39, Tryz.ntmps39;go_wp2_with fail;refine hl.mono ?_;rintro e w1 ⟨rfl, rfl⟩;go_wp2_with fail;refine hd.mono ?_;rintro e w1 ⟨rfl, rfl⟩;go_wp2_with fail;go_ret;exact ⟨rfl, rfl⟩
theorem yl (c : Nat) (hc : c < 256) (w : World) :
    Calls Tryz.prog 19 #[.int .u8 c] w fun e w' => e = .returned (.bool (decide (c = 39))) /\ w' = w := by
 by_cases a : c = 39
 ·subst a;go_enter Tryz.func19, Tryz.ntmps19;go_wp2_with fail;go_ret;exact ⟨rfl, rfl⟩
 ·have h1 : ((c : Int) == 39) = false := beq_eq_false_iff_ne.2 (by omega);have HR : Hid (decide (c = 39) = false) := aa (decide_eq_false a);go_enter Tryz.func19, Tryz.ntmps19;go_wp2_with fail;go_ret;exact ⟨(by rw [HR.out]; rfl), rfl⟩
theorem tB (c : Nat) (w : World) :
    Calls Tryz.prog 21 #[.int .u8 c] w fun e w' => e = .returned (.bool true) /\ w' = w := by
 go_enter Tryz.func21, Tryz.ntmps21;go_wp2_with fail;go_ret;exact ⟨rfl, rfl⟩
def jc (k : Int) (s : List UInt8) (n : Int) : List UInt8 := if k = 3 then cX n else if k = 4 then 39 :: (dD s ++ [39]) else s
theorem tC (k : Int) (s : ByteArray) (n a : Int) (w : World) (hn : dP n) (hs : s.size <= 1099511627776) :
    Calls Tryz.prog 9 #[.agg #[.int .i64 k, .string s, .int .i64 n, .int .i64 a]] w fun e w' => e = .returned (.string (ai (jc k s.data.toList n))) /\ Below w.heap.size w w' := by
 have hb0 : Below w.heap.size w (w.alloc (.cells #[.int .i64 k, .string s, .int .i64 n, .int .i64 a] 31)) := (Below.refl _ _).alloc (Nat.le_refl _) _;have HB0 := aa hb0;clear hb0
 by_cases h3 : k = 3
 ·subst h3;go_enter Tryz.func9, Tryz.ntmps9;go_wp2_with fail;refine (sS n _ hn).mono ?_;rintro e w1 ⟨rfl, hb1⟩;go_wp2_with fail;go_ret;exact ⟨rfl, aF HB0.out rfl hb1⟩
 ·have b3 : (k == 3) = false := beq_eq_false_iff_ne.2 h3
  by_cases h4 : k = 4
  ·subst h4;go_enter Tryz.func9, Tryz.ntmps9;go_wp2_with fail;refine (qt s _ hs).mono ?_;rintro e w1 ⟨rfl, hb1⟩;go_wp2_with fail;go_ret;exact ⟨rfl, aF HB0.out rfl hb1⟩
  ·have b4 : (k == 4) = false := beq_eq_false_iff_ne.2 h4;have HR : Hid (ai (jc k s.data.toList n) = s) := aa (by unfold jc; rw [if_neg h3, if_neg h4]; exact fi s);go_enter Tryz.func9, Tryz.ntmps9;go_wp2_with fail;go_ret;exact ⟨(by rw [HR.out]; rfl), HB0.out⟩
end Go.Proofs.YteljlahcdipilaaGreat
namespace Go.Proofs.YteljlahcdipilaaGreat
open Go.RowKit Go.Shelf
def Sc (w : World) (B b : Nat) (s : ByteArray) (p : Nat) (v : Value) (acc : List (am × Nat)) : Prop :=
  B <= b /\ ae w b [.string s, .int .i64 p, v] 47 /\ w.ownsRow B 31 4 v acc.length (bV acc) /\ (∀ k, v.ownBlock = some k -> k ≠ b)
theorem Sc.drewN {w : World} {B b : Nat} {s : ByteArray} {p : Nat} {v : Value} {acc : List (am × Nat)} (h : Sc w B b s p v acc) (n : Nat) : Sc (w.drewN n) B b s p v acc := h
theorem jS (c : Nat) (hc : c < 256) (w : World) : Calls Tryz.prog 17 #[.int .u8 c] w fun e w' => e = .returned (.bool (cP c)) /\ w' = w := (kC c hc w).mono fun _ _ ⟨h, k⟩ => ⟨h, k.symm⟩
theorem nj (c : Nat) (hc : c < 256) (w : World) : Calls Tryz.prog 15 #[.int .u8 c] w fun e w' => e = .returned (.bool (aV c)) /\ w' = w := (jR c hc w).mono fun _ _ ⟨h, k⟩ => ⟨h, k.symm⟩
def gO (n : Nat) (w : World) (e : Ending) (w' : World) : Prop := e = .returned (.int .i64 n) /\ ∃ m, w' = w.drewN m
theorem Sq285625 {P : Prop} (h : P := by
 have HLN : Hid (s.data.toList.length = s.size) := aa (by simp);have HB := aa hb;clear hb;go_enter Tryz.func23, Tryz.ntmps23;go_wp2_with fail
 first
 | (guard_hyp z285625a; go_loopw [5] (fun k wr => ∃ n : Nat, k = .int .i64 n /\ Hid (iP bf s.data.toList p (p + n)) /\ Hid (∃ m, wr = w.drewN m)) (fun k _ => s.size - (intOf k).toNat))
 | (guard_hyp z285625b; go_loopw [5] (fun k wr => ∃ n : Nat, k = .int .i64 n /\ Hid (iP aI s.data.toList p (p + n)) /\ Hid (∃ m, wr = w.drewN m)) (fun k _ => s.size - (intOf k).toNat))
 | (go_loopw [5] (fun k wr => ∃ n : Nat, k = .int .i64 n /\ Hid (iP cP s.data.toList p (p + n)) /\ Hid (∃ m, wr = w.drewN m)) (fun k _ => s.size - (intOf k).toNat))
 case atStart => exact ⟨0, rfl, aa (gM (by rw [HLN.out]; exact hp)), aa ⟨0, rfl⟩⟩
 case round =>
  obtain ⟨n, rfl, hd, HM⟩ := hrel;have hnl : p + n <= s.size := by have := hd.out.2.1; rw [HLN.out] at this; exact this
  have HBR : Hid (ae wr b [.string s, .int .i64 p, v] 47) := aa (by obtain ⟨m, hm⟩ := HM.out; rw [hm]; exact HB.out);have c0 := HBR.out.cell (i := 0) rfl;have c1 := HBR.out.cell (i := 1) rfl;have s1 : IntKind.i64.wrap ((p : Int) + n) = (p : Int) + n := IntWalk.i64_in _ (by omega);have s2 : (0 : Int) <= (p : Int) + n := by omega
  have s3 : ((p : Int) + n).toNat = p + n := by omega
  by_cases hq : p + n < s.size
  ·have hq' : (p : Int) + n < s.size := by omega
   have hc : s[p + n].toNat < 256 := by have := s[p + n].toNat_lt; omega
   have X : Hid (s[p + n].toNat = nb s.data.toList (p + n)) := aa (dw s (p + n) hq)
   first
   |(
    guard_hyp z285625a
    have HT := aa (fun w => tA s[p + n].toNat hc w);cases ht : bf s[p + n].toNat with
    | true =>
     rw [ht] at HT;have HU := aa (gN hd.out (by rw [HLN.out]; exact hq) (by rw [<- X.out]; exact ht));clear ht;go_wp2_with fail
     go_quiet ((go_at_call 39; exact Calls.quiet_of_same (HT.out _)))
     clear s1;go_wp2_with fail;go_roundw;case rel => exact ⟨n + 1, by go_num, HU, aa (by obtain ⟨m, hm⟩ := HM.out; exact ⟨_, by rw [hm, World.drewN_drewN]⟩)⟩
     case measure => simp [intOf]; omega
    | false =>
     rw [ht] at HT;have HSP := aa (eP hd.out (fun _ => by rw [<- X.out]; exact ht));clear ht;go_wp2_with fail
     go_quiet ((go_at_call 39; exact Calls.quiet_of_same (HT.out _)))
     clear s1;go_wp2_with fail;go_ret;exact ⟨by rw [HSP.out, show p + n - p = n from by omega]; rfl, by obtain ⟨m, hm⟩ := HM.out; exact ⟨_, by rw [hm, World.drewN_drewN]⟩⟩)
   |(
    guard_hyp z285625b
    have HT := aa (fun w => tx s[p + n].toNat hc w);cases ht : aI s[p + n].toNat with
    | true =>
     rw [ht] at HT;have HU := aa (gN hd.out (by rw [HLN.out]; exact hq) (by rw [<- X.out]; exact ht));clear ht;go_wp2_with fail
     go_quiet ((go_at_call 24; exact Calls.quiet_of_same (HT.out _)))
     clear s1;go_wp2_with fail;go_roundw;case rel => exact ⟨n + 1, by go_num, HU, aa (by obtain ⟨m, hm⟩ := HM.out; exact ⟨_, by rw [hm, World.drewN_drewN]⟩)⟩
     case measure => simp [intOf]; omega
    | false =>
     rw [ht] at HT;have HSP := aa (eP hd.out (fun _ => by rw [<- X.out]; exact ht));clear ht;go_wp2_with fail
     go_quiet ((go_at_call 24; exact Calls.quiet_of_same (HT.out _)))
     clear s1;go_wp2_with fail;go_ret;exact ⟨by rw [HSP.out, show p + n - p = n from by omega]; rfl, by obtain ⟨m, hm⟩ := HM.out; exact ⟨_, by rw [hm, World.drewN_drewN]⟩⟩)
   |(
    have HT := aa (fun w => jS s[p + n].toNat hc w);cases ht : cP s[p + n].toNat with
    | true =>
     rw [ht] at HT;have HU := aa (gN hd.out (by rw [HLN.out]; exact hq) (by rw [<- X.out]; exact ht));clear ht;go_wp2_with fail
     go_quiet ((go_at_call 17; exact Calls.quiet_of_same (HT.out _)))
     clear s1;go_wp2_with fail;go_roundw;case rel => exact ⟨n + 1, by go_num, HU, aa (by obtain ⟨m, hm⟩ := HM.out; exact ⟨_, by rw [hm, World.drewN_drewN]⟩)⟩
     case measure => simp [intOf]; omega
    | false =>
     rw [ht] at HT;have HSP := aa (eP hd.out (fun _ => by rw [<- X.out]; exact ht));clear ht;go_wp2_with fail
     go_quiet ((go_at_call 17; exact Calls.quiet_of_same (HT.out _)))
     clear s1;go_wp2_with fail;go_ret;exact ⟨by rw [HSP.out, show p + n - p = n from by omega]; rfl, by obtain ⟨m, hm⟩ := HM.out; exact ⟨_, by rw [hm, World.drewN_drewN]⟩⟩)
  ·have hqd : decide ((p : Int) + n < s.size) = false := decide_eq_false (by omega);have HSP := aa (eP hd.out (fun h => by rw [HLN.out] at h; omega));go_wp2_with fail
   go_quiet (fail)
   clear s1;go_wp2_with fail;go_ret;exact ⟨by rw [HSP.out, show p + n - p = n from by omega]; rfl, by obtain ⟨m, hm⟩ := HM.out; exact ⟨_, by rw [hm, World.drewN_drewN]⟩⟩) : P := h
theorem qF (s : ByteArray) (p b : Nat) (w : World) (v : Value) (hs : s.size <= 1099511627776) (hp : p <= s.size) (hb : ae w b [.string s, .int .i64 p, v] 47) :
    Calls Tryz.prog 23 #[.pointer (some ⟨b, 0, none⟩), .func (.func 39) #[] #[]] w (gO (aG bf (s.data.toList.drop p)) w) := by
 have z285625a := trivial;exact Sq285625
theorem oQ (s : ByteArray) (p b : Nat) (w : World) (v : Value) (hs : s.size <= 1099511627776) (hp : p <= s.size) (hb : ae w b [.string s, .int .i64 p, v] 47) :
    Calls Tryz.prog 23 #[.pointer (some ⟨b, 0, none⟩), .func (.func 17) #[] #[]] w (gO (aG cP (s.data.toList.drop p)) w) := Sq285625
theorem fc (s : ByteArray) (p b : Nat) (w : World) (v : Value) (hs : s.size <= 1099511627776) (hp : p <= s.size) (hb : ae w b [.string s, .int .i64 p, v] 47) :
    Calls Tryz.prog 23 #[.pointer (some ⟨b, 0, none⟩), .func (.func 24) #[] #[]] w (gO (aG aI (s.data.toList.drop p)) w) := by
 have z285625b := trivial;exact Sq285625
def fU (b : Nat) (v : Value) : List Nat := b :: v.ownBlock.toList
theorem nq (b : Nat) (v : Value) : b ∈ fU b v := by simp [fU]
theorem qG {b k : Nat} {v : Value} (h : v.ownBlock = some k) : k ∈ fU b v := by simp [fU, h]
theorem iQ {b x : Nat} {v : Value} (h : x ∈ fU b v) : x = b \/ v.ownBlock = some x := by
 simp only [fU, List.mem_cons, Option.mem_toList] at h;exact h
def bW (B b : Nat) (s : ByteArray) (v : Value) (p : Nat) (acc : List (am × Nat)) (w w' : World) : Prop :=
  ∃ v', Sc w' B b s p v' acc /\ di (fU b v) w w' /\ ∀ x ∈ fU b v', x ∈ fU b v \/ w.heap.size <= x
theorem Sc.of_heap {w w' : World} {B b : Nat} {s : ByteArray} {p : Nat} {v : Value} {acc : List (am × Nat)} (h : Sc w B b s p v acc) (hk : ∀ k ∈ fU b v, w'.heap[k]? = w.heap[k]?) : Sc w' B b s p v acc :=
  ⟨h.1, h.2.1.of_heap (hk b (nq b v)), dF h.2.2.1 (fun k e => hk k (qG e)), h.2.2.2⟩
theorem Sc.lt {w : World} {B b : Nat} {s : ByteArray} {p : Nat} {v : Value} {acc : List (am × Nat)} (h : Sc w B b s p v acc) : ∀ k ∈ fU b v, B <= k /\ k < w.heap.size := fun k hk => by
  rcases iQ hk with rfl | e
  · exact ⟨h.1, h.2.1.lt⟩
  · exact h.2.2.1.lt k e
theorem Sc.below {w w' : World} {B b : Nat} {s : ByteArray} {p : Nat} {v : Value} {acc : List (am × Nat)} (h : Sc w B b s p v acc) (hb : Below w.heap.size w w') : Sc w' B b s p v acc := h.of_heap (fun k hk => hb.block k (h.lt k hk).2)
theorem bW.same {w w' : World} {B b : Nat} {s : ByteArray} {p : Nat} {v : Value} {acc : List (am × Nat)} (h : Sc w B b s p v acc) (hb : Below w.heap.size w w') : bW B b s v p acc w w' :=
  ⟨v, h.below hb, di.of_below hb, fun x hx => .inl hx⟩
theorem bW.trans {a w w' : World} {B b : Nat} {s : ByteArray} {p : Nat} {v v1 : Value} {acc acc' : List (am × Nat)} (hk : di (fU b v) a w) (hv : ∀ x ∈ fU b v1, x ∈ fU b v \/ a.heap.size <= x)
    (h : bW B b s v1 p acc' w w') : bW B b s v p acc' a w' := by
 obtain ⟨v', h1, h2, h3⟩ := h;refine ⟨v', h1, hk.trans h2 hv, fun x hx => ?_⟩;rcases h3 x hx with h | h
 ·exact hv x h
 ·exact .inr (Nat.le_trans hk.size h)
theorem oR {w w0 w1 : World} {row : Option Nat} {b : Nat} {cur : List Value} {t : TypeId} (hb : ae w b cur t) (h0 : w0.heap[b]? = w.heap[b]?) (hg : w0.grownBy w1 row) (hr : row ≠ some b) : ae w1 b cur t := by
 have h1 : ae w0 b cur t := hb.of_heap h0;exact h1.of_heap (hg.block b h1.lt (Ne.symm hr))
theorem rW (w : World) (X Y : Obj) : ((w.alloc X).alloc Y).drew.heap[w.heap.size + 1]? = some Y := by
 show ((w.alloc X).alloc Y).heap[w.heap.size + 1]? = _;exact tu _ _ _ (by simp)
def dB (B b : Nat) (s : ByteArray) (v : Value) (p : Nat) (acc : List (am × Nat)) (t : am) (m : Nat) (w : World) (e : Ending) (w' : World) : Prop :=
  if 4096 <= acc.length then e = .returned (.int .i64 8) /\ bW B b s v p acc w w'
  else e = .returned (.int .i64 0) /\ bW B b s v (p + m) (acc ++ [(t, p)]) w w'
theorem tD {w w1 : World} {B b : Nat} {s : ByteArray} {p m n cap gg cap2 : Nat} {a : Option Addr} {acc : List (am × Nat)} {X Y : Obj} {t : am} (hn : n = acc.length) (hB : B <= b) (hlt : b < w.heap.size)
    (hne : ∀ k, (Value.slice a n cap).ownBlock = some k -> k ≠ b)
    (hb1 : ae w1 b [.string s, .int .i64 p, .slice a n cap] 47)
    (hown1 : w1.ownsRow B 31 4 (.slice (some ⟨gg, 0, none⟩) (n + 1) cap2) (n + 1) (bV acc ++ ni (t, p)))
    (hgrow : (((w.alloc X).alloc Y).drew).grownBy w1 (Value.slice a n cap).ownBlock) (hat : (Value.slice a n cap).ownBlock = some gg \/ gg = w.heap.size + 2) :
    bW B b s (.slice a n cap) (p + m) (acc ++ [(t, p)]) w ((w1.setCell ⟨b, 2, none⟩ (.slice (some ⟨gg, 0, none⟩) (n + 1) cap2)).setCell ⟨b, 1, none⟩ (.int .i64 ((p : Int) + m))) := by
 have hgb : gg ≠ b := by
  rcases hat with h | h
  ·exact hne _ h
  ·omega
 have hk : di (fU b (.slice a n cap)) w w1 := (((((di.refl _ w).alloc X).alloc Y).drew).grown hgrow (fun k hk => .inl (qG hk)));have hs2 : ∀ k, (Value.slice (some ⟨gg, 0, none⟩) (n + 1) cap2).ownBlock = some k -> k ≠ b := fun k e => by
  have : gg = k := by injection e
  omega
 refine ⟨.slice (some ⟨gg, 0, none⟩) (n + 1) cap2, ⟨hB, ?_, ?_, hs2⟩, (hk.setCell (.inl (nq b _)) _).setCell (.inl (nq b _)) _, fun x hx => ?_⟩
 ·have := (hb1.set 2 (.slice (some ⟨gg, 0, none⟩) (n + 1) cap2)).set 1 (.int .i64 ((p : Int) + m));rw [show (((p + m : Nat)) : Int) = (p : Int) + m from by omega];exact this
 ·rw [List.length_append, <- hn, lJ];exact nh (a := ⟨b, 1, none⟩) (nh (a := ⟨b, 2, none⟩) hown1 hs2 _) hs2 _
 ·rcases iQ hx with rfl | e
  ·exact .inl (nq _ _)
  ·have he : gg = x := by injection e
   subst he;rcases hat with h | h
   ·exact .inl (qG h)
   ·exact .inr (by omega)
theorem gh (B b : Nat) (s : ByteArray) (v : Value) (p : Nat) (acc : List (am × Nat)) (t : am) (x : Int) (m : Nat) (w : World) (h : Sc w B b s p v acc) (hacc : acc.length <= 4096) (hpm : p + m <= 1099511627776) :
    Calls Tryz.prog 25 #[.pointer (some ⟨b, 0, none⟩), .agg #[.int .i64 t.k, .string (ai t.t), .int .i64 t.n, .int .i64 x], .int .i64 m] w (dB B b s v p acc t m w) := by
 obtain ⟨i0, hi0, hz0, hz1, hz2⟩ := info_parts Tryz.infoTok;have hH := h;obtain ⟨hBb, hb, ho, hne⟩ := h;obtain ⟨a, cap, rfl⟩ := oO ho;obtain ⟨n, hn⟩ := nam acc.length;have HH := aa hH;clear hH;rw [hn] at ho hb hne hacc;have HN := aa hn.symm;have hlt := hb.lt;have c1 := hb.cell (i := 1) rfl;have c2 := hb.cell (i := 2) rfl;have f1 := hb.free 1;have f2 := hb.free 2;have ag : (Value.slice a n cap).ownBlock ≠ some b := fun e => hne b e rfl
 have hfa : ∀ o o', ((w.alloc o).alloc o').drew.frozen? ⟨b, 2, none⟩ = false := fun o o' => ((hb.alloc o).alloc o').free 2
 obtain ⟨HO, HB, HNE⟩ := hd3 ho hb hne;clear hb ho hne;obtain ⟨tk, tt, tn⟩ := t
 by_cases hfull : 4096 <= n
 ·have hfull' : (4096 : Int) <= n := by omega
  clear hn;go_enter Tryz.func25, Tryz.ntmps25;go_wp2_with fail;go_ret;unfold dB;rw [if_pos (by rw [<- HN.out]; exact hfull)];exact ⟨rfl, by rw [HN.out] at *; exact bW.same HH.out ((Below.refl _ _).alloc (Nat.le_refl _) _)⟩
 ·have hfull' : ¬ (4096 : Int) <= n := by omega
  have hge : decide ((4096 : Int) <= n) = false := decide_eq_false hfull';clear hn;go_enter Tryz.func25, Tryz.ntmps25;go_wp2_with fail
  go_region_law (first | (refine step_append_lies _ (by rfl) _ _ _ (by rfl) B 31 i0 _ 4 40 Tryz.underlying23 hi0 hz0 hz1 hz2 rfl (by omega) (.slice a n cap) n (bV acc) (by rfl) (((HO.out.alloc _).alloc _).drew) ⟨w.heap.size + 1, 0, none⟩ 1 1 [.int .i64 tk, .string (ai tt), .int .i64 tn, .int .i64 p] (by rfl) (by rfl) (World.news_of_block (cs := #[.int .i64 tk, .string (ai tt), .int .i64 tn, .int .i64 p]) (t := 31) (fr := (0, 0)) (rW w _ _)) (by simp [Value.oneCell']) (by omega) (by unfold maxLen; omega) (by omega) (by simp; omega) (w.heap.size + 2) (by simp) ?_; intro gg cap2 w1 hown1 hgrow hat hlt1; have hb1 := oR HB.out (w0 := ((w.alloc _).alloc _).drew) ((Below.heap_alloc _ _ _ (by simp; omega)).trans (Below.heap_alloc _ _ _ hlt)) hgrow ag; have k1 := hb1.cell (i := 1) rfl; have k2 := hb1.cell (i := 2) rfl; have g1 := hb1.free 1; have g2 := hb1.free 2; have HB1 := aa hb1; clear hb1))
  all_goals go_wp2_with fail
  all_goals go_ret
  all_goals (unfold dB; rw [if_neg (by rw [<- HN.out]; exact hfull), <- HN.out]; exact ⟨rfl, tD (t := ⟨tk, tt, tn⟩) HN.out HH.out.1 hlt HNE.out HB1.out hown1 hgrow hat⟩)
def oS (B b : Nat) (s : ByteArray) (v : Value) (p : Nat) (acc : List (am × Nat)) (r : Cg) (w : World) (e : Ending) (w' : World) : Prop :=
  match r with
  | .bad x => e = .returned (.int .i64 x) /\ bW B b s v p acc w w'
  | .tok t n => dB B b s v p acc t n w e w'
theorem dB.trans {a w w' : World} {B b : Nat} {s : ByteArray} {p : Nat} {v : Value} {acc : List (am × Nat)} {t : am} {m : Nat} {e : Ending} (hk : di (fU b v) a w) (h : dB B b s v p acc t m w e w') : dB B b s v p acc t m a e w' := by
 unfold dB at h ⊢
 split at h
 ·rename_i hc; rw [if_pos hc]; exact ⟨h.1, bW.trans (acc := acc) hk (fun x hx => .inl hx) h.2⟩
 ·rename_i hc; rw [if_neg hc]; exact ⟨h.1, bW.trans (acc := acc) hk (fun x hx => .inl hx) h.2⟩
theorem qH (s : ByteArray) (w : World) (hs : s.size <= 9223372036854775807) : Calls Tryz.prog 41 #[.string s] w fun e w' => e = .returned (.tuple #[.int .i64 (cm s.data.toList).1, .int .i64 (cm s.data.toList).2]) /\ w' = w := (sQ s w hs).mono fun _ _ ⟨h, k⟩ => ⟨h, k.symm⟩
theorem gP {w w' : World} (h : ∃ m, w' = w.drewN m) : Below w.heap.size w w' := by
 obtain ⟨m, rfl⟩ := h; exact aH (Below.refl _ _) m
theorem tE (B b : Nat) (s : ByteArray) (v : Value) (p : Nat) (acc : List (am × Nat)) (mm : Int) (w : World) (hs : s.size <= 1099511627776) (h : Sc w B b s p v acc) (hacc : acc.length <= 4096) (hp : p < s.size)
    (hm : w.cell? yj = some (.int .i64 mm)) (hg : 0 < w.heap.size) (hl : aV s[p].toNat = true) :
    Calls Tryz.prog 16 #[.pointer (some ⟨b, 0, none⟩)] w (oS B b s v p acc (cu (s.data.toList.drop p)) w) := by
 have HLN : Hid (s.data.toList.length = s.size) := aa (by simp);obtain ⟨R, hR⟩ := nam (cu (s.data.toList.drop p));have HR := aa hR;rw [hR];clear hR;have HLD : Hid (aV (nb (s.data.toList.drop p) 0) = true) := aa (by rw [cT, Nat.add_zero, <- dw s p hp]; exact hl);obtain ⟨n, hn⟩ := nam (aG bf (s.data.toList.drop p));have hnle : p + n <= s.size := by have := cU bf (s.data.toList.drop p); rw [hn, List.length_drop, HLN.out] at this; omega
 have HW := aa (qF s p b w v hs (by omega) h.2.1);rw [hn] at HW;obtain ⟨HSPN, HS, HM⟩ := hd3 hn h hm;clear h hm hl hn;have s1 : IntKind.i64.wrap ((p : Int) + n) = (p : Int) + n := IntWalk.i64_in _ (by omega);have S1 := aa s1;clear s1;have q0 : (0 : Int) <= (p : Int) + n := by omega
 have q1 : (p : Int) <= (p : Int) + n := by omega
 have q2 : (p : Int) + n <= s.size := by omega
 have q3 : ((p : Int) + n).toNat = p + n := by omega
 have Q3 := aa q3;clear q3;have hxz : (s.extract p (p + n)).size <= 1099511627776 := by simp; omega
 have HX : Hid ((s.extract p (p + n)).data.toList = (s.data.toList.drop p).take (aG bf (s.data.toList.drop p))) := aa (by rw [gf, HSPN.out, show p + n - p = n from by omega]);go_enter Tryz.func16, Tryz.ntmps16;go_wp2_with fail;refine HW.out.mono ?_;rintro e w1 ⟨rfl, hm1⟩;have HB1 := aa (gP hm1);have HS1 : Hid (Sc w1 B b s p v acc) := aa (HS.out.below HB1.out);have HM1 : Hid (w1.cell? yj = some (.int .i64 mm)) := aa (by rw [HB1.out.cell (by show 0 < w.heap.size; exact hg)]; exact HM.out);have hg1 : 0 < w1.heap.size := Nat.lt_of_lt_of_le hg HB1.out.size;clear hm1;have c0 := HS1.out.2.1.cell (i := 0) rfl;have c1 := HS1.out.2.1.cell (i := 1) rfl;have HWD := aa (fun k => oJ (s.extract p (p + n)) mm (w1.drewN k) hxz (by exact HM1.out) (by exact hg1));have s1 := S1.out;have q3 := Q3.out;go_wp2_with fail
 go_quiet (fail)
 clear s1
 by_cases h64 : 64 < n
 ·have h64' : (64 : Int) < n := by omega
  have HRR : Hid (R = .bad 1) := aa (by rw [<- HR.out]; exact lI HLD.out (by rw [HSPN.out]; exact h64));go_wp2_with fail;go_ret;rw [HRR.out];exact ⟨rfl, bW.same HS.out (aH HB1.out _)⟩
 ·have h64' : ¬ (64 : Int) < n := by omega
  have HN64 : Hid (¬ 64 < aG bf (s.data.toList.drop p)) := aa (by rw [HSPN.out]; exact h64);unfold kz at HWD;rw [HX.out] at HWD;cases hw : ew ((s.data.toList.drop p).take (aG bf (s.data.toList.drop p))) with
  | true =>
   obtain ⟨lw, hlw⟩ := nam (bU ((s.data.toList.drop p).take (aG bf (s.data.toList.drop p))));have HRR : Hid (R = .tok ⟨2, lw, 0⟩ n) := aa (by rw [<- HR.out, jw HLD.out HN64.out hw, hlw, HSPN.out]);rw [hw, hlw] at HWD;clear hw hlw;have HWW : Hid (∀ k, Calls Tryz.prog 40 #[.string (s.extract p (p + n))] (w1.drewN k) fun e w' => e = .returned (.tuple #[.string (ai lw), .bool true]) /\ Below (w1.drewN k).heap.size (w1.drewN k) w') := aa (fun k => HWD.out k);clear HWD;have HPUT : Hid (∀ w2, Sc w2 B b s p v acc -> Calls Tryz.prog 25 #[.pointer (some ⟨b, 0, none⟩), .agg #[.int .i64 2, .string (ai lw), .int .i64 0, .int .i64 0], .int .i64 n] w2 (dB B b s v p acc ⟨2, lw, 0⟩ n w2)) := aa (fun w2 h2 => gh B b s v p acc ⟨2, lw, 0⟩ 0 n w2 h2 hacc (by omega));go_wp2_with fail;refine (HWW.out _).mono ?_;rintro e w2 ⟨rfl, hb2⟩;have HB2 := aa (aF (aH HB1.out _) rfl hb2);clear hb2;go_wp2_with fail;refine (HPUT.out _ (HS.out.below HB2.out)).mono ?_;rintro e w3 hp3;have HP3 := aa (dB.trans (di.of_below HB2.out) hp3);unfold dB at hp3
   split at hp3
   ·obtain ⟨rfl, _⟩ := hp3;go_wp2_with fail;go_ret;rw [HRR.out]; exact HP3.out
   ·obtain ⟨rfl, _⟩ := hp3;go_wp2_with fail;go_ret;rw [HRR.out]; exact HP3.out
  | false =>
   have HRR : Hid (R = .tok ⟨1, (s.data.toList.drop p).take (aG bf (s.data.toList.drop p)), 0⟩ n) := aa (by rw [<- HR.out, lZ HLD.out HN64.out hw, HSPN.out]);have HXX : Hid (ai ((s.data.toList.drop p).take (aG bf (s.data.toList.drop p))) = s.extract p (p + n)) := aa (by rw [<- HX.out]; exact fi _);rw [hw] at HWD;clear hw;have HWW : Hid (∀ k, Calls Tryz.prog 40 #[.string (s.extract p (p + n))] (w1.drewN k) fun e w' => e = .returned (.tuple #[.string ⟨#[]⟩, .bool false]) /\ Below (w1.drewN k).heap.size (w1.drewN k) w') := aa (fun k => HWD.out k);clear HWD;have HPUT : Hid (∀ w2, Sc w2 B b s p v acc -> Calls Tryz.prog 25 #[.pointer (some ⟨b, 0, none⟩), .agg #[.int .i64 1, .string (s.extract p (p + n)), .int .i64 0, .int .i64 0], .int .i64 n] w2 (dB B b s v p acc ⟨1, (s.data.toList.drop p).take (aG bf (s.data.toList.drop p)), 0⟩ n w2)) := aa (fun w2 h2 => by
    have := gh B b s v p acc ⟨1, (s.data.toList.drop p).take (aG bf (s.data.toList.drop p)), 0⟩ 0 n w2 h2 hacc (by omega);dsimp only at this;rw [HXX.out] at this;exact this)
   go_wp2_with fail;refine (HWW.out _).mono ?_;rintro e w2 ⟨rfl, hb2⟩;have HB2 := aa (aF (aH HB1.out _) rfl hb2);clear hb2;go_wp2_with fail;refine (HPUT.out _ (HS.out.below HB2.out)).mono ?_;rintro e w3 hp3;have HP3 := aa (dB.trans (di.of_below HB2.out) hp3);unfold dB at hp3
   split at hp3
   ·obtain ⟨rfl, _⟩ := hp3;go_wp2_with fail;go_ret;rw [HRR.out]; exact HP3.out
   ·obtain ⟨rfl, _⟩ := hp3;go_wp2_with fail;go_ret;rw [HRR.out]; exact HP3.out
theorem oT (B b : Nat) (s : ByteArray) (v : Value) (p : Nat) (acc : List (am × Nat)) (w : World) (hs : s.size <= 1099511627776) (h : Sc w B b s p v acc) (hacc : acc.length <= 4096) (hp : p < s.size)
    (hl : aV s[p].toNat = false) (hdg : cP s[p].toNat = true) :
    Calls Tryz.prog 18 #[.pointer (some ⟨b, 0, none⟩)] w (oS B b s v p acc (cu (s.data.toList.drop p)) w) := by
 have HLN : Hid (s.data.toList.length = s.size) := aa (by simp);obtain ⟨R, hR⟩ := nam (cu (s.data.toList.drop p));have HR := aa hR;rw [hR];clear hR;have HLD : Hid (aV (nb (s.data.toList.drop p) 0) = false) := aa (by rw [cT, Nat.add_zero, <- dw s p hp]; exact hl);have HDD : Hid (cP (nb (s.data.toList.drop p) 0) = true) := aa (by rw [cT, Nat.add_zero, <- dw s p hp]; exact hdg);obtain ⟨n, hn⟩ := nam (aG cP (s.data.toList.drop p));have hnle : p + n <= s.size := by have := cU cP (s.data.toList.drop p); rw [hn, List.length_drop, HLN.out] at this; omega
 have HW := aa (oQ s p b w v hs (by omega) h.2.1);rw [hn] at HW;have HSPN := aa hn;have HS := aa h;clear h hl hdg hn;have s1 : IntKind.i64.wrap ((p : Int) + n) = (p : Int) + n := IntWalk.i64_in _ (by omega);have S1 := aa s1;clear s1;have q0 : (0 : Int) <= (p : Int) + n := by omega
 have q1 : (p : Int) <= (p : Int) + n := by omega
 have q2 : (p : Int) + n <= s.size := by omega
 have q3 : ((p : Int) + n).toNat = p + n := by omega
 have Q3 := aa q3;clear q3;have hxz : (s.extract p (p + n)).size <= 9223372036854775807 := by simp; omega
 have HX : Hid ((s.extract p (p + n)).data.toList = (s.data.toList.drop p).take (aG cP (s.data.toList.drop p))) := aa (by rw [gf, HSPN.out, show p + n - p = n from by omega]);have HPA := aa (fun w => qH (s.extract p (p + n)) w hxz);rw [HX.out] at HPA;obtain ⟨x, f, hxf⟩ : ∃ x f, cm ((s.data.toList.drop p).take (aG cP (s.data.toList.drop p))) = (x, f) := ⟨_, _, rfl⟩;rw [hxf] at HPA;have HXF := aa hxf;clear hxf;have HPP : Hid (∀ w, Calls Tryz.prog 41 #[.string (s.extract p (p + n))] w fun e w' => e = .returned (.tuple #[.int .i64 x, .int .i64 f]) /\ w' = w) := aa (fun w => HPA.out w);clear HPA hxz;go_enter Tryz.func18, Tryz.ntmps18;go_wp2_with fail;refine HW.out.mono ?_;rintro e w1 ⟨rfl, hm1⟩;have HB1 := aa (gP hm1);have HS1 : Hid (Sc w1 B b s p v acc) := aa (HS.out.below HB1.out);clear hm1;have c0 := HS1.out.2.1.cell (i := 0) rfl;have c1 := HS1.out.2.1.cell (i := 1) rfl;have s1 := S1.out;have q3 := Q3.out;go_wp2_with fail
 go_quiet ((go_at_call 41; exact Calls.quiet_of_same (HPP.out _)))
 clear s1
 by_cases hf : f = 0
 ·subst hf;have HRR : Hid (R = .tok ⟨3, [], x⟩ n) := aa (by rw [<- HR.out, oM HLD.out HDD.out (by rw [HXF.out]), HXF.out, HSPN.out]);have HPUT : Hid (∀ w2, Sc w2 B b s p v acc -> Calls Tryz.prog 25 #[.pointer (some ⟨b, 0, none⟩), .agg #[.int .i64 3, .string ⟨#[]⟩, .int .i64 x, .int .i64 0], .int .i64 n] w2 (dB B b s v p acc ⟨3, [], x⟩ n w2)) := aa (fun w2 h2 => gh B b s v p acc ⟨3, [], x⟩ 0 n w2 h2 hacc (by omega));go_wp2_with fail;refine (HPUT.out _ (HS.out.below (aH HB1.out _))).mono ?_;rintro e w3 hp3;have HP3 := aa (dB.trans (di.of_below (aH HB1.out _)) hp3);unfold dB at hp3
  split at hp3
  ·obtain ⟨rfl, _⟩ := hp3;go_wp2_with fail;go_ret;rw [HRR.out]; exact HP3.out
  ·obtain ⟨rfl, _⟩ := hp3;go_wp2_with fail;go_ret;rw [HRR.out]; exact HP3.out
 ·have hfb : (f == 0) = false := beq_eq_false_iff_ne.2 hf;have hfn : (f != 0) = true := by simp [bne, hfb]
  have HRR : Hid (R = .bad f) := aa (by rw [<- HR.out, oN HLD.out HDD.out (by rw [HXF.out]; exact hf), HXF.out]);clear hf;go_wp2_with fail;go_ret;rw [HRR.out];exact ⟨rfl, bW.same HS.out (aH HB1.out _)⟩
end Go.Proofs.YteljlahcdipilaaGreat
