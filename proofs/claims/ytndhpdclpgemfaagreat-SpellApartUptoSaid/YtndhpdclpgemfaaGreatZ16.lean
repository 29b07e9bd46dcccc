/- Parts L17, L18, L19 of this seat (pruned, scripts that are alike kept once as default arguments: q1, q2, ..). Conditions: each says its own. -/
import Derived.StillTailTactics
import Derived.Test.YtndhpdclpgemfaaGreatZ15
namespace Go.Proofs.YtndhpdclpgemfaaGreat
set_option maxRecDepth 100000
open Go.RowKit Go.Shelf
set_option linter.unusedSimpArgs false
set_option linter.unusedVariables false
def ownL (b : Nat) (v : Value) : List Nat := b :: v.ownBlock.toList
theorem ownL_b (b : Nat) (v : Value) : b ∈ ownL b v := by simp [ownL]
theorem ownL_v {b k : Nat} {v : Value} (h : v.ownBlock = some k) : k ∈ ownL b v := by simp [ownL, h]
theorem ownL_cases {b x : Nat} {v : Value} (h : x ∈ ownL b v) : x = b ∨ v.ownBlock = some x := by
 simp only [ownL, List.mem_cons, Option.mem_toList] at h
 exact h
def ScMoved (B b : Nat) (s : ByteArray) (v : Value) (p : Nat) (acc : List (Tok × Nat)) (w w' : World) : Prop :=
  ∃ v', Sc w' B b s p v' acc ∧ Kept (ownL b v) w w' ∧ ∀ x ∈ ownL b v', x ∈ ownL b v ∨ w.heap.size ≤ x
theorem Sc.of_heap {w w' : World} {B b : Nat} {s : ByteArray} {p : Nat} {v : Value} {acc : List (Tok × Nat)} (h : Sc w B b s p v acc) (hk : ∀ k ∈ ownL b v, w'.heap[k]? = w.heap[k]?) : Sc w' B b s p v acc :=
  ⟨h.1, h.2.1.of_heap (hk b (ownL_b b v)), own_heap h.2.2.1 (fun k e => hk k (ownL_v e)), h.2.2.2⟩
theorem Sc.lt {w : World} {B b : Nat} {s : ByteArray} {p : Nat} {v : Value} {acc : List (Tok × Nat)} (h : Sc w B b s p v acc) : ∀ k ∈ ownL b v, B ≤ k ∧ k < w.heap.size := fun k hk => by
  rcases ownL_cases hk with rfl | e
  · exact ⟨h.1, h.2.1.lt⟩
  · exact h.2.2.1.lt k e
theorem Sc.below {w w' : World} {B b : Nat} {s : ByteArray} {p : Nat} {v : Value} {acc : List (Tok × Nat)} (h : Sc w B b s p v acc) (hb : Below w.heap.size w w') : Sc w' B b s p v acc := h.of_heap (fun k hk => hb.block k (h.lt k hk).2)
theorem ScMoved.same {w w' : World} {B b : Nat} {s : ByteArray} {p : Nat} {v : Value} {acc : List (Tok × Nat)} (h : Sc w B b s p v acc) (hb : Below w.heap.size w w') : ScMoved B b s v p acc w w' :=
  ⟨v, h.below hb, Kept.of_below hb, fun x hx => .inl hx⟩
theorem ScMoved.trans {a w w' : World} {B b : Nat} {s : ByteArray} {p : Nat} {v v1 : Value} {acc acc' : List (Tok × Nat)} (hk : Kept (ownL b v) a w) (hv : ∀ x ∈ ownL b v1, x ∈ ownL b v ∨ a.heap.size ≤ x)
    (h : ScMoved B b s v1 p acc' w w') : ScMoved B b s v p acc' a w' := by
 obtain ⟨v', h1, h2, h3⟩ := h
 refine ⟨v', h1, hk.trans h2 hv, fun x hx => ?_⟩
 rcases h3 x hx with h | h
 ·exact hv x h
 ·exact .inr (Nat.le_trans hk.size h)
theorem grown_block {w w0 w1 : World} {row : Option Nat} {b : Nat} {cur : List Value} {t : TypeId} (hb : Block w b cur t) (h0 : w0.heap[b]? = w.heap[b]?) (hg : w0.grownBy w1 row) (hr : row ≠ some b) : Block w1 b cur t := by
 have h1 : Block w0 b cur t := hb.of_heap h0
 exact h1.of_heap (hg.block b h1.lt (Ne.symm hr))
theorem two_new (w : World) (X Y : Obj) : ((w.alloc X).alloc Y).drew.heap[w.heap.size + 1]? = some Y := by
 show ((w.alloc X).alloc Y).heap[w.heap.size + 1]? = _
 exact heap_newN _ _ _ (by simp)
def PutP (B b : Nat) (s : ByteArray) (v : Value) (p : Nat) (acc : List (Tok × Nat)) (t : Tok) (m : Nat) (w : World) (e : Ending) (w' : World) : Prop :=
  if 4096 ≤ acc.length then e = .returned (.int .i64 8) ∧ ScMoved B b s v p acc w w'
  else e = .returned (.int .i64 0) ∧ ScMoved B b s v (p + m) (acc ++ [(t, p)]) w w'
theorem put_moved {w w1 : World} {B b : Nat} {s : ByteArray} {p m n cap gg cap2 : Nat} {a : Option Addr} {acc : List (Tok × Nat)} {X Y : Obj} {t : Tok} (hn : n = acc.length) (hB : B ≤ b) (hlt : b < w.heap.size)
    (hne : ∀ k, (Value.slice a n cap).ownBlock = some k → k ≠ b)
    (hb1 : Block w1 b [.string s, .int .i64 p, .slice a n cap] 98)
    (hown1 : w1.ownsRow B 51 4 (.slice (some ⟨gg, 0, none⟩) (n + 1) cap2) (n + 1) (tokCells acc ++ tokC (t, p)))
    (hgrow : (((w.alloc X).alloc Y).drew).grownBy w1 (Value.slice a n cap).ownBlock) (hat : (Value.slice a n cap).ownBlock = some gg ∨ gg = w.heap.size + 2) :
    ScMoved B b s (.slice a n cap) (p + m) (acc ++ [(t, p)]) w ((w1.setCell ⟨b, 2, none⟩ (.slice (some ⟨gg, 0, none⟩) (n + 1) cap2)).setCell ⟨b, 1, none⟩ (.int .i64 ((p : Int) + m))) := by
 have hgb : gg ≠ b := by
  rcases hat with h | h
  ·exact hne _ h
  ·omega
 have hk : Kept (ownL b (.slice a n cap)) w w1 := (((((Kept.refl _ w).alloc X).alloc Y).drew).grown hgrow (fun k hk => .inl (ownL_v hk)))
 have hs2 : ∀ k, (Value.slice (some ⟨gg, 0, none⟩) (n + 1) cap2).ownBlock = some k → k ≠ b := fun k e => by
  have : gg = k := by injection e
  omega
 refine ⟨.slice (some ⟨gg, 0, none⟩) (n + 1) cap2, ⟨hB, ?_, ?_, hs2⟩, (hk.setCell (.inl (ownL_b b _)) _).setCell (.inl (ownL_b b _)) _, fun x hx => ?_⟩
 ·have := (hb1.set 2 (.slice (some ⟨gg, 0, none⟩) (n + 1) cap2)).set 1 (.int .i64 ((p : Int) + m))
  rw [show (((p + m : Nat)) : Int) = (p : Int) + m from by omega]
  exact this
 ·rw [List.length_append, ← hn, tokCells_snoc]
  exact own_set (a := ⟨b, 1, none⟩) (own_set (a := ⟨b, 2, none⟩) hown1 hs2 _) hs2 _
 ·rcases ownL_cases hx with rfl | e
  ·exact .inl (ownL_b _ _)
  ·have he : gg = x := by injection e
   subst he
   rcases hat with h | h
   ·exact .inl (ownL_v h)
   ·exact .inr (by omega)
set_option maxRecDepth 100000 in
set_option maxHeartbeats 3200000 in
theorem put_any (B b : Nat) (s : ByteArray) (v : Value) (p : Nat) (acc : List (Tok × Nat)) (t : Tok) (x : Int) (m : Nat) (w : World) (h : Sc w B b s p v acc) (hacc : acc.length ≤ 4096) (hpm : p + m ≤ 1099511627776) :
    Calls Tryz.prog 51 #[.pointer (some ⟨b, 0, none⟩), .agg #[.int .i64 t.k, .string (strOf t.t), .int .i64 t.n, .int .i64 x], .int .i64 m] w (PutP B b s v p acc t m w) := by
 obtain ⟨i0, hi0, hz0, hz1, hz2⟩ := info_parts Tryz.infoTok
 have hH := h
 obtain ⟨hBb, hb, ho, hne⟩ := h
 obtain ⟨a, cap, rfl⟩ := own_form ho
 obtain ⟨n, hn⟩ := nam acc.length
 have HH := Lib.hid hH
 clear hH
 rw [hn] at ho hb hne hacc
 have HN := Lib.hid hn.symm
 have hlt := hb.lt
 have c1 := hb.cell (i := 1) rfl
 have c2 := hb.cell (i := 2) rfl
 have f1 := hb.free 1
 have f2 := hb.free 2
 have ag : (Value.slice a n cap).ownBlock ≠ some b := fun e => hne b e rfl
 have hfa : ∀ o o', ((w.alloc o).alloc o').drew.frozen? ⟨b, 2, none⟩ = false := fun o o' => ((hb.alloc o).alloc o').free 2
 obtain ⟨HO, HB, HNE⟩ := hd3 ho hb hne
 clear hb ho hne
 obtain ⟨tk, tt, tn⟩ := t
 by_cases hfull : 4096 ≤ n
 ·have hfull' : (4096 : Int) ≤ n := by omega
  clear hn
  go_enter Tryz.func51, Tryz.ntmps51
  go_wp2_with fail
  go_ret
  unfold PutP
  rw [if_pos (by rw [← HN.out]; exact hfull)]
  exact ⟨rfl, by rw [HN.out] at *; exact ScMoved.same HH.out ((Below.refl _ _).alloc (Nat.le_refl _) _)⟩
 ·have hfull' : ¬ (4096 : Int) ≤ n := by omega
  have hge : decide ((4096 : Int) ≤ n) = false := decide_eq_false hfull'
  clear hn
  go_enter Tryz.func51, Tryz.ntmps51
  go_wp2_with fail
  go_region_law (first | (refine step_append_lies _ (by rfl) _ _ _ (by rfl) B 51 i0 _ 4 40 Tryz.underlying46 hi0 hz0 hz1 hz2 rfl (by omega) (.slice a n cap) n (tokCells acc) (by rfl) (((HO.out.alloc _).alloc _).drew) ⟨w.heap.size + 1, 0, none⟩ 1 1 [.int .i64 tk, .string (strOf tt), .int .i64 tn, .int .i64 p] (by rfl) (by rfl) (World.news_of_block (cs := #[.int .i64 tk, .string (strOf tt), .int .i64 tn, .int .i64 p]) (t := 51) (fr := (0, 0)) (two_new w _ _)) (by simp [Value.oneCell']) (by omega) (by unfold maxLen; omega) (by omega) (by simp; omega) (w.heap.size + 2) (by simp) ?_; intro gg cap2 w1 hown1 hgrow hat hlt1; have hb1 := grown_block HB.out (w0 := ((w.alloc _).alloc _).drew) ((Below.heap_alloc _ _ _ (by simp; omega)).trans (Below.heap_alloc _ _ _ hlt)) hgrow ag; have k1 := hb1.cell (i := 1) rfl; have k2 := hb1.cell (i := 2) rfl; have g1 := hb1.free 1; have g2 := hb1.free 2; have HB1 := Lib.hid hb1; clear hb1))
  all_goals go_wp2_with fail
  all_goals go_ret
  all_goals (unfold PutP; rw [if_neg (by rw [← HN.out]; exact hfull), ← HN.out]; exact ⟨rfl, put_moved (t := ⟨tk, tt, tn⟩) HN.out HH.out.1 hlt HNE.out HB1.out hown1 hgrow hat⟩)
def ReadP (B b : Nat) (s : ByteArray) (v : Value) (p : Nat) (acc : List (Tok × Nat)) (r : One) (w : World) (e : Ending) (w' : World) : Prop :=
  match r with
  | .bad x => e = .returned (.int .i64 x) ∧ ScMoved B b s v p acc w w'
  | .tok t n => PutP B b s v p acc t n w e w'
theorem PutP.trans {a w w' : World} {B b : Nat} {s : ByteArray} {p : Nat} {v : Value} {acc : List (Tok × Nat)} {t : Tok} {m : Nat} {e : Ending} (hk : Kept (ownL b v) a w) (h : PutP B b s v p acc t m w e w') : PutP B b s v p acc t m a e w' := by
 unfold PutP at h ⊢
 split at h
 ·rename_i hc; rw [if_pos hc]; exact ⟨h.1, ScMoved.trans (acc := acc) hk (fun x hx => .inl hx) h.2⟩
 ·rename_i hc; rw [if_neg hc]; exact ⟨h.1, ScMoved.trans (acc := acc) hk (fun x hx => .inl hx) h.2⟩
theorem parse_any' (s : ByteArray) (w : World) (hs : s.size ≤ 9223372036854775807) : Calls Tryz.prog 99 #[.string s] w fun e w' => e = .returned (.tuple #[.int .i64 (parseOf s.data.toList).1, .int .i64 (parseOf s.data.toList).2]) ∧ w' = w := (parse_any s w hs).mono fun _ _ ⟨h, k⟩ => ⟨h, k.symm⟩
theorem below_of_draws {w w' : World} (h : ∃ m, w' = w.drewN m) : Below w.heap.size w w' := by
 obtain ⟨m, rfl⟩ := h; exact below_draws (Below.refl _ _) m
set_option maxRecDepth 1000000 in
set_option maxHeartbeats 4000000 in
theorem name_read (B b : Nat) (s : ByteArray) (v : Value) (p : Nat) (acc : List (Tok × Nat)) (mm : Int) (w : World) (hs : s.size ≤ 1099511627776) (h : Sc w B b s p v acc) (hacc : acc.length ≤ 4096) (hp : p < s.size)
    (hm : w.cell? mlA = some (.int .i64 mm)) (hg : 0 < w.heap.size) (hl : letter s[p].toNat = true) :
    Calls Tryz.prog 42 #[.pointer (some ⟨b, 0, none⟩)] w (ReadP B b s v p acc (oneL (s.data.toList.drop p)) w) := by
 have HLN : Hid (s.data.toList.length = s.size) := Lib.hid (by simp)
 obtain ⟨R, hR⟩ := nam (oneL (s.data.toList.drop p))
 have HR := Lib.hid hR
 rw [hR]
 clear hR
 have HLD : Hid (letter (nb (s.data.toList.drop p) 0) = true) := Lib.hid (by rw [nb_drop, Nat.add_zero, ← nb_get s p hp]; exact hl)
 obtain ⟨n, hn⟩ := nam (spanB nchar (s.data.toList.drop p))
 have hnle : p + n ≤ s.size := by have := spanB_le nchar (s.data.toList.drop p); rw [hn, List.length_drop, HLN.out] at this; omega
 have HW := Lib.hid (while_name s p b w v hs (by omega) h.2.1)
 rw [hn] at HW
 obtain ⟨HSPN, HS, HM⟩ := hd3 hn h hm
 clear h hm hl hn
 have s1 : IntKind.i64.wrap ((p : Int) + n) = (p : Int) + n := IntWalk.i64_in _ (by omega)
 have S1 := Lib.hid s1
 clear s1
 have q0 : (0 : Int) ≤ (p : Int) + n := by omega
 have q1 : (p : Int) ≤ (p : Int) + n := by omega
 have q2 : (p : Int) + n ≤ s.size := by omega
 have q3 : ((p : Int) + n).toNat = p + n := by omega
 have Q3 := Lib.hid q3
 clear q3
 have hxz : (s.extract p (p + n)).size ≤ 1099511627776 := by simp; omega
 have HX : Hid ((s.extract p (p + n)).data.toList = (s.data.toList.drop p).take (spanB nchar (s.data.toList.drop p))) := Lib.hid (by rw [extract_drop, HSPN.out, show p + n - p = n from by omega])
 go_enter Tryz.func42, Tryz.ntmps42
 go_wp2_with fail
 refine HW.out.mono ?_
 rintro e w1 ⟨rfl, hm1⟩
 have HB1 := Lib.hid (below_of_draws hm1)
 have HS1 : Hid (Sc w1 B b s p v acc) := Lib.hid (HS.out.below HB1.out)
 have HM1 : Hid (w1.cell? mlA = some (.int .i64 mm)) := Lib.hid (by rw [HB1.out.cell (by show 0 < w.heap.size; exact hg)]; exact HM.out)
 have hg1 : 0 < w1.heap.size := Nat.lt_of_lt_of_le hg HB1.out.size
 clear hm1
 have c0 := HS1.out.2.1.cell (i := 0) rfl
 have c1 := HS1.out.2.1.cell (i := 1) rfl
 have HWD := Lib.hid (fun k => word_any (s.extract p (p + n)) mm (w1.drewN k) hxz (by exact HM1.out) (by exact hg1))
 have s1 := S1.out
 have q3 := Q3.out
 go_wp2_with fail
 go_quiet (fail)
 clear s1
 by_cases h64 : 64 < n
 ·have h64' : (64 : Int) < n := by omega
  have HRR : Hid (R = .bad 1) := Lib.hid (by rw [← HR.out]; exact oneL_bad_name HLD.out (by rw [HSPN.out]; exact h64))
  go_wp2_with fail
  go_ret
  rw [HRR.out]
  exact ⟨rfl, ScMoved.same HS.out (below_draws HB1.out _)⟩
 ·have h64' : ¬ (64 : Int) < n := by omega
  have HN64 : Hid (¬ 64 < spanB nchar (s.data.toList.drop p)) := Lib.hid (by rw [HSPN.out]; exact h64)
  unfold wordR at HWD
  rw [HX.out] at HWD
  cases hw : wordB ((s.data.toList.drop p).take (spanB nchar (s.data.toList.drop p))) with
  | true =>
   obtain ⟨lw, hlw⟩ := nam (largeL ((s.data.toList.drop p).take (spanB nchar (s.data.toList.drop p))))
   have HRR : Hid (R = .tok ⟨2, lw, 0⟩ n) := Lib.hid (by rw [← HR.out, oneL_word HLD.out HN64.out hw, hlw, HSPN.out])
   rw [hw, hlw] at HWD
   clear hw hlw
   have HWW : Hid (∀ k, Calls Tryz.prog 90 #[.string (s.extract p (p + n))] (w1.drewN k) fun e w' => e = .returned (.tuple #[.string (strOf lw), .bool true]) ∧ Below (w1.drewN k).heap.size (w1.drewN k) w') := Lib.hid (fun k => HWD.out k)
   clear HWD
   have HPUT : Hid (∀ w2, Sc w2 B b s p v acc → Calls Tryz.prog 51 #[.pointer (some ⟨b, 0, none⟩), .agg #[.int .i64 2, .string (strOf lw), .int .i64 0, .int .i64 0], .int .i64 n] w2 (PutP B b s v p acc ⟨2, lw, 0⟩ n w2)) := Lib.hid (fun w2 h2 => put_any B b s v p acc ⟨2, lw, 0⟩ 0 n w2 h2 hacc (by omega))
   go_wp2_with fail
   refine (HWW.out _).mono ?_
   rintro e w2 ⟨rfl, hb2⟩
   have HB2 := Lib.hid (below_step (below_draws HB1.out _) rfl hb2)
   clear hb2
   go_wp2_with fail
   refine (HPUT.out _ (HS.out.below HB2.out)).mono ?_
   rintro e w3 hp3
   have HP3 := Lib.hid (PutP.trans (Kept.of_below HB2.out) hp3)
   unfold PutP at hp3
   split at hp3
   ·obtain ⟨rfl, _⟩ := hp3
    go_wp2_with fail
    go_ret
    rw [HRR.out]; exact HP3.out
   ·obtain ⟨rfl, _⟩ := hp3
    go_wp2_with fail
    go_ret
    rw [HRR.out]; exact HP3.out
  | false =>
   have HRR : Hid (R = .tok ⟨1, (s.data.toList.drop p).take (spanB nchar (s.data.toList.drop p)), 0⟩ n) := Lib.hid (by rw [← HR.out, oneL_name HLD.out HN64.out hw, HSPN.out])
   have HXX : Hid (strOf ((s.data.toList.drop p).take (spanB nchar (s.data.toList.drop p))) = s.extract p (p + n)) := Lib.hid (by rw [← HX.out]; exact strOf_toList _)
   rw [hw] at HWD
   clear hw
   have HWW : Hid (∀ k, Calls Tryz.prog 90 #[.string (s.extract p (p + n))] (w1.drewN k) fun e w' => e = .returned (.tuple #[.string ⟨#[]⟩, .bool false]) ∧ Below (w1.drewN k).heap.size (w1.drewN k) w') := Lib.hid (fun k => HWD.out k)
   clear HWD
   have HPUT : Hid (∀ w2, Sc w2 B b s p v acc → Calls Tryz.prog 51 #[.pointer (some ⟨b, 0, none⟩), .agg #[.int .i64 1, .string (s.extract p (p + n)), .int .i64 0, .int .i64 0], .int .i64 n] w2 (PutP B b s v p acc ⟨1, (s.data.toList.drop p).take (spanB nchar (s.data.toList.drop p)), 0⟩ n w2)) := Lib.hid (fun w2 h2 => by
    have := put_any B b s v p acc ⟨1, (s.data.toList.drop p).take (spanB nchar (s.data.toList.drop p)), 0⟩ 0 n w2 h2 hacc (by omega)
    dsimp only at this
    rw [HXX.out] at this
    exact this)
   go_wp2_with fail
   refine (HWW.out _).mono ?_
   rintro e w2 ⟨rfl, hb2⟩
   have HB2 := Lib.hid (below_step (below_draws HB1.out _) rfl hb2)
   clear hb2
   go_wp2_with fail
   refine (HPUT.out _ (HS.out.below HB2.out)).mono ?_
   rintro e w3 hp3
   have HP3 := Lib.hid (PutP.trans (Kept.of_below HB2.out) hp3)
   unfold PutP at hp3
   split at hp3
   ·obtain ⟨rfl, _⟩ := hp3
    go_wp2_with fail
    go_ret
    rw [HRR.out]; exact HP3.out
   ·obtain ⟨rfl, _⟩ := hp3
    go_wp2_with fail
    go_ret
    rw [HRR.out]; exact HP3.out
set_option maxRecDepth 1000000 in
set_option maxHeartbeats 4000000 in
theorem number_read (B b : Nat) (s : ByteArray) (v : Value) (p : Nat) (acc : List (Tok × Nat)) (w : World) (hs : s.size ≤ 1099511627776) (h : Sc w B b s p v acc) (hacc : acc.length ≤ 4096) (hp : p < s.size)
    (hl : letter s[p].toNat = false) (hdg : digt s[p].toNat = true) :
    Calls Tryz.prog 44 #[.pointer (some ⟨b, 0, none⟩)] w (ReadP B b s v p acc (oneL (s.data.toList.drop p)) w) := by
 have HLN : Hid (s.data.toList.length = s.size) := Lib.hid (by simp)
 obtain ⟨R, hR⟩ := nam (oneL (s.data.toList.drop p))
 have HR := Lib.hid hR
 rw [hR]
 clear hR
 have HLD : Hid (letter (nb (s.data.toList.drop p) 0) = false) := Lib.hid (by rw [nb_drop, Nat.add_zero, ← nb_get s p hp]; exact hl)
 have HDD : Hid (digt (nb (s.data.toList.drop p) 0) = true) := Lib.hid (by rw [nb_drop, Nat.add_zero, ← nb_get s p hp]; exact hdg)
 obtain ⟨n, hn⟩ := nam (spanB digt (s.data.toList.drop p))
 have hnle : p + n ≤ s.size := by have := spanB_le digt (s.data.toList.drop p); rw [hn, List.length_drop, HLN.out] at this; omega
 have HW := Lib.hid (while_digit s p b w v hs (by omega) h.2.1)
 rw [hn] at HW
 have HSPN := Lib.hid hn
 have HS := Lib.hid h
 clear h hl hdg hn
 have s1 : IntKind.i64.wrap ((p : Int) + n) = (p : Int) + n := IntWalk.i64_in _ (by omega)
 have S1 := Lib.hid s1
 clear s1
 have q0 : (0 : Int) ≤ (p : Int) + n := by omega
 have q1 : (p : Int) ≤ (p : Int) + n := by omega
 have q2 : (p : Int) + n ≤ s.size := by omega
 have q3 : ((p : Int) + n).toNat = p + n := by omega
 have Q3 := Lib.hid q3
 clear q3
 have hxz : (s.extract p (p + n)).size ≤ 9223372036854775807 := by simp; omega
 have HX : Hid ((s.extract p (p + n)).data.toList = (s.data.toList.drop p).take (spanB digt (s.data.toList.drop p))) := Lib.hid (by rw [extract_drop, HSPN.out, show p + n - p = n from by omega])
 have HPA := Lib.hid (fun w => parse_any' (s.extract p (p + n)) w hxz)
 rw [HX.out] at HPA
 obtain ⟨x, f, hxf⟩ : ∃ x f, parseOf ((s.data.toList.drop p).take (spanB digt (s.data.toList.drop p))) = (x, f) := ⟨_, _, rfl⟩
 rw [hxf] at HPA
 have HXF := Lib.hid hxf
 clear hxf
 have HPP : Hid (∀ w, Calls Tryz.prog 99 #[.string (s.extract p (p + n))] w fun e w' => e = .returned (.tuple #[.int .i64 x, .int .i64 f]) ∧ w' = w) := Lib.hid (fun w => HPA.out w)
 clear HPA hxz
 go_enter Tryz.func44, Tryz.ntmps44
 go_wp2_with fail
 refine HW.out.mono ?_
 rintro e w1 ⟨rfl, hm1⟩
 have HB1 := Lib.hid (below_of_draws hm1)
 have HS1 : Hid (Sc w1 B b s p v acc) := Lib.hid (HS.out.below HB1.out)
 clear hm1
 have c0 := HS1.out.2.1.cell (i := 0) rfl
 have c1 := HS1.out.2.1.cell (i := 1) rfl
 have s1 := S1.out
 have q3 := Q3.out
 go_wp2_with fail
 go_quiet ((go_at_call 99; exact Calls.quiet_of_same (HPP.out _)))
 clear s1
 by_cases hf : f = 0
 ·subst hf
  have HRR : Hid (R = .tok ⟨3, [], x⟩ n) := Lib.hid (by rw [← HR.out, oneL_num HLD.out HDD.out (by rw [HXF.out]), HXF.out, HSPN.out])
  have HPUT : Hid (∀ w2, Sc w2 B b s p v acc → Calls Tryz.prog 51 #[.pointer (some ⟨b, 0, none⟩), .agg #[.int .i64 3, .string ⟨#[]⟩, .int .i64 x, .int .i64 0], .int .i64 n] w2 (PutP B b s v p acc ⟨3, [], x⟩ n w2)) := Lib.hid (fun w2 h2 => put_any B b s v p acc ⟨3, [], x⟩ 0 n w2 h2 hacc (by omega))
  go_wp2_with fail
  refine (HPUT.out _ (HS.out.below (below_draws HB1.out _))).mono ?_
  rintro e w3 hp3
  have HP3 := Lib.hid (PutP.trans (Kept.of_below (below_draws HB1.out _)) hp3)
  unfold PutP at hp3
  split at hp3
  ·obtain ⟨rfl, _⟩ := hp3
   go_wp2_with fail
   go_ret
   rw [HRR.out]; exact HP3.out
  ·obtain ⟨rfl, _⟩ := hp3
   go_wp2_with fail
   go_ret
   rw [HRR.out]; exact HP3.out
 ·have hfb : (f == 0) = false := beq_eq_false_iff_ne.2 hf
  have hfn : (f != 0) = true := by simp [bne, hfb]
  have HRR : Hid (R = .bad f) := Lib.hid (by rw [← HR.out, oneL_numbad HLD.out HDD.out (by rw [HXF.out]; exact hf), HXF.out])
  clear hf
  go_wp2_with fail
  go_ret
  rw [HRR.out]
  exact ⟨rfl, ScMoved.same HS.out (below_draws HB1.out _)⟩
theorem quiet_add_same {P : Program} {f : FuncId} {args : Array Value} {w : World} {a n : Nat} {v : Value}
    (h : Calls P f args (w.drewN (a + n)) fun e w' => e = .returned v ∧ w' = w.drewN (a + n)) :
    Calls P f args (w.drewN (a + n)) fun e w'' => e = .returned v ∧ ∃ m, w'' = w.drewN (a + m) :=
  h.mono fun _ _ ⟨he, hm⟩ => ⟨he, n, hm⟩
theorem wp_still_tail' {P : Program} {id : Nat} {Q : Exit → Act → World → Prop} {a : Act} {w : World} {l : List Oper} (n : Nat) (hm : P.follows .mixedOrders = true) (hB : Region.lexTailB .any l.toArray n = true)
    (h : ∀ w2, Below w.heap.size w w2 ∧ w2.heap = w.heap → wpStill P l.toArray w2 (fun a' => wpList P l.toArray Q (l.drop n) a' w2) (l.take n) a) : (Code.region id l.toArray true).wp P Q a w :=
  wp_region_still_tail n hm hB (h w.drew ⟨(Below.refl _ _).drew, rfl⟩)
theorem signs_byte : ∀ c : Fin 256, decide (0 ≤ Lib.indexByte signsK.data.toList (UInt8.ofNat c.val)) = decide ([UInt8.ofNat c.val] ∈ signsL) := by decide +kernel
theorem signs_has (c : UInt8) : decide (0 ≤ Lib.indexByte signsK.data.toList c) = decide ([c] ∈ signsL) := by
 have := signs_byte ⟨c.toNat, c.toNat_lt⟩
 rw [UInt8.ofNat_toNat] at this
 exact this
theorem signK_has (s : ByteArray) (p : Nat) (hp : p < s.size) (w : World) :
    Calls Tryz.prog 101 #[.string signsK, .string (s.extract p (p + 1))] w fun e w' => e = .returned (.bool (decide ((s.data.toList.drop p).take 1 ∈ signsL))) ∧ w' = w := by
 have hx : s.extract p (p + 1) = ⟨#[s[p]]⟩ := by
  rw [extract_strOf s p 1 (by omega), List.drop_eq_getElem_cons (by simpa using hp)]
  rfl
 have hd : (s.data.toList.drop p).take 1 = [s[p]] := by
  rw [List.drop_eq_getElem_cons (by simpa using hp)]
  rfl
 rw [hx, hd]
 refine (strings_Contains_one signsK s[p] w).mono ?_
 rintro e w' ⟨rfl, rfl⟩
 rw [signs_has]
 exact ⟨rfl, rfl⟩
theorem twos_sign : ∀ l ∈ twosL, l.take 1 ∈ signsL := by decide
theorem Se307186 {P : Prop} (h : P := by
 have hr : R = .tok ⟨5, (s.data.toList.drop p).take 2, 0⟩ 2 := by
  first
  | (guard_hyp z307186a; have hm : (s.data.toList.drop p).take 2 ∈ twosL := by rw [← H2.out, ← Lib.toList_data, c3]; decide)
  | (guard_hyp z307186b; have hm : (s.data.toList.drop p).take 2 ∈ twosL := by rw [← H2.out, ← Lib.toList_data, c2]; decide)
  | (have hm : (s.data.toList.drop p).take 2 ∈ twosL := by rw [← H2.out, ← Lib.toList_data, c1]; decide)
  rw [HRS.out]; unfold signL; rw [if_pos hm, if_neg (fun e => by have := twosL_len _ hm; rw [e] at this; cases this), twosL_len _ hm]
 have HRR := Lib.hid hr
 first
 |(
  guard_hyp z307186a
  have HM1 : Hid (decide ((s.data.toList.drop p).take 1 ∈ signsL) = true) := Lib.hid (decide_eq_true (by
   have := twos_sign ((s.data.toList.drop p).take 2) (by rw [← H2.out, ← Lib.toList_data, c3]; decide)
   rw [List.take_take] at this
   exact this)))
 |(
  guard_hyp z307186b
  have HM1 : Hid (decide ((s.data.toList.drop p).take 1 ∈ signsL) = true) := Lib.hid (decide_eq_true (by
   have := twos_sign ((s.data.toList.drop p).take 2) (by rw [← H2.out, ← Lib.toList_data, c2]; decide)
   rw [List.take_take] at this
   exact this)))
 |(
  have HM1 : Hid (decide ((s.data.toList.drop p).take 1 ∈ signsL) = true) := Lib.hid (decide_eq_true (by
   have := twos_sign ((s.data.toList.drop p).take 2) (by rw [← H2.out, ← Lib.toList_data, c1]; decide)
   rw [List.take_take] at this
   exact this)))
 rw [HM1.out] at HC
 first
 |(
  guard_hyp z307186a
  have b1 : ((s.extract p (p + 2)).toList == [60, 61]) = false := by rw [c3]; rfl
  have b2 : ((s.extract p (p + 2)).toList == [62, 61]) = false := by rw [c3]; rfl
  have b3 : ((s.extract p (p + 2)).toList == [60, 62]) = true := by rw [c3]; rfl
  clear hr c1 c2 c3)
 |(
  guard_hyp z307186b
  have b1 : ((s.extract p (p + 2)).toList == [60, 61]) = false := by rw [c2]; rfl
  have b2 : ((s.extract p (p + 2)).toList == [62, 61]) = true := by rw [c2]; rfl
  have b3 : ((s.extract p (p + 2)).toList == [60, 62]) = false := by rw [c2]; rfl
  clear hr c1 c2)
 |(
  have b1 : ((s.extract p (p + 2)).toList == [60, 61]) = true := by rw [c1]; rfl
  have b2 : ((s.extract p (p + 2)).toList == [62, 61]) = false := by rw [c1]; rfl
  have b3 : ((s.extract p (p + 2)).toList == [60, 62]) = false := by rw [c1]; rfl
  clear hr c1)
 go_enter Tryz.func48, Tryz.ntmps48
 go_wp2_with fail
 go_quiet (fail)
 go_wp2_with fail
 go_quiet (fail)
 go_wp2_with fail
 go_quiet ((go_at_call 101; exact quiet_add_same (HC.out _)))
 go_wp2_with fail
 refine wp_still_tail' 18 (by kernel_rfl) (by kernel_rfl) ?_
 rintro w2 ⟨hb2, hh2⟩
 have HB2 : Hid (Below w.heap.size w w2) := Lib.hid ⟨hb2.os, hb2.tape, hb2.output, hb2.size, hb2.block⟩
 have HS2 := Lib.hid (HS.out.below HB2.out)
 have d0 := HS2.out.2.1.cell (i := 0) rfl
 have d1 := HS2.out.2.1.cell (i := 1) rfl
 clear hb2 hh2 c0 c1
 simp only [List.take_succ_cons, List.take_zero, List.drop_succ_cons, List.drop_zero]
 repeat still_step
 refine wpStill_nil ?_
 clear w1' w2'
 go_wp2_with fail
 refine (HPUT2.out w2 HS2.out).mono ?_
 rintro e w3 hp3
 have HP3 := Lib.hid (PutP.trans (Kept.of_below HB2.out) hp3)
 unfold PutP at hp3
 split at hp3
 ·obtain ⟨rfl, _⟩ := hp3
  go_wp2_with fail
  go_ret
  rw [HRR.out]; exact HP3.out
 ·obtain ⟨rfl, _⟩ := hp3
  go_wp2_with fail
  go_ret
  rw [HRR.out]; exact HP3.out) : P := h
theorem Se643867 {P : Prop} (h : P := by
 have HRR : Hid (R = .tok ⟨5, (s.data.toList.drop p).take 1, 0⟩ 1) := Lib.hid (by
  rw [HRS.out]; unfold signL; rw [if_neg NT.out, if_pos (of_decide_eq_true hm), if_neg (fun e => by have := HT1.out; rw [e] at this; cases this), HT1.out])
 rw [hm] at HC
 clear hm
 go_enter Tryz.func48, Tryz.ntmps48
 go_wp2_with fail
 go_quiet (fail)
 go_wp2_with fail
 first
 |(
  guard_hyp z643867a
  go_quiet (fail)
  go_wp2_with fail)
 | skip
 go_quiet ((go_at_call 101; exact quiet_add_same (HC.out _)))
 go_wp2_with fail
 refine wp_still_tail' 18 (by kernel_rfl) (by kernel_rfl) ?_
 rintro w2 ⟨hb2, hh2⟩
 have HB2 : Hid (Below w.heap.size w w2) := Lib.hid ⟨hb2.os, hb2.tape, hb2.output, hb2.size, hb2.block⟩
 have HS2 := Lib.hid (HS.out.below HB2.out)
 have d0 := HS2.out.2.1.cell (i := 0) rfl
 have d1 := HS2.out.2.1.cell (i := 1) rfl
 clear hb2 hh2 c0 c1
 simp only [List.take_succ_cons, List.take_zero, List.drop_succ_cons, List.drop_zero]
 repeat still_step
 refine wpStill_nil ?_
 clear w1' w2'
 go_wp2_with fail
 refine (HPUT1.out w2 HS2.out).mono ?_
 rintro e w3 hp3
 have HP3 := Lib.hid (PutP.trans (Kept.of_below HB2.out) hp3)
 unfold PutP at hp3
 split at hp3
 ·obtain ⟨rfl, _⟩ := hp3
  go_wp2_with fail
  go_ret
  rw [HRR.out]; exact HP3.out
 ·obtain ⟨rfl, _⟩ := hp3
  go_wp2_with fail
  go_ret
  rw [HRR.out]; exact HP3.out) : P := h
theorem Se652892 {P : Prop} (h : P := by
 have HRR : Hid (R = .bad 1) := Lib.hid (by
  rw [HRS.out]; unfold signL; rw [if_neg NT.out, if_neg (of_decide_eq_false hm), if_pos rfl])
 rw [hm] at HC
 clear hm
 go_enter Tryz.func48, Tryz.ntmps48
 go_wp2_with fail
 go_quiet (fail)
 go_wp2_with fail
 first
 |(
  guard_hyp z652892a
  go_quiet (fail)
  go_wp2_with fail)
 | skip
 go_quiet ((go_at_call 101; exact quiet_add_same (HC.out _)))
 go_wp2_with fail
 go_ret
 rw [HRR.out]
 exact ⟨rfl, ScMoved.same HS.out ⟨rfl, rfl, rfl, Nat.le_refl _, fun _ _ => rfl⟩⟩) : P := h
set_option maxRecDepth 1000000 in
set_option maxHeartbeats 4000000 in
theorem sign_read (B b : Nat) (s : ByteArray) (v : Value) (p : Nat) (acc : List (Tok × Nat)) (w : World) (hs : s.size ≤ 1099511627776) (h : Sc w B b s p v acc) (hacc : acc.length ≤ 4096) (hp : p < s.size)
    (hl : letter s[p].toNat = false) (hdg : digt s[p].toNat = false) (h39 : ¬ s[p].toNat = 39) :
    Calls Tryz.prog 48 #[.pointer (some ⟨b, 0, none⟩)] w (ReadP B b s v p acc (oneL (s.data.toList.drop p)) w) := by
 have HLN : Hid (s.data.toList.length = s.size) := Lib.hid (by simp)
 have HN0 : Hid (nb (s.data.toList.drop p) 0 = s[p].toNat) := Lib.hid (by rw [nb_drop, nb_get s p hp]; rfl)
 have HRS := Lib.hid (oneL_sign (r := s.data.toList.drop p) (by rw [HN0.out]; exact hl) (by rw [HN0.out]; exact hdg) (by rw [HN0.out]; exact h39))
 obtain ⟨R, hR⟩ := nam (oneL (s.data.toList.drop p))
 have HR := Lib.hid hR
 rw [hR]
 rw [hR] at HRS
 clear hR hl hdg h39
 have HS := Lib.hid h
 clear h
 have hb := HS.out.2.1
 have c0 := hb.cell (i := 0) rfl
 have c1 := hb.cell (i := 1) rfl
 clear hb
 have p0 : (0 : Int) ≤ (p : Int) := by omega
 have w1' : IntKind.i64.wrap ((p : Int) + 1) = (p : Int) + 1 := IntWalk.i64_in _ (by omega)
 have w2' : IntKind.i64.wrap ((p : Int) + 2) = (p : Int) + 2 := IntWalk.i64_in _ (by omega)
 have t1' : ((p : Int) + 1).toNat = p + 1 := by omega
 have t2' : ((p : Int) + 2).toNat = p + 2 := by omega
 have q1 : (0 : Int) ≤ (p : Int) + 1 := by omega
 have q2 : (p : Int) ≤ (p : Int) + 1 := by omega
 have q3 : (p : Int) + 1 ≤ s.size := by omega
 have HX1 := Lib.hid (extract_strOf s p 1 (by omega))
 have HC := Lib.hid (fun w => signK_has s p hp w)
 unfold signsK at HC
 have HPUT1 : Hid (∀ w2, Sc w2 B b s p v acc → Calls Tryz.prog 51 #[.pointer (some ⟨b, 0, none⟩), .agg #[.int .i64 5, .string (s.extract p (p + 1)), .int .i64 0, .int .i64 0], .int .i64 1] w2 (PutP B b s v p acc ⟨5, (s.data.toList.drop p).take 1, 0⟩ 1 w2)) := Lib.hid (fun w2 h2 => by
  have := put_any B b s v p acc ⟨5, (s.data.toList.drop p).take 1, 0⟩ 0 1 w2 h2 hacc (by omega)
  dsimp only at this
  rw [← HX1.out] at this
  exact this)
 have HT1 : Hid (((s.data.toList.drop p).take 1).length = 1) := Lib.hid (by rw [List.length_take, List.length_drop, HLN.out]; omega)
 by_cases hq : p + 1 < s.size
 ·have hq' : (p : Int) + 1 < s.size := by omega
  have q4 : (p : Int) ≤ (p : Int) + 2 := by omega
  have q5 : (p : Int) + 2 ≤ s.size := by omega
  have q6 : (0 : Int) ≤ (p : Int) + 2 := by omega
  have HX2 := Lib.hid (extract_strOf s p 2 (by omega))
  have H2 : Hid ((s.extract p (p + 2)).data.toList = (s.data.toList.drop p).take 2) := Lib.hid (by rw [HX2.out]; simp [strOf])
  have HPUT2 : Hid (∀ w2, Sc w2 B b s p v acc → Calls Tryz.prog 51 #[.pointer (some ⟨b, 0, none⟩), .agg #[.int .i64 5, .string (s.extract p (p + 2)), .int .i64 0, .int .i64 0], .int .i64 2] w2 (PutP B b s v p acc ⟨5, (s.data.toList.drop p).take 2, 0⟩ 2 w2)) := Lib.hid (fun w2 h2 => by
   have := put_any B b s v p acc ⟨5, (s.data.toList.drop p).take 2, 0⟩ 0 2 w2 h2 hacc (by omega)
   dsimp only at this
   rw [← HX2.out] at this
   exact this)
  by_cases c1 : (s.extract p (p + 2)).toList = [60, 61]
  ·exact Se307186
  by_cases c2 : (s.extract p (p + 2)).toList = [62, 61]
  ·have z307186b := trivial
   exact Se307186
  by_cases c3 : (s.extract p (p + 2)).toList = [60, 62]
  ·have z307186a := trivial
   exact Se307186
  have NT : Hid (¬ (s.data.toList.drop p).take 2 ∈ twosL) := Lib.hid (by
   rw [← H2.out, ← Lib.toList_data]
   intro hm
   simp only [twosL, List.mem_cons, List.not_mem_nil, or_false] at hm
   rcases hm with e | e | e
   ·exact c1 e
   ·exact c2 e
   ·exact c3 e)
  have b1 : ((s.extract p (p + 2)).toList == [60, 61]) = false := beq_eq_false_iff_ne.2 c1
  have b2 : ((s.extract p (p + 2)).toList == [62, 61]) = false := beq_eq_false_iff_ne.2 c2
  have b3 : ((s.extract p (p + 2)).toList == [60, 62]) = false := beq_eq_false_iff_ne.2 c3
  clear c1 c2 c3
  cases hm : decide ((s.data.toList.drop p).take 1 ∈ signsL) with
  | true =>
   have z643867a := trivial
   exact Se643867
  | false =>
   have z652892a := trivial
   exact Se652892
 ·have hq' : decide ((p : Int) + 1 < s.size) = false := decide_eq_false (by omega)
  have hq2 : ¬ (p : Int) + 1 < s.size := by omega
  have NT : Hid (¬ (s.data.toList.drop p).take 2 ∈ twosL) := Lib.hid (fun hm => by
   have := twosL_len _ hm
   rw [List.length_take, List.length_drop, HLN.out] at this
   omega)
  cases hm : decide ((s.data.toList.drop p).take 1 ∈ signsL) with
  | true =>
   exact Se643867
  | false =>
   exact Se652892
end Go.Proofs.YtndhpdclpgemfaaGreat
