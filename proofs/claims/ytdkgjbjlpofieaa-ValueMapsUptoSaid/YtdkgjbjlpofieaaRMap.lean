/- Layer 3: the contract of the reference's Map. Conditions: names and values are small. -/
import Derived.Test.YtdkgjbjlpofieaaFlat
import Derived.Test.YtdkgjbjlpofieaaMapR
import Derived.Test.YtdkgjbjlpofieaaLawT
import Derived.Test.YtdkgjbjlpofieaaSpoil
import Derived.Test.YtdkgjbjlpofieaaStabB
import Derived.Deep.QuietTactic
namespace Go.Proofs.Ytdkgjbjlpofieaa
open Go.RowKit
set_option linter.unusedSimpArgs false
set_option linter.unusedVariables false
set_option maxRecDepth 100000

/-- The value lies in blocks from M on: it is read alike wherever these stand as in W. -/
def LiesV (M : Nat) (W : World) (cs : List Value) (t : Vt) : Prop := ∀ u : World, W.heap.size ≤ u.heap.size → (∀ q, M ≤ q → q < W.heap.size → u.heap[q]? = W.heap[q]?) → IsV u.heap.size u cs t
theorem LiesV.step {M : Nat} {W W' : World} {cs : List Value} {t : Vt} (h : LiesV M W cs t) (hz : W.heap.size ≤ W'.heap.size) (hk : ∀ q, M ≤ q → q < W.heap.size → W'.heap[q]? = W.heap[q]?) : LiesV M W' cs t :=
  fun u h1 h2 => h u (Nat.le_trans hz h1) (fun q h3 h4 => (h2 q h3 (Nat.lt_of_lt_of_le h4 hz)).trans (hk q h3 h4))
theorem LiesV.isV {M : Nat} {W : World} {cs : List Value} {t : Vt} (h : LiesV M W cs t) : IsV W.heap.size W cs t := h W (Nat.le_refl _) (fun _ _ _ => rfl)
theorem LiesV.mono {M M' : Nat} {W : World} {cs : List Value} {t : Vt} (h : LiesV M W cs t) (hM : M' ≤ M) : LiesV M' W cs t := fun u h1 h2 => h u h1 (fun q h3 h4 => h2 q (Nat.le_trans hM h3) h4)
theorem IsO.liesV {M : Nat} {w : World} {cs : List Value} {t : Vt} {bs : List Nat} (h : IsO w cs t bs) (hb : ∀ b ∈ bs, M ≤ b ∧ b < w.heap.size) : LiesV M w cs t :=
  fun u h1 h2 => IsO.isV _ _ _ (IsO.same _ _ _ h fun b hm => h2 b (hb b hm).1 (hb b hm).2) (fun b hm => Nat.lt_of_lt_of_le (hb b hm).2 h1)
/-- What the reference's Map comes to. -/
def mapR (ks : List ByteArray) (ts : List Vt) : Option Vt :=
  if ks.length = ts.length then match refM [] (ks.zip ts) with
    | none => none
    | some r => if mayB (.mk 5 false 0 ⟨#[]⟩ (r.map (·.2)) (r.map (·.1))) = true then some (.mk 5 false 0 ⟨#[]⟩ (r.map (·.2)) (r.map (·.1))) else none
  else none
def RMapP (o : Option Vt) (w : World) (e : Ending) (w' : World) : Prop :=
  Below w.heap.size w w' ∧ match o with
    | none => e = .returned (.tuple #[.agg zeroC.toArray, .int .i64 20])
    | some t => ∃ cs, e = .returned (.tuple #[.agg cs.toArray, .int .i64 0]) ∧ LiesV w.heap.size w' cs t
/-- Two rows that a call makes: texts, and values. -/
structure TwoR (base : Nat) (wr : World) (kv : Value) (nk : Nat) (kl : List Value) (lv : Value) (nl : Nat) (ll : List Value) : Prop where
  k : wr.ownsRow base 9 1 kv nk kl
  l : wr.ownsRow base 26 6 lv nl ll
  d : ∀ b, kv.ownBlock = some b → lv.ownBlock ≠ some b
section
variable {base : Nat} {w w' : World} {kv kv' lv lv' : Value} {nk nl nk' nl' : Nat} {kl ll kl' ll' : List Value}
theorem TwoR.of (h : TwoR base w kv nk kl lv nl ll) (hk : ∀ b, base ≤ b → b < w.heap.size → w'.heap[b]? = w.heap[b]?) : TwoR base w' kv nk kl lv nl ll :=
  ⟨own_of_heap h.k fun b e => hk b (h.k.lt b e).1 (h.k.lt b e).2, own_of_heap h.l fun b e => hk b (h.l.lt b e).1 (h.l.lt b e).2, h.d⟩
theorem TwoR.growk (h : TwoR base w kv nk kl lv nl ll) (hg : w.grownBy w' kv.ownBlock) (ho : w'.ownsRow base 9 1 kv' nk' kl') (ha : kv'.ownBlock = kv.ownBlock ∨ kv'.ownBlock = some w.heap.size) : TwoR base w' kv' nk' kl' lv nl ll :=
  ⟨ho, own_of_heap h.l fun b e => hg.block b (h.l.lt b e).2 (fun e2 => h.d b e2.symm e), fun b e e2 => by
    rcases ha with ha | ha
    · exact h.d b (ha ▸ e) e2
    · rw [ha] at e; injection e with e; have := (h.l.lt b e2).2; omega⟩
theorem TwoR.growl (h : TwoR base w kv nk kl lv nl ll) (hg : w.grownBy w' lv.ownBlock) (ho : w'.ownsRow base 26 6 lv' nl' ll') (ha : lv'.ownBlock = lv.ownBlock ∨ lv'.ownBlock = some w.heap.size) : TwoR base w' kv nk kl lv' nl' ll' :=
  ⟨own_of_heap h.k fun b e => hg.block b (h.k.lt b e).2 (fun e2 => h.d b e e2.symm), ho, fun b e e2 => by
    rcases ha with ha | ha
    · exact h.d b e (ha ▸ e2)
    · rw [ha] at e2; injection e2 with e2; have := (h.k.lt b e).2; omega⟩
theorem TwoR.nil (base : Nat) (w : World) : TwoR base w (.slice none 0 0) 0 [] (.slice none 0 0) 0 [] := ⟨World.ownsRow_nil _ _ _ _, World.ownsRow_nil _ _ _ _, fun b e => by cases e⟩
theorem Cells.kept {B b0 : Nat} {a : Option Addr} {vs : List Value} (h : Cells w.heap.size w a vs) (hk : Kept [b0] w w') (hn : ∀ b, a = some b → b.block ≠ b0) : Cells w.heap.size w' a vs := by
  rcases h with h | ⟨b, off, h1, h2, h3⟩
  · exact .inl h
  · exact .inr ⟨b, off, h1, h2, fun i v hi => by rw [World.cell?_of_block (hk.block b h2 (by simp; exact hn _ h1))]; exact h3 i v hi⟩
end
/-- The map under way: acc's keys and values, in the box bm. -/
structure RM (w : World) (bm : Nat) (acc : List KV) (ka : Option Addr) (kc : Nat) (la : Option Addr) (lc : Nat) (vl : List Value) (wr : World) : Prop where
  bel : Below w.heap.size w wr
  res : Block wr w.heap.size zeroC 26
  box : Block wr bm [.int .i64 5, .bool false, .int .i64 0, .string ⟨#[]⟩, .slice la acc.length lc, .slice ka acc.length kc] 26
  two : TwoR (bm + 1) wr (.slice ka acc.length kc) acc.length (acc.map fun p => .string p.1) (.slice la acc.length lc) acc.length vl
  flat : FlatR (LiesV (bm + 1) wr) 6 vl (acc.map (·.2))

theorem RM.lies {w wr : World} {bm kc lc : Nat} {acc : List KV} {ka la : Option Addr} {vl : List Value} (h : RM w bm acc ka kc la lc vl wr) : LiesV (bm + 1) wr [.int .i64 5, .bool false, .int .i64 0, .string ⟨#[]⟩, .slice la acc.length lc, .slice ka acc.length kc] (.mk 5 false 0 ⟨#[]⟩ (acc.map (·.2)) (acc.map (·.1))) := by
  intro u hz hu
  have hk : u.ownsRow (bm + 1) 9 1 (.slice ka acc.length kc) acc.length (acc.map fun p => .string p.1) := own_of_heap h.two.k fun b e => hu b (h.two.k.lt b e).1 (h.two.k.lt b e).2
  have hl : u.ownsRow (bm + 1) 26 6 (.slice la acc.length lc) acc.length vl := own_of_heap h.two.l fun b e => hu b (h.two.l.lt b e).1 (h.two.l.lt b e).2
  have hck := own_cells_of hk
  have hcl := own_cells_of hl
  have e1 : (acc.map (·.1)).map Value.string = acc.map fun p => Value.string p.1 := by rw [List.map_map]; rfl
  have hkc := own_cap hk
  have hlc := own_cap hl
  unfold maxLen at hkc hlc
  have hf : FlatR (IsV u.heap.size u) 6 vl (acc.map (·.2)) := h.flat.mono fun cs t ht => ht u hz hu
  have hrow := hf.row (by decide) hcl
  have hvs : IsVs u.heap.size u la 0 (acc.map (·.2)) := IsVs.mk fun i t ht => by
    obtain ⟨b, off, cs, g1, g2, g3, g4, g5⟩ := hrow i t ht
    exact ⟨b, off, cs, g1, g2, fun j v hv => by rw [Nat.zero_add]; exact g4 j v hv, g5⟩
  unfold IsV
  exact ⟨la, lc, ka, kc, by rw [List.length_map, List.length_map], by unfold in64; omega, by unfold in64; omega, by rw [List.length_map]; omega, by rw [List.length_map]; omega, own_capz hl, own_capz hk, by unfold StrRow; rw [e1]; exact hck, hvs⟩
/-- The next key's place. -/
theorem posK_of {l : List KV} {k : ByteArray} {p : Nat} (hp : p ≤ l.length) (h1 : ∀ (q : Nat) x, q < p → l[q]? = some x → ltS x.1 k = true) (h2 : ∀ x, l[p]? = some x → ltS x.1 k = false) : posK l k = p := by
  unfold posK
  induction l generalizing p with
  | nil => simp at hp; subst hp; rfl
  | cons a l ih =>
    rw [List.takeWhile_cons]
    cases p with
    | zero =>
      have := h2 a rfl
      rw [if_neg (by rw [this]; simp)]
      rfl
    | succ p =>
      have := h1 0 a (by omega) rfl
      rw [if_pos this, List.length_cons, ih (p := p) (by simpa using hp) (fun q x hq hx => h1 (q + 1) x (by omega) (by simpa using hx)) (fun x hx => h2 x (by simpa using hx))]
theorem zip_drop {ks : List ByteArray} {ts : List Vt} {i : Nat} {k : ByteArray} {t : Vt} (hk : ks[i]? = some k) (ht : ts[i]? = some t) : (ks.zip ts).drop i = (k, t) :: (ks.zip ts).drop (i + 1) := by
  have h : (ks.zip ts)[i]? = some (k, t) := List.getElem?_zip_eq_some.2 ⟨hk, ht⟩
  exact drop_some h
theorem insP_no {l : List KV} {p : KV} {y : KV} {n : Nat} (hn : posK l p.1 = n) (hy : l[n]? = some y) (he : y.1 = p.1) : insP l p = none := by
  unfold insP; rw [hn, hy]; simp [he]
theorem insP_yes {l : List KV} {p : KV} {n : Nat} (hn : posK l p.1 = n) (h : ∀ y, l[n]? = some y → y.1 ≠ p.1) : insP l p = some (l.take n ++ p :: l.drop n) := by
  unfold insP; rw [hn]
  cases hy : l[n]? with
  | none => rfl
  | some y => simp [h y hy]
theorem RM.drewN {w wr : World} {bm kc lc : Nat} {acc : List KV} {ka la : Option Addr} {vl : List Value} (h : RM w bm acc ka kc la lc vl wr) (q : Nat) : RM w bm acc ka kc la lc vl (wr.drewN q) :=
  ⟨⟨h.bel.os, h.bel.tape, h.bel.output, h.bel.size, h.bel.block⟩, h.res, h.box, h.two.of fun _ _ _ => rfl, h.flat.mono fun _ _ hx => hx.step (Nat.le_refl _) fun _ _ _ => rfl⟩
theorem TwoR.base {b0 base : Nat} {w : World} {kv lv : Value} {nk nl : Nat} {kl ll : List Value} (h : TwoR base w kv nk kl lv nl ll) (hb : b0 ≤ base) : TwoR b0 w kv nk kl lv nl ll := ⟨own_mono h.k hb, own_mono h.l hb, h.d⟩
theorem RM.next {w w4 w13 : World} {bm kc lc p n' kc' lc' : Nat} {acc : List KV} {ka la ka' la' : Option Addr} {vl cs : List Value} {key : ByteArray} {t : Vt} (h : RM w bm acc ka kc la lc vl w4) (hbm : w.heap.size + 1 = bm) (hk : Kept [bm] w4 w13) (hp : p ≤ acc.length) (hn : n' = (acc.take p ++ (key, t) :: acc.drop p).length)
    (hbox : Block w13 bm [.int .i64 5, .bool false, .int .i64 0, .string ⟨#[]⟩, .slice la' n' lc', .slice ka' n' kc'] 26)
    (htwo : TwoR w4.heap.size w13 (.slice ka' n' kc') n' ((acc.map fun p => Value.string p.1).take p ++ [.string key] ++ (acc.map fun p => Value.string p.1).drop p) (.slice la' n' lc') n' (vl.take (p * 6) ++ cs ++ vl.drop (p * 6)))
    (hx : LiesV (bm + 1) w13 cs t) (h6 : cs.length = 6) (h1 : ∀ u ∈ cs, u.oneCell' = true) :
    RM w bm (acc.take p ++ (key, t) :: acc.drop p) ka' kc' la' lc' (vl.take (p * 6) ++ cs ++ vl.drop (p * 6)) w13 := by
  subst hn
  have hbl := h.box.lt
  have e1 : ((acc.take p ++ (key, t) :: acc.drop p).map fun p => Value.string p.1) = (acc.map fun p => Value.string p.1).take p ++ [.string key] ++ (acc.map fun p => Value.string p.1).drop p := by
    rw [List.map_append, List.map_cons, List.map_take, List.map_drop]; simp
  refine ⟨h.bel.trans (hk.below (B := w.heap.size) (fun x hx => by simp at hx; omega) h.bel.size), h.res.of_heap (hk.block _ h.res.lt (by simp; omega)), hbox, (e1 ▸ htwo).base (by omega), ?_⟩
  have hf : FlatR (LiesV (bm + 1) w13) 6 vl (acc.map (·.2)) := h.flat.mono fun _ _ hx => hx.step hk.size fun q h1 h2 => hk.block q h2 (by simp; omega)
  have h2 := ((hf.take p (by rw [List.length_map]; exact hp)).append (FlatR.single hx h6 h1)).append (hf.drop p)
  have e2 : (acc.take p ++ (key, t) :: acc.drop p).map (·.2) = (acc.map (·.2)).take p ++ [t] ++ (acc.map (·.2)).drop p := by
    rw [List.map_append, List.map_cons, List.map_take, List.map_drop]; simp
  rw [e2]
  exact h2
theorem acc_wt : ∀ (ps acc r : List KV), Asc acc → refM acc ps = some r → ((r.map fun x => x.1.size + 1).sum = ((ps ++ acc).map fun x => x.1.size + 1).sum ∧ (r.map fun x => wtV x.2).sum = ((ps ++ acc).map fun x => wtV x.2).sum) := fun ps acc r ha hr => by
  have h := ((refM_spec ps acc ha).1 r hr).2
  exact ⟨perm_sum (h.map _), perm_sum (h.map _)⟩

theorem there6 {w : World} {b : Nat} {cu : List Value} {ty : TypeId} (h : Block w b cu ty) {off : Nat} (hl : off + 6 ≤ cu.length) : w.there b off 6 := by
  intro j hj
  exact ⟨by rw [h.cell (show cu[off + j]? = some (cu[off + j]'(by omega)) from List.getElem?_eq_getElem _)]; rfl, h.free _⟩
theorem zip_wt {ks : List ByteArray} {ts : List Vt} {acc : List KV} (hl : ks.length = ts.length) (h : refM [] (ks.zip ts) = some acc) (hw : 1 + (ks.map fun k => k.size + 1).sum + wtVs ts ≤ 1048576) : wtV (.mk 5 false 0 ⟨#[]⟩ (acc.map (·.2)) (acc.map (·.1))) ≤ 1048576 := by
  obtain ⟨h1, h2⟩ := acc_wt _ _ _ List.Pairwise.nil h
  rw [List.append_nil] at h1 h2
  have e1 : (ks.zip ts).map (fun x => x.1.size + 1) = ks.map fun k => k.size + 1 := by
    have := List.map_fst_zip (l₁ := ks) (l₂ := ts) (by omega)
    conv => rhs; rw [← this]
    rw [List.map_map]; rfl
  have e2 : (ks.zip ts).map (fun x => wtV x.2) = ts.map wtV := by
    have := List.map_snd_zip (l₁ := ks) (l₂ := ts) (by omega)
    conv => rhs; rw [← this]
    rw [List.map_map]; rfl
  rw [e1] at h1
  rw [e2] at h2
  simp only [wtV, wtVs_sum, List.map_map] at hw ⊢
  have e3 : (List.map ((fun k => k.size + 1) ∘ fun x => x.1) acc).sum = (ks.map fun k => k.size + 1).sum := h1
  have e4 : (List.map (wtV ∘ fun x => x.2) acc).sum = (ts.map wtV).sum := h2
  rw [e3, e4]
  have e5 : (⟨#[]⟩ : ByteArray).size = 0 := rfl
  omega
theorem lies_end {w wr w2 we : World} {bm kc lc an : Nat} {acc : List KV} {ka la : Option Addr} {vl : List Value} {x0 x1 x2 x3 x4 x5 : Value} (h : RM w bm acc ka kc la lc vl wr) (han : acc.length = an) (hbm : w.heap.size + 1 = bm) (hb : Below wr.heap.size wr w2) (he : w2.setCells w.heap.size 0 (#[x0, x1, x2, x3, x4, x5] : Array Value).toList = we) :
    LiesV w.heap.size we [.int .i64 5, .bool false, .int .i64 0, .string ⟨#[]⟩, .slice la an lc, .slice ka an kc] (.mk 5 false 0 ⟨#[]⟩ (acc.map (·.2)) (acc.map (·.1))) := by
  subst han
  have hk : ∀ q, w.heap.size + 1 ≤ q → we.heap[q]? = w2.heap[q]? := fun q hq => by rw [← he]; exact set6_other _ _ 0 _ _ _ _ _ _ q (by omega)
  have hz : w2.heap.size = we.heap.size := by rw [← he]; exact (set6_size w2 w.heap.size 0 x0 x1 x2 x3 x4 x5).symm
  exact (h.lies.step (W' := we) (Nat.le_trans hb.size (Nat.le_of_eq hz)) (fun q h1 h2 => by rw [hk q (by omega)]; exact hb.block q h2)).mono (by omega)
theorem refM_cons {acc a ps : List KV} {p : KV} (h : insP acc p = some a) : refM acc (p :: ps) = refM a ps := by simp [refM, h]
theorem eqS_of {x y : ByteArray} (h : (x.toList == y.toList) = true) : x = y := by have h2 := ba_beq x y; rw [h] at h2; simpa using h2.symm
theorem neS_of {x y : ByteArray} (h : (x.toList == y.toList) = false) : x ≠ y := by have h2 := ba_beq x y; rw [h] at h2; simpa using h2.symm
set_option maxHeartbeats 16000000 in
theorem rmap_any (ks : List ByteArray) (ts : List Vt) (na va : Option Addr) (nc vc B : Nat) (w : World) (hK : StrRow B w na ks) (hL : IsVs B w va 0 ts) (hB : B ≤ w.heap.size) (hnc : ks.length ≤ nc) (hnm : nc ≤ 9223372036854775807) (hvc : ts.length ≤ vc) (hvm : vc ≤ 9223372036854775807)
    (hwt : 1 + (ks.map fun k => k.size + 1).sum + wtVs ts ≤ 1048576) :
    Calls Try.prog 12 #[.slice na ks.length nc, .slice va ts.length vc] w (RMapP (mapR ks ts) w) := by
  have hln : ts.length ≤ 1048576 := by have h1 := wtVs_len ts; omega
  have hkn : ks.length ≤ 1048576 := by have h1 := keys_len ks; omega
  obtain ⟨Q, hQ⟩ : ∃ Q, RMapP (mapR ks ts) w = Q := ⟨_, rfl⟩
  rw [hQ]
  have HQ := Lib.hid hQ
  have HK := Lib.hid hK
  have HL := Lib.hid hL
  have HWT := Lib.hid hwt
  obtain ⟨iS, siS, szS, s1S, s2S⟩ := info_parts Try.infoStr
  obtain ⟨iV, siV, szV, s1V, s2V⟩ := info_parts Try.infoVal
  obtain ⟨n, hn⟩ : ∃ n, ks.length = n := ⟨_, rfl⟩
  obtain ⟨m, hm⟩ : ∃ m, ts.length = m := ⟨_, rfl⟩
  rw [hn] at hkn hnc ⊢
  rw [hm] at hln hvc ⊢
  have HN := Lib.hid hn
  have HM := Lib.hid hm
  obtain ⟨W0, hW0⟩ : ∃ W0, w.alloc (.cells #[.int .i64 0, .bool false, .int .i64 0, .string ⟨#[]⟩, .slice none 0 0, .slice none 0 0] 26) = W0 := ⟨_, rfl⟩
  have hb0 : Below w.heap.size w W0 := by rw [← hW0]; exact (Below.refl _ _).alloc (Nat.le_refl _) _
  have hr0 : Block W0 w.heap.size [.int .i64 0, .bool false, .int .i64 0, .string ⟨#[]⟩, .slice none 0 0, .slice none 0 0] 26 := by rw [← hW0]; exact Block.new w _ _
  have hz0 : W0.heap.size = w.heap.size + 1 := by rw [← hW0]; simp
  have HB0 := Lib.hid hb0
  have HR0 := Lib.hid hr0
  have HW0 := Lib.hid hW0
  have HZ0 := Lib.hid hz0
  clear hn hm hK hL hQ hwt hb0 hr0 hW0 hz0
  by_cases hnm' : n = m
  · skip
    subst hnm'
    obtain ⟨W1, hW1⟩ : ∃ W1, W0.alloc (.cells #[.int .i64 5, .bool false, .int .i64 0, .string ⟨#[]⟩, .slice none 0 0, .slice none 0 0] 26) = W1 := ⟨_, rfl⟩
    obtain ⟨bm, hbm⟩ : ∃ b, w.heap.size + 1 = b := ⟨_, rfl⟩
    have hbz : W0.heap.size = bm := by rw [HZ0.out, hbm]
    have HRM0 : Hid (RM w bm [] none 0 none 0 [] W1) := Lib.hid (by rw [← hbz, ← hW1]; exact ⟨HB0.out.alloc HB0.out.size _, HR0.out.alloc _, Block.new W0 _ _, TwoR.nil _ _, FlatR.nil⟩)
    have HBM := Lib.hid hbm
    have HW1 := Lib.hid hW1
    clear hW1 hbz
    go_enter Try.func12, Try.ntmps12
    go_wp2_with fail
    rw [HW0.out, HW1.out]
    clear hbm
    go_loopw [7] (fun iv wr => ∃ (i : Nat) (acc : List KV) (ka : Option Addr) (kc : Nat) (la : Option Addr) (lc : Nat) (vl : List Value), iv = .int .i64 i ∧ i ≤ n ∧ acc.length ≤ i ∧ Hid (Asc acc) ∧ Hid (refM [] (ks.zip ts) = refM acc ((ks.zip ts).drop i)) ∧ Hid (RM w bm acc ka kc la lc vl wr)) (fun iv _ => n - (intOf iv).toNat)
    case atStart => exact ⟨0, [], none, 0, none, 0, [], rfl, Nat.zero_le _, Nat.le_refl _, Lib.hid List.Pairwise.nil, Lib.hid rfl, HRM0⟩
    case round =>
      clear HRM0
      obtain ⟨i, acc, ka, kc, la, lc, vl, rfl, hi, hacc, HA, HREF, HR⟩ := hrel
      by_cases hlt : i < n
      · skip
        have hlt' : (i : Int) < n := by omega
        have hi0 : (0 : Int) ≤ i := by omega
        skip
        obtain ⟨key, hkey⟩ := get_some (l := ks) (j := i) (by have := HN.out; omega)
        obtain ⟨t, ht⟩ := get_some (l := ts) (j := i) (by have := HM.out; omega)
        have HKEY := Lib.hid hkey
        have HTT := Lib.hid ht
        clear hkey ht
        obtain ⟨eb, eo, rfl, heb, hec⟩ := (show StrRow B wr na ks from HK.out.below HR.out.bel hB).get HKEY.out
        have x5 := HR.out.box.cell (i := 5) rfl
        have x4 := HR.out.box.cell (i := 4) rfl
        have HKC := Lib.hid (own_cells_of HR.out.two.k)
        have hkcap := own_cap HR.out.two.k
        have hlcap := own_cap HR.out.two.l
        unfold maxLen at hkcap hlcap
        obtain ⟨an, han⟩ : ∃ n, acc.length = n := ⟨_, rfl⟩
        have HAN := Lib.hid han
        rw [han] at hacc hkcap hlcap x5 x4
        clear han
        go_wp2_with fail
        go_loopw [8] (fun pv w3 => ∃ (p q : Nat), pv = .int .i64 p ∧ p ≤ an ∧ w3 = wr.drewN q ∧ Hid (∀ (t : Nat) x, t < p → acc[t]? = some x → ltS x.1 key = true)) (fun pv _ => an - (intOf pv).toNat)
        case atStart => exact ⟨0, 0, rfl, Nat.zero_le _, rfl, Lib.hid (fun t x h => by omega)⟩
        case round =>
          obtain ⟨p, q, rfl, hp, rfl, HLO⟩ := hrel
          by_cases hpl : p < an
          · skip
            have hpl' : (p : Int) < an := by omega
            have hp0 : (0 : Int) ≤ p := by omega
            obtain ⟨y, hy⟩ := get_some (l := acc) (j := p) (by have := HAN.out; omega)
            obtain ⟨kb, ko, rfl, hkb, hkc⟩ : ∃ kb ko, ka = some ⟨kb, ko, none⟩ ∧ kb < wr.heap.size ∧ wr.cell? ⟨kb, ko + p, none⟩ = some (.string y.1) := by
              rcases HKC.out with h | ⟨b, off, h1, h2, h3⟩
              · exfalso; have := congrArg List.length h; rw [List.length_map, List.length_nil] at this; have h9 := HAN.out; omega
              · exact ⟨b, off, h1, h2, h3 p _ (by rw [List.getElem?_map, hy]; rfl)⟩
            have HY := Lib.hid hy
            clear hy
            obtain ⟨lr, hlr⟩ : ∃ r, ltS y.1 key = r := ⟨_, rfl⟩
            have HLR := Lib.hid hlr
            unfold ltS at hlr
            cases lr with
            | true =>
              go_wp2_with fail
              go_quiet (fail)
              go_wp2_with fail
              go_roundw
              case rel => exact ⟨p + 1, q + nq, by go_num, by omega, rfl, Lib.hid (fun t x h hx => by
                rcases Nat.lt_or_ge t p with h2 | h2
                · exact HLO.out t x h2 hx
                · rw [show t = p from by omega, HY.out] at hx; injection hx with hx; subst hx; exact HLR.out)⟩
              case measure => simp [intOf] <;> omega
            | false =>
              have HLO' := HLO
              have HAT : Hid (∀ x, acc[p]? = some x → ltS x.1 key = false) := Lib.hid (fun x hx => by rw [HY.out] at hx; injection hx with hx; subst hx; exact HLR.out)
              have HPK : Hid (posK acc key = p) := Lib.hid (posK_of (by have := HAN.out; omega) HLO.out HAT.out)
              go_wp2_with fail
              go_quiet (fail)
              revert nq
              intro n1
              obtain ⟨er, her⟩ : ∃ r, (y.1.toList == key.toList) = r := ⟨_, rfl⟩
              go_wp2_with fail
              cases er with
              | true =>
                have HM0 : Hid (mapR ks ts = none) := Lib.hid (by unfold mapR; rw [if_pos (by rw [HN.out, HM.out]), HREF.out, zip_drop HKEY.out HTT.out]; unfold refM; rw [insP_no HPK.out HY.out (eqS_of her)])
                go_quiet (fail)
                obtain ⟨w4, hw4⟩ : ∃ x, ((wr.drewN q).drewN n1).drewN nq = x := ⟨_, rfl⟩
                have HR4 : Hid (RM w bm acc (some ⟨kb, ko, none⟩) kc la lc vl w4) := Lib.hid (by rw [← hw4]; exact ((HR.out.drewN _).drewN _).drewN _)
                rw [hw4]
                clear hw4
                go_upto_region 11 with fail
                have hbr : Block w4 w.heap.size [.int .i64 0, .bool false, .int .i64 0, .string ⟨#[]⟩, .slice none 0 0, .slice none 0 0] 26 := HR4.out.res
                have HT9 : Hid (w4.there w.heap.size 0 6) := Lib.hid (there6 hbr (by simp))
                obtain ⟨we, hwe⟩ : ∃ we, w4.setCells w.heap.size 0 (#[.int .i64 0, .bool false, .int .i64 0, .string ⟨#[]⟩, .slice none 0 0, .slice none 0 0] : Array Value).toList = we := ⟨_, rfl⟩
                have hbe : Block we w.heap.size [.int .i64 0, .bool false, .int .i64 0, .string ⟨#[]⟩, .slice none 0 0, .slice none 0 0] 26 := by rw [← hwe]; exact hbr.set6 0 _ _ _ _ _ _
                have q0 : we.cell? ⟨w.heap.size, 0, none⟩ = some (.int .i64 0) := hbe.cell rfl
                have q1 : we.cell? ⟨w.heap.size, 1, none⟩ = some (.bool false) := hbe.cell rfl
                have q2 : we.cell? ⟨w.heap.size, 2, none⟩ = some (.int .i64 0) := hbe.cell rfl
                have q3 : we.cell? ⟨w.heap.size, 3, none⟩ = some (.string ⟨#[]⟩) := hbe.cell rfl
                have q4 : we.cell? ⟨w.heap.size, 4, none⟩ = some (.slice none 0 0) := hbe.cell rfl
                have q5 : we.cell? ⟨w.heap.size, 5, none⟩ = some (.slice none 0 0) := hbe.cell rfl
                have HBE : Hid (Below w.heap.size w we) := Lib.hid (by rw [← hwe]; exact set6_below HR4.out.bel w.heap.size 0 (Nat.le_refl _) _ _ _ _ _ _)
                have HWE := Lib.hid hwe
                clear hbr hbe hwe
                go_wp2_with (refine wpList_store_mid rfl 26 _ _ rfl w.heap.size 0 #[.int .i64 0, .bool false, .int .i64 0, .string ⟨#[]⟩, .slice none 0 0, .slice none 0 0] rfl rfl HT9.out (by kernel_rfl) (by simp [Value.oneCell']) ?_; rw [HWE.out])
                refine bodyPost_ret (by simp [results, Try.results12, go_sem, q0, q1, q2, q3, q4, q5]; rfl) rfl ?_
                rw [← HQ.out, HM0.out]; exact ⟨HBE.out, rfl⟩
              | false =>
                have HNE : Hid (∀ y, acc[p]? = some y → y.1 ≠ key) := Lib.hid (fun x hx => by rw [HY.out] at hx; injection hx with hx; subst hx; exact neS_of her)
                go_quiet (fail)
                obtain ⟨w4, hw4⟩ : ∃ x, ((wr.drewN q).drewN n1).drewN nq = x := ⟨_, rfl⟩
                have HR4 : Hid (RM w bm acc (some ⟨kb, ko, none⟩) kc la lc vl w4) := Lib.hid (by rw [← hw4]; exact ((HR.out.drewN _).drewN _).drewN _)
                rw [hw4]
                clear hw4
                clear HKC x5 x4 HLO
                clear hkc
                have HBX4 : Hid (Block w4 bm [.int .i64 5, .bool false, .int .i64 0, .string ⟨#[]⟩, .slice la an lc, .slice (some ⟨kb, ko, none⟩) an kc] 26) := Lib.hid (by have := HR4.out.box; rwa [HAN.out] at this)
                have x5 := HBX4.out.cell (i := 5) rfl
                have x4 := HBX4.out.cell (i := 4) rfl
                have HK4 : Hid (Cells w4.heap.size w4 (some ⟨kb, ko, none⟩) (acc.map fun (x : KV) => Value.string x.1)) := Lib.hid (own_cells_of HR4.out.two.k)
                have HL4 : Hid (Cells w4.heap.size w4 la vl) := Lib.hid (own_cells_of HR4.out.two.l)
                have HKZ := Lib.hid (own_capz HR4.out.two.k)
                have HLZ := Lib.hid (own_capz HR4.out.two.l)
                have HVL : Hid (vl.length = an * 6) := Lib.hid (by have := HR4.out.flat.len; rw [List.length_map, HAN.out] at this; exact this)
                have HV1 : Hid (∀ u ∈ vl, u.oneCell' = true) := Lib.hid HR4.out.flat.one
                have HKL : Hid ((acc.map fun (x : KV) => Value.string x.1).length = an) := Lib.hid (by rw [List.length_map]; exact HAN.out)
                have HK1 : Hid (∀ u ∈ (acc.map fun (x : KV) => Value.string x.1), u.oneCell' = true) := Lib.hid (fun u hu => by obtain ⟨x, _, rfl⟩ := List.mem_map.1 hu; rfl)
                have hpk : p ≤ kc := by omega
                have hpl9 : p ≤ lc := by omega
                have hpk' : ¬ kc < p := by omega
                have hpl8 : ¬ lc < p := by omega
                have hp0 : (0 : Int) ≤ p := by omega
                go_wp2_with (at_builtin; refine wpList_append_rows rfl _ _ 22 rfl w4.heap.size 9 iS _ 1 16 Try.underlying22 siS szS s1S s2S rfl (by decide) (.slice none 0 0) (0) ([]) rfl (World.ownsRow_nil _ _ _ _) ((some ⟨kb, ko, none⟩)) (p) (kc) (w4.heap.size) ((acc.map fun (x : KV) => Value.string x.1).take p) rfl (HKZ.out) (by rw [List.length_take, HKL.out]; omega) (HK4.out.take p) (fun u hu => HK1.out u (List.mem_of_mem_take hu)) (by unfold maxLen; omega) (by omega) (Nat.le_refl _) ?_)
                intro k1 c1 w5 hown hgrow hat
                (try simp only [Nat.zero_add, List.nil_append] at hown)
                (try simp only [Nat.zero_add, List.nil_append] at hat)
                (try simp only [Nat.zero_add, List.nil_append])
                have HT5 : Hid (TwoR w4.heap.size w5 (.slice k1 p c1) p ((acc.map fun (x : KV) => Value.string x.1).take p) (.slice none 0 0) 0 []) := Lib.hid ((TwoR.nil w4.heap.size w4).growk hgrow hown hat)
                have HB5 : Hid (Below w4.heap.size w4 w5) := Lib.hid ((Below.refl _ _).grown hgrow (Nat.le_refl _) (fun k e => by cases e))
                clear hown hgrow hat x5 x4
                have x4 := (HBX4.out.below HB5.out HBX4.out.lt).cell (i := 4) rfl
                go_wp2_with (at_builtin; refine wpList_append_rows rfl _ _ 23 rfl w4.heap.size 26 iV _ 6 88 Try.underlying23 siV szV s1V s2V rfl (by decide) (.slice none 0 0) (0) ([]) rfl (HT5.out.l) (la) (p) (lc) (w4.heap.size) (vl.take (p * 6)) rfl (HLZ.out) (by rw [List.length_take, HVL.out]; omega) ((HL4.out.below HB5.out (Nat.le_refl _)).takeN (p * 6)) (fun u hu => HV1.out u (List.mem_of_mem_take hu)) (by unfold maxLen; omega) (by omega) (HB5.out.size) ?_)
                intro l1 d1 w6 hown hgrow hat
                (try simp only [Nat.zero_add, List.nil_append] at hown)
                (try simp only [Nat.zero_add, List.nil_append] at hat)
                (try simp only [Nat.zero_add, List.nil_append])
                have HT6 : Hid (TwoR w4.heap.size w6 (.slice k1 p c1) p ((acc.map fun (x : KV) => Value.string x.1).take p) (.slice l1 p d1) p (vl.take (p * 6))) := Lib.hid (HT5.out.growl hgrow hown hat)
                have HB6 : Hid (Below w4.heap.size w4 w6) := Lib.hid (HB5.out.grown hgrow HB5.out.size (fun k e => by cases e))
                clear hown hgrow hat x4
                have hbr6 := HR4.out.bel.trans (HB6.out.mono HR4.out.bel.size)
                obtain ⟨e6, o6, he6, hb6, hc6⟩ := (show StrRow B w6 (some ⟨eb, eo, none⟩) ks from HK.out.below hbr6 hB).get HKEY.out
                injection he6 with he6
                injection he6 with g1 g2
                subst g1 g2
                obtain ⟨w7, hw7⟩ : ∃ x, w6.alloc (.cells #[.string key] 9) = x := ⟨_, rfl⟩
                have hb67 : Below w6.heap.size w6 w7 := by rw [← hw7]; exact (Below.refl _ _).alloc (Nat.le_refl _) _
                have HT7 := Lib.hid (HT6.out.of (w' := w7) (fun b _ h => hb67.block b h))
                have HB7 := Lib.hid (HB6.out.trans (hb67.mono HB6.out.size))
                have HN7 : Hid (Cells w7.heap.size w7 (some ⟨w6.heap.size, 0, none⟩) [.string key]) := Lib.hid (.inr ⟨w6.heap.size, 0, rfl, by rw [← hw7]; simp, fun i v hv => by rw [Nat.zero_add]; have hblk : Block w7 w6.heap.size [.string key] 9 := (by rw [← hw7]; exact Block.new w6 _ _); exact hblk.cell hv⟩)
                have HW7 := Lib.hid hw7
                clear hbr6 hw7 hb67
                go_wp2_with (at_builtin; rw [HW7.out]; refine wpList_append_rows rfl _ _ 22 rfl w4.heap.size 9 iS _ 1 16 Try.underlying22 siS szS s1S s2S rfl (by decide) (.slice k1 p c1) (p) ((acc.map fun (x : KV) => Value.string x.1).take p) rfl (HT7.out.k) (some ⟨w6.heap.size, 0, none⟩) (1) (1) (w7.heap.size) ([.string key]) rfl (fun e => by cases e) (rfl) (HN7.out) (fun u hu => by simp at hu; subst hu; rfl) (by unfold maxLen; omega) (by omega) (HB7.out.size) ?_)
                intro k2 c2 w8 hown hgrow hat
                have HT8 : Hid (TwoR w4.heap.size w8 (.slice k2 (p + 1) c2) (p + 1) ((acc.map fun (x : KV) => Value.string x.1).take p ++ [.string key]) (.slice l1 p d1) p (vl.take (p * 6))) := Lib.hid (HT7.out.growk hgrow hown hat)
                have HB8 : Hid (Below w4.heap.size w4 w8) := Lib.hid (HB7.out.grown hgrow HB7.out.size (fun k e => (HT7.out.k.lt k e).1))
                clear hown hgrow hat hc6 hb6
                have hbr8 := HR4.out.bel.trans (HB8.out.mono HR4.out.bel.size)
                obtain ⟨vb, vo, tk, tb, ti, tstr, tl, tks, tla, tlc, tka, tkc, rfl, rfl, hvb, ⟨g0, g1, g2, g3, g4, g5⟩, hVt⟩ := (HL.out.below hbr8 hB).at HTT.out
                have HCO := Lib.hid (rcopy_any _ _ B w8 hVt (Nat.le_trans hB hbr8.size) (by have h1 := wtVs_get HTT.out; have := HWT.out; omega))
                clear hbr8 hVt
                go_wp2_with fail
                refine HCO.out.mono ?_
                rintro e w9 ⟨cs9, bs9, rfl, hb9, ho9, hn9, hr9⟩
                clear g0 g1 g2 g3 g4 g5
                have ho3 := ho9
                unfold IsO at ho3
                obtain ⟨cla, clc, cka, ckc, y1, y2, rfl, -, -, -⟩ := ho3
                obtain ⟨CS, hCS⟩ : ∃ c : List Value, [.int .i64 tk, .bool tb, .int .i64 ti, .string tstr, .slice cla tl.length clc, .slice cka tks.length ckc] = c := ⟨_, rfl⟩
                obtain ⟨w10, hw10⟩ : ∃ x, w9.alloc (.cells #[.int .i64 tk, .bool tb, .int .i64 ti, .string tstr, .slice cla tl.length clc, .slice cka tks.length ckc] 26) = x := ⟨_, rfl⟩
                have hb10 : Below w8.heap.size w8 w10 := by rw [← hw10]; exact hb9.alloc hb9.size _
                have HT10 := Lib.hid (HT8.out.of (w' := w10) (fun b _ h => hb10.block b h))
                have HB10 := Lib.hid (HB8.out.trans (hb10.mono HB8.out.size))
                have hblk10 : Block w10 w9.heap.size CS 26 := by rw [← hw10, ← hCS]; exact Block.new w9 _ _
                have HN10 : Hid (Cells w10.heap.size w10 (some ⟨w9.heap.size, 0, none⟩) CS) := Lib.hid (.inr ⟨w9.heap.size, 0, rfl, hblk10.lt, fun i v hv => by rw [Nat.zero_add]; exact hblk10.cell hv⟩)
                have HC6 : Hid (CS.length = 6 ∧ ∀ u ∈ CS, u.oneCell' = true) := Lib.hid (by rw [← hCS]; refine ⟨rfl, fun u hu => ?_⟩; simp at hu; rcases hu with rfl | rfl | rfl | rfl | rfl | rfl <;> rfl)
                have HLV : Hid (LiesV w8.heap.size w10 CS (.mk tk tb ti tstr tl tks)) := Lib.hid (by
                  rw [← hCS]
                  exact (IsO.liesV ho9 (fun b hb => ⟨(hr9 b hb).1, (hr9 b hb).2⟩)).step (by rw [← hw10]; simp) (fun q _ h => by rw [← hw10]; exact Below.heap_alloc _ _ _ h))
                have HW10 := Lib.hid hw10
                clear ho9 hn9 hr9 hb9 hb10 hw10 hblk10 hCS HCO
                go_wp2_with (at_builtin; rw [HW10.out]; refine wpList_append_rows rfl _ _ 23 rfl w4.heap.size 26 iV _ 6 88 Try.underlying23 siV szV s1V s2V rfl (by decide) (.slice l1 p d1) (p) (vl.take (p * 6)) rfl (HT10.out.l) (some ⟨w9.heap.size, 0, none⟩) (1) (1) (w10.heap.size) (CS) rfl (fun e => by cases e) (HC6.out.1) (HN10.out) (HC6.out.2) (by unfold maxLen; omega) (by omega) (HB10.out.size) ?_)
                intro l2 d2 w11 hown hgrow hat
                have HT11 : Hid (TwoR w4.heap.size w11 (.slice k2 (p + 1) c2) (p + 1) ((acc.map fun (x : KV) => Value.string x.1).take p ++ [.string key]) (.slice l2 (p + 1) d2) (p + 1) (vl.take (p * 6) ++ CS)) := Lib.hid (HT10.out.growl hgrow hown hat)
                have HB11 : Hid (Below w4.heap.size w4 w11) := Lib.hid (HB10.out.grown hgrow HB10.out.size (fun k e => (HT10.out.l.lt k e).1))
                have HGZ : Hid (w10.heap.size ≤ w11.heap.size) := Lib.hid hgrow.size
                have HF11 : Hid (∀ q, w8.heap.size ≤ q → q < w10.heap.size → w11.heap[q]? = w10.heap[q]?) := Lib.hid (fun q h1 h2 => hgrow.block q h2 (fun e => by have := (HT8.out.l.lt q e.symm).2; omega))
                have HAT := Lib.hid hat
                clear hown hat hgrow
                have HBX11 := Lib.hid (HBX4.out.below HB11.out HBX4.out.lt)
                have x5 := HBX11.out.cell (i := 5) rfl
                have z5 := HBX11.out.free 5
                have hlt4 := HBX4.out.lt
                have HLB : Hid (∀ b off, la = some ⟨b, off, none⟩ → b ≠ bm) := Lib.hid (fun b off e => by have := (HR4.out.two.l.lt b (by rw [e]; rfl)).1; omega)
                have hkp : ¬ p = kc := by omega
                have hlp : ¬ p = lc := by omega
                go_wp2_with (at_builtin; refine wpList_append_rows rfl _ _ 22 rfl w4.heap.size 9 iS _ 1 16 Try.underlying22 siS szS s1S s2S rfl (by decide) (.slice k2 (p + 1) c2) (p + 1) ((acc.map fun (x : KV) => Value.string x.1).take p ++ [.string key]) rfl (HT11.out.k) (some ⟨kb, ko + p, none⟩) (an - p) (kc - p) (w4.heap.size) ((acc.map fun (x : KV) => Value.string x.1).drop p) rfl (fun e => by cases e) (by rw [List.length_drop, HKL.out]; omega) (by have h := ((HK4.out.below HB11.out (Nat.le_refl _)).dropN p); rw [Option.map_some, addr_add] at h; exact h) (fun u hu => HK1.out u (List.mem_of_mem_drop hu)) (by unfold maxLen; omega) (by omega) (HB11.out.size) ?_)
                intro k3 c3 w12 hown hgrow hat
                have hown' : w12.ownsRow w4.heap.size 9 1 (.slice k3 (p + 1 + (an - p)) c3) (an + 1) ((acc.map fun (x : KV) => Value.string x.1).take p ++ [.string key] ++ (acc.map fun (x : KV) => Value.string x.1).drop p) := by
                  have e : an + 1 = p + 1 + (an - p) := by omega
                  rw [e]
                  simpa only [List.append_assoc, List.cons_append, List.nil_append] using hown
                have HT12 : Hid (TwoR w4.heap.size w12 (.slice k3 (p + 1 + (an - p)) c3) (an + 1) ((acc.map fun (x : KV) => Value.string x.1).take p ++ [.string key] ++ (acc.map fun (x : KV) => Value.string x.1).drop p) (.slice l2 (p + 1) d2) (p + 1) (vl.take (p * 6) ++ CS)) := Lib.hid (HT11.out.growk hgrow hown' hat)
                have HB12 : Hid (Below w4.heap.size w4 w12) := Lib.hid (HB11.out.grown hgrow HB11.out.size (fun k e => (HT11.out.k.lt k e).1))
                have HF12 : Hid (∀ q, w8.heap.size ≤ q → q < w10.heap.size → w12.heap[q]? = w10.heap[q]?) := Lib.hid (fun q h1 h2 => by rw [hgrow.block q (by have := HGZ.out; omega) (fun e => by have := (HT8.out.k.lt q e.symm).2; omega)]; exact HF11.out q h1 h2)
                have HGZ12 : Hid (w10.heap.size ≤ w12.heap.size) := Lib.hid (by have := HGZ.out; have := hgrow.size; omega)
                clear hown hown' hgrow hat
                obtain ⟨w13, hw13⟩ : ∃ x, w12.setCell ⟨bm, 5, none⟩ (.slice k3 (p + 1 + (an - p)) c3) = x := ⟨_, rfl⟩
                have hb12 := HBX4.out.below HB12.out HBX4.out.lt
                have hb13 : Block w13 bm [.int .i64 5, .bool false, .int .i64 0, .string ⟨#[]⟩, .slice la an lc, .slice k3 (p + 1 + (an - p)) c3] 26 := by rw [← hw13]; exact hb12.set 5 _
                have hk13 : ∀ q, q ≠ bm → w13.heap[q]? = w12.heap[q]? := fun q hq => by rw [← hw13]; exact Below.heap_setCell _ _ _ _ hq
                have hz13 : w13.heap.size = w12.heap.size := by rw [← hw13]; simp [World.setCell]
                have HT13 := Lib.hid (HT12.out.of (w' := w13) (fun b h _ => hk13 b (by omega)))
                have HK13 : Hid (Kept [bm] w4 w13) := Lib.hid (by rw [← hw13]; exact (Kept.of_below HB12.out).setCell (.inl (by simp)) _)
                have hz8 := HB8.out.size
                have HF13 : Hid (∀ q, w8.heap.size ≤ q → q < w10.heap.size → w13.heap[q]? = w10.heap[q]?) := Lib.hid (fun q h1 h2 => by rw [hk13 q (by omega)]; exact HF12.out q h1 h2)
                have HBX13 := Lib.hid hb13
                have HGZ13 : Hid (w10.heap.size ≤ w13.heap.size) := Lib.hid (by have := HGZ12.out; omega)
                have z5 := hb12.free 5
                have y5 := hb12.cell (i := 5) rfl
                have x4 := hb13.cell (i := 4) rfl
                have HL13 : Hid (Cells w4.heap.size w13 la vl) := Lib.hid (by
                  rcases HL4.out with h | ⟨b, off, h1, h2, h3⟩
                  · exact .inl h
                  · exact .inr ⟨b, off, h1, h2, fun i v hi => by rw [World.cell?_of_block (show w13.heap[b]? = w4.heap[b]? from HK13.out.block b h2 (by simp; exact HLB.out b off h1))]; exact h3 i v hi⟩)
                rw [← hw13] at x4
                have HW13 := Lib.hid hw13
                clear hw13 hb12 hb13 hk13 hz13 x5
                go_wp2_with (at_builtin; rw [HW13.out]; refine wpList_append_rows rfl _ _ 23 rfl w4.heap.size 26 iV _ 6 88 Try.underlying23 siV szV s1V s2V rfl (by decide) (.slice l2 (p + 1) d2) (p + 1) (vl.take (p * 6) ++ CS) rfl (HT13.out.l) (Option.map (fun x => x.add (p * 6)) la) (an - p) (lc - p) (w4.heap.size) (vl.drop (p * 6)) rfl (fun e => by cases la with | none => have := HLZ.out rfl; omega | some x => cases e) (by rw [List.length_drop, HVL.out, ← Nat.sub_mul]) (HL13.out.dropN (p * 6)) (fun u hu => HV1.out u (List.mem_of_mem_drop hu)) (by unfold maxLen; omega) (by omega) (HK13.out.size) ?_)
                intro l3 d3 w14 hown hgrow hat
                have hown' : w14.ownsRow w4.heap.size 26 6 (.slice l3 (p + 1 + (an - p)) d3) (an + 1) (vl.take (p * 6) ++ CS ++ vl.drop (p * 6)) := by
                  have e : an + 1 = p + 1 + (an - p) := by omega
                  rw [e]
                  simpa only [List.append_assoc, List.cons_append, List.nil_append] using hown
                have HT14 := Lib.hid (HT13.out.growl hgrow hown' hat)
                have HK14 : Hid (Kept [bm] w4 w14) := Lib.hid (HK13.out.grown hgrow (fun k e => .inr (HT13.out.l.lt k e).1))
                have HF14 : Hid (∀ q, w8.heap.size ≤ q → q < w10.heap.size → w14.heap[q]? = w10.heap[q]?) := Lib.hid (fun q h1 h2 => by
                  rw [hgrow.block q (by have := HGZ13.out; omega) (fun e => by
                    rcases HAT.out with h | h
                    · have := (HT8.out.l.lt q (h ▸ e.symm)).2; omega
                    · rw [h] at e; injection e with e; omega)]
                  exact HF13.out q h1 h2)
                have hb14 := HBX13.out.of_heap (hgrow.block bm HBX13.out.lt (fun e => by have := (HT13.out.l.lt bm e.symm).1; omega))
                obtain ⟨w15, hw15⟩ : ∃ x, w14.setCell ⟨bm, 4, none⟩ (.slice l3 (p + 1 + (an - p)) d3) = x := ⟨_, rfl⟩
                have hb15 : Block w15 bm [.int .i64 5, .bool false, .int .i64 0, .string ⟨#[]⟩, .slice l3 (p + 1 + (an - p)) d3, .slice k3 (p + 1 + (an - p)) c3] 26 := by rw [← hw15]; exact hb14.set 4 _
                have hk15 : ∀ q, q ≠ bm → w15.heap[q]? = w14.heap[q]? := fun q hq => by rw [← hw15]; exact Below.heap_setCell _ _ _ _ hq
                have hz15 : w15.heap.size = w14.heap.size := by rw [← hw15]; simp [World.setCell]
                have HK15 : Hid (Kept [bm] w4 w15) := Lib.hid (by rw [← hw15]; exact HK14.out.setCell (.inl (by simp)) _)
                have HT15 := Lib.hid (HT14.out.of (w' := w15) (fun b h _ => hk15 b (by omega)))
                have HLV15 : Hid (LiesV (bm + 1) w15 CS (.mk tk tb ti tstr tl tks)) := Lib.hid ((HLV.out.step (by have := HGZ13.out; have := hgrow.size; omega) (fun q h1 h2 => by rw [hk15 q (by have := HB8.out.size; omega)]; exact HF14.out q h1 h2)).mono (by have := HB8.out.size; omega))
                have HNX := Lib.hid (RM.next (n' := an + 1) (key := key) (t := .mk tk tb ti tstr tl tks) HR4.out HBM.out HK15.out (by have := HAN.out; omega) (by rw [List.length_append, List.length_take, List.length_cons, List.length_drop, HAN.out]; omega) (ka' := k3) (kc' := c3) (la' := l3) (lc' := d3) (cs := CS) (p := p) (by have := hb15; (try rw [show p + 1 + (an - p) = an + 1 from by omega] at this); (try rw [show p + 1 + (an - p) = an + 1 from by omega] at this); exact this) (by have := HT15.out; (try rw [show p + 1 + (an - p) = an + 1 from by omega] at this); (try rw [show p + 1 + (an - p) = an + 1 from by omega] at this); exact this) HLV15.out HC6.out.1 HC6.out.2)
                have z4 := hb14.free 4
                have y4 := hb14.cell (i := 4) rfl
                have HW15 := Lib.hid hw15
                clear hown hown' hgrow hat hw15 hb14 hb15 hk15 hz15 z5 y5 x4
                go_wp2_with fail
                rw [HW15.out]
                go_roundw
                case rel => exact ⟨i + 1, acc.take p ++ (key, .mk tk tb ti tstr tl tks) :: acc.drop p, k3, c3, l3, d3, _, by go_num, by omega, by rw [List.length_append, List.length_take, List.length_cons, List.length_drop, HAN.out]; omega, Lib.hid ((insP_spec (p := (key, .mk tk tb ti tstr tl tks)) HA.out).1 _ (insP_yes HPK.out HNE.out)).1, Lib.hid (by rw [HREF.out, zip_drop HKEY.out HTT.out, refM_cons (insP_yes HPK.out HNE.out)]), HNX⟩
                case measure => simp [intOf] <;> omega
          · skip
            have HAT : Hid (∀ x, acc[p]? = some x → ltS x.1 key = false) := Lib.hid (fun x hx => by have := (List.getElem?_eq_some_iff.1 hx).1; have := HAN.out; omega)
            have HPK : Hid (posK acc key = p) := Lib.hid (posK_of (by have := HAN.out; omega) HLO.out HAT.out)
            have hnl : ¬ (p : Int) < an := by omega
            have HNE : Hid (∀ y, acc[p]? = some y → y.1 ≠ key) := Lib.hid (fun y h => by have := (List.getElem?_eq_some_iff.1 h).1; have := HAN.out; omega)
            go_wp2_with fail
            go_quiet (fail)
            revert nq
            intro n1
            go_wp2_with fail
            go_quiet (fail)
            obtain ⟨w4, hw4⟩ : ∃ x, ((wr.drewN q).drewN n1).drewN nq = x := ⟨_, rfl⟩
            have HR4 : Hid (RM w bm acc ka kc la lc vl w4) := Lib.hid (by rw [← hw4]; exact ((HR.out.drewN _).drewN _).drewN _)
            rw [hw4]
            clear hw4
            clear HKC x5 x4 HLO
            have HBX4 : Hid (Block w4 bm [.int .i64 5, .bool false, .int .i64 0, .string ⟨#[]⟩, .slice la an lc, .slice ka an kc] 26) := Lib.hid (by have := HR4.out.box; rwa [HAN.out] at this)
            have x5 := HBX4.out.cell (i := 5) rfl
            have x4 := HBX4.out.cell (i := 4) rfl
            have HK4 : Hid (Cells w4.heap.size w4 ka (acc.map fun (x : KV) => Value.string x.1)) := Lib.hid (own_cells_of HR4.out.two.k)
            have HL4 : Hid (Cells w4.heap.size w4 la vl) := Lib.hid (own_cells_of HR4.out.two.l)
            have HKZ := Lib.hid (own_capz HR4.out.two.k)
            have HLZ := Lib.hid (own_capz HR4.out.two.l)
            have HVL : Hid (vl.length = an * 6) := Lib.hid (by have := HR4.out.flat.len; rw [List.length_map, HAN.out] at this; exact this)
            have HV1 : Hid (∀ u ∈ vl, u.oneCell' = true) := Lib.hid HR4.out.flat.one
            have HKL : Hid ((acc.map fun (x : KV) => Value.string x.1).length = an) := Lib.hid (by rw [List.length_map]; exact HAN.out)
            have HK1 : Hid (∀ u ∈ (acc.map fun (x : KV) => Value.string x.1), u.oneCell' = true) := Lib.hid (fun u hu => by obtain ⟨x, _, rfl⟩ := List.mem_map.1 hu; rfl)
            have hpk : p ≤ kc := by omega
            have hpl9 : p ≤ lc := by omega
            have hpk' : ¬ kc < p := by omega
            have hpl8 : ¬ lc < p := by omega
            have hp0 : (0 : Int) ≤ p := by omega
            go_wp2_with (at_builtin; refine wpList_append_rows rfl _ _ 22 rfl w4.heap.size 9 iS _ 1 16 Try.underlying22 siS szS s1S s2S rfl (by decide) (.slice none 0 0) (0) ([]) rfl (World.ownsRow_nil _ _ _ _) (ka) (p) (kc) (w4.heap.size) ((acc.map fun (x : KV) => Value.string x.1).take p) rfl (HKZ.out) (by rw [List.length_take, HKL.out]; omega) (HK4.out.take p) (fun u hu => HK1.out u (List.mem_of_mem_take hu)) (by unfold maxLen; omega) (by omega) (Nat.le_refl _) ?_)
            intro k1 c1 w5 hown hgrow hat
            (try simp only [Nat.zero_add, List.nil_append] at hown)
            (try simp only [Nat.zero_add, List.nil_append] at hat)
            (try simp only [Nat.zero_add, List.nil_append])
            have HT5 : Hid (TwoR w4.heap.size w5 (.slice k1 p c1) p ((acc.map fun (x : KV) => Value.string x.1).take p) (.slice none 0 0) 0 []) := Lib.hid ((TwoR.nil w4.heap.size w4).growk hgrow hown hat)
            have HB5 : Hid (Below w4.heap.size w4 w5) := Lib.hid ((Below.refl _ _).grown hgrow (Nat.le_refl _) (fun k e => by cases e))
            clear hown hgrow hat x5 x4
            have x4 := (HBX4.out.below HB5.out HBX4.out.lt).cell (i := 4) rfl
            go_wp2_with (at_builtin; refine wpList_append_rows rfl _ _ 23 rfl w4.heap.size 26 iV _ 6 88 Try.underlying23 siV szV s1V s2V rfl (by decide) (.slice none 0 0) (0) ([]) rfl (HT5.out.l) (la) (p) (lc) (w4.heap.size) (vl.take (p * 6)) rfl (HLZ.out) (by rw [List.length_take, HVL.out]; omega) ((HL4.out.below HB5.out (Nat.le_refl _)).takeN (p * 6)) (fun u hu => HV1.out u (List.mem_of_mem_take hu)) (by unfold maxLen; omega) (by omega) (HB5.out.size) ?_)
            intro l1 d1 w6 hown hgrow hat
            (try simp only [Nat.zero_add, List.nil_append] at hown)
            (try simp only [Nat.zero_add, List.nil_append] at hat)
            (try simp only [Nat.zero_add, List.nil_append])
            have HT6 : Hid (TwoR w4.heap.size w6 (.slice k1 p c1) p ((acc.map fun (x : KV) => Value.string x.1).take p) (.slice l1 p d1) p (vl.take (p * 6))) := Lib.hid (HT5.out.growl hgrow hown hat)
            have HB6 : Hid (Below w4.heap.size w4 w6) := Lib.hid (HB5.out.grown hgrow HB5.out.size (fun k e => by cases e))
            clear hown hgrow hat x4
            have hbr6 := HR4.out.bel.trans (HB6.out.mono HR4.out.bel.size)
            obtain ⟨e6, o6, he6, hb6, hc6⟩ := (show StrRow B w6 (some ⟨eb, eo, none⟩) ks from HK.out.below hbr6 hB).get HKEY.out
            injection he6 with he6
            injection he6 with g1 g2
            subst g1 g2
            obtain ⟨w7, hw7⟩ : ∃ x, w6.alloc (.cells #[.string key] 9) = x := ⟨_, rfl⟩
            have hb67 : Below w6.heap.size w6 w7 := by rw [← hw7]; exact (Below.refl _ _).alloc (Nat.le_refl _) _
            have HT7 := Lib.hid (HT6.out.of (w' := w7) (fun b _ h => hb67.block b h))
            have HB7 := Lib.hid (HB6.out.trans (hb67.mono HB6.out.size))
            have HN7 : Hid (Cells w7.heap.size w7 (some ⟨w6.heap.size, 0, none⟩) [.string key]) := Lib.hid (.inr ⟨w6.heap.size, 0, rfl, by rw [← hw7]; simp, fun i v hv => by rw [Nat.zero_add]; have hblk : Block w7 w6.heap.size [.string key] 9 := (by rw [← hw7]; exact Block.new w6 _ _); exact hblk.cell hv⟩)
            have HW7 := Lib.hid hw7
            clear hbr6 hw7 hb67
            go_wp2_with (at_builtin; rw [HW7.out]; refine wpList_append_rows rfl _ _ 22 rfl w4.heap.size 9 iS _ 1 16 Try.underlying22 siS szS s1S s2S rfl (by decide) (.slice k1 p c1) (p) ((acc.map fun (x : KV) => Value.string x.1).take p) rfl (HT7.out.k) (some ⟨w6.heap.size, 0, none⟩) (1) (1) (w7.heap.size) ([.string key]) rfl (fun e => by cases e) (rfl) (HN7.out) (fun u hu => by simp at hu; subst hu; rfl) (by unfold maxLen; omega) (by omega) (HB7.out.size) ?_)
            intro k2 c2 w8 hown hgrow hat
            have HT8 : Hid (TwoR w4.heap.size w8 (.slice k2 (p + 1) c2) (p + 1) ((acc.map fun (x : KV) => Value.string x.1).take p ++ [.string key]) (.slice l1 p d1) p (vl.take (p * 6))) := Lib.hid (HT7.out.growk hgrow hown hat)
            have HB8 : Hid (Below w4.heap.size w4 w8) := Lib.hid (HB7.out.grown hgrow HB7.out.size (fun k e => (HT7.out.k.lt k e).1))
            clear hown hgrow hat hc6 hb6
            have hbr8 := HR4.out.bel.trans (HB8.out.mono HR4.out.bel.size)
            obtain ⟨vb, vo, tk, tb, ti, tstr, tl, tks, tla, tlc, tka, tkc, rfl, rfl, hvb, ⟨g0, g1, g2, g3, g4, g5⟩, hVt⟩ := (HL.out.below hbr8 hB).at HTT.out
            have HCO := Lib.hid (rcopy_any _ _ B w8 hVt (Nat.le_trans hB hbr8.size) (by have h1 := wtVs_get HTT.out; have := HWT.out; omega))
            clear hbr8 hVt
            go_wp2_with fail
            refine HCO.out.mono ?_
            rintro e w9 ⟨cs9, bs9, rfl, hb9, ho9, hn9, hr9⟩
            clear g0 g1 g2 g3 g4 g5
            have ho3 := ho9
            unfold IsO at ho3
            obtain ⟨cla, clc, cka, ckc, y1, y2, rfl, -, -, -⟩ := ho3
            obtain ⟨CS, hCS⟩ : ∃ c : List Value, [.int .i64 tk, .bool tb, .int .i64 ti, .string tstr, .slice cla tl.length clc, .slice cka tks.length ckc] = c := ⟨_, rfl⟩
            obtain ⟨w10, hw10⟩ : ∃ x, w9.alloc (.cells #[.int .i64 tk, .bool tb, .int .i64 ti, .string tstr, .slice cla tl.length clc, .slice cka tks.length ckc] 26) = x := ⟨_, rfl⟩
            have hb10 : Below w8.heap.size w8 w10 := by rw [← hw10]; exact hb9.alloc hb9.size _
            have HT10 := Lib.hid (HT8.out.of (w' := w10) (fun b _ h => hb10.block b h))
            have HB10 := Lib.hid (HB8.out.trans (hb10.mono HB8.out.size))
            have hblk10 : Block w10 w9.heap.size CS 26 := by rw [← hw10, ← hCS]; exact Block.new w9 _ _
            have HN10 : Hid (Cells w10.heap.size w10 (some ⟨w9.heap.size, 0, none⟩) CS) := Lib.hid (.inr ⟨w9.heap.size, 0, rfl, hblk10.lt, fun i v hv => by rw [Nat.zero_add]; exact hblk10.cell hv⟩)
            have HC6 : Hid (CS.length = 6 ∧ ∀ u ∈ CS, u.oneCell' = true) := Lib.hid (by rw [← hCS]; refine ⟨rfl, fun u hu => ?_⟩; simp at hu; rcases hu with rfl | rfl | rfl | rfl | rfl | rfl <;> rfl)
            have HLV : Hid (LiesV w8.heap.size w10 CS (.mk tk tb ti tstr tl tks)) := Lib.hid (by
              rw [← hCS]
              exact (IsO.liesV ho9 (fun b hb => ⟨(hr9 b hb).1, (hr9 b hb).2⟩)).step (by rw [← hw10]; simp) (fun q _ h => by rw [← hw10]; exact Below.heap_alloc _ _ _ h))
            have HW10 := Lib.hid hw10
            clear ho9 hn9 hr9 hb9 hb10 hw10 hblk10 hCS HCO
            go_wp2_with (at_builtin; rw [HW10.out]; refine wpList_append_rows rfl _ _ 23 rfl w4.heap.size 26 iV _ 6 88 Try.underlying23 siV szV s1V s2V rfl (by decide) (.slice l1 p d1) (p) (vl.take (p * 6)) rfl (HT10.out.l) (some ⟨w9.heap.size, 0, none⟩) (1) (1) (w10.heap.size) (CS) rfl (fun e => by cases e) (HC6.out.1) (HN10.out) (HC6.out.2) (by unfold maxLen; omega) (by omega) (HB10.out.size) ?_)
            intro l2 d2 w11 hown hgrow hat
            have HT11 : Hid (TwoR w4.heap.size w11 (.slice k2 (p + 1) c2) (p + 1) ((acc.map fun (x : KV) => Value.string x.1).take p ++ [.string key]) (.slice l2 (p + 1) d2) (p + 1) (vl.take (p * 6) ++ CS)) := Lib.hid (HT10.out.growl hgrow hown hat)
            have HB11 : Hid (Below w4.heap.size w4 w11) := Lib.hid (HB10.out.grown hgrow HB10.out.size (fun k e => (HT10.out.l.lt k e).1))
            have HGZ : Hid (w10.heap.size ≤ w11.heap.size) := Lib.hid hgrow.size
            have HF11 : Hid (∀ q, w8.heap.size ≤ q → q < w10.heap.size → w11.heap[q]? = w10.heap[q]?) := Lib.hid (fun q h1 h2 => hgrow.block q h2 (fun e => by have := (HT8.out.l.lt q e.symm).2; omega))
            have HAT := Lib.hid hat
            clear hown hat hgrow
            have HBX11 := Lib.hid (HBX4.out.below HB11.out HBX4.out.lt)
            have x5 := HBX11.out.cell (i := 5) rfl
            have z5 := HBX11.out.free 5
            have hlt4 := HBX4.out.lt
            have HLB : Hid (∀ b off, la = some ⟨b, off, none⟩ → b ≠ bm) := Lib.hid (fun b off e => by have := (HR4.out.two.l.lt b (by rw [e]; rfl)).1; omega)
            by_cases hlp : p = lc
            · skip
              subst hlp
              by_cases hkp : p = kc
              · skip
                subst hkp
                go_wp2_with (at_builtin; refine wpList_append_rows rfl _ _ 22 rfl w4.heap.size 9 iS _ 1 16 Try.underlying22 siS szS s1S s2S rfl (by decide) (.slice k2 (p + 1) c2) (p + 1) ((acc.map fun (x : KV) => Value.string x.1).take p ++ [.string key]) rfl (HT11.out.k) (ka) (0) (0) (w4.heap.size) ([]) rfl (fun _ => rfl) (by simp) (.inl rfl) (fun u hu => by simp at hu) (by unfold maxLen; omega) (by omega) (HB11.out.size) ?_)
                intro k3 c3 w12 hown hgrow hat
                have hown' : w12.ownsRow w4.heap.size 9 1 (.slice k3 (p + 1) c3) (an + 1) ((acc.map fun (x : KV) => Value.string x.1).take p ++ [.string key] ++ (acc.map fun (x : KV) => Value.string x.1).drop p) := by
                  have e : an = p := by omega
                  have e2 : (acc.map fun (x : KV) => Value.string x.1).drop p = [] := List.drop_eq_nil_of_le (by rw [HKL.out]; omega)
                  rw [e2, List.append_nil, e]
                  exact hown
                have HT12 : Hid (TwoR w4.heap.size w12 (.slice k3 (p + 1) c3) (an + 1) ((acc.map fun (x : KV) => Value.string x.1).take p ++ [.string key] ++ (acc.map fun (x : KV) => Value.string x.1).drop p) (.slice l2 (p + 1) d2) (p + 1) (vl.take (p * 6) ++ CS)) := Lib.hid (HT11.out.growk hgrow hown' hat)
                have HB12 : Hid (Below w4.heap.size w4 w12) := Lib.hid (HB11.out.grown hgrow HB11.out.size (fun k e => (HT11.out.k.lt k e).1))
                have HF12 : Hid (∀ q, w8.heap.size ≤ q → q < w10.heap.size → w12.heap[q]? = w10.heap[q]?) := Lib.hid (fun q h1 h2 => by rw [hgrow.block q (by have := HGZ.out; omega) (fun e => by have := (HT8.out.k.lt q e.symm).2; omega)]; exact HF11.out q h1 h2)
                have HGZ12 : Hid (w10.heap.size ≤ w12.heap.size) := Lib.hid (by have := HGZ.out; have := hgrow.size; omega)
                clear hown hown' hgrow hat
                obtain ⟨w13, hw13⟩ : ∃ x, w12.setCell ⟨bm, 5, none⟩ (.slice k3 (p + 1) c3) = x := ⟨_, rfl⟩
                have hb12 := HBX4.out.below HB12.out HBX4.out.lt
                have hb13 : Block w13 bm [.int .i64 5, .bool false, .int .i64 0, .string ⟨#[]⟩, .slice la an p, .slice k3 (p + 1) c3] 26 := by rw [← hw13]; exact hb12.set 5 _
                have hk13 : ∀ q, q ≠ bm → w13.heap[q]? = w12.heap[q]? := fun q hq => by rw [← hw13]; exact Below.heap_setCell _ _ _ _ hq
                have hz13 : w13.heap.size = w12.heap.size := by rw [← hw13]; simp [World.setCell]
                have HT13 := Lib.hid (HT12.out.of (w' := w13) (fun b h _ => hk13 b (by omega)))
                have HK13 : Hid (Kept [bm] w4 w13) := Lib.hid (by rw [← hw13]; exact (Kept.of_below HB12.out).setCell (.inl (by simp)) _)
                have hz8 := HB8.out.size
                have HF13 : Hid (∀ q, w8.heap.size ≤ q → q < w10.heap.size → w13.heap[q]? = w10.heap[q]?) := Lib.hid (fun q h1 h2 => by rw [hk13 q (by omega)]; exact HF12.out q h1 h2)
                have HBX13 := Lib.hid hb13
                have HGZ13 : Hid (w10.heap.size ≤ w13.heap.size) := Lib.hid (by have := HGZ12.out; omega)
                have z5 := hb12.free 5
                have y5 := hb12.cell (i := 5) rfl
                have x4 := hb13.cell (i := 4) rfl
                have HL13 : Hid (Cells w4.heap.size w13 la vl) := Lib.hid (by
                  rcases HL4.out with h | ⟨b, off, h1, h2, h3⟩
                  · exact .inl h
                  · exact .inr ⟨b, off, h1, h2, fun i v hi => by rw [World.cell?_of_block (show w13.heap[b]? = w4.heap[b]? from HK13.out.block b h2 (by simp; exact HLB.out b off h1))]; exact h3 i v hi⟩)
                rw [← hw13] at x4
                have HW13 := Lib.hid hw13
                clear hw13 hb12 hb13 hk13 hz13 x5
                go_wp2_with (at_builtin; rw [HW13.out]; refine wpList_append_rows rfl _ _ 23 rfl w4.heap.size 26 iV _ 6 88 Try.underlying23 siV szV s1V s2V rfl (by decide) (.slice l2 (p + 1) d2) (p + 1) (vl.take (p * 6) ++ CS) rfl (HT13.out.l) (la) (0) (0) (w4.heap.size) ([]) rfl (fun _ => rfl) (by simp) (.inl rfl) (fun u hu => by simp at hu) (by unfold maxLen; omega) (by omega) (HK13.out.size) ?_)
                intro l3 d3 w14 hown hgrow hat
                have hown' : w14.ownsRow w4.heap.size 26 6 (.slice l3 (p + 1) d3) (an + 1) (vl.take (p * 6) ++ CS ++ vl.drop (p * 6)) := by
                  have e : an = p := by omega
                  have e2 : vl.drop (p * 6) = [] := List.drop_eq_nil_of_le (by rw [HVL.out]; omega)
                  rw [e2, List.append_nil, e]
                  exact hown
                have HT14 := Lib.hid (HT13.out.growl hgrow hown' hat)
                have HK14 : Hid (Kept [bm] w4 w14) := Lib.hid (HK13.out.grown hgrow (fun k e => .inr (HT13.out.l.lt k e).1))
                have HF14 : Hid (∀ q, w8.heap.size ≤ q → q < w10.heap.size → w14.heap[q]? = w10.heap[q]?) := Lib.hid (fun q h1 h2 => by
                  rw [hgrow.block q (by have := HGZ13.out; omega) (fun e => by
                    rcases HAT.out with h | h
                    · have := (HT8.out.l.lt q (h ▸ e.symm)).2; omega
                    · rw [h] at e; injection e with e; omega)]
                  exact HF13.out q h1 h2)
                have hb14 := HBX13.out.of_heap (hgrow.block bm HBX13.out.lt (fun e => by have := (HT13.out.l.lt bm e.symm).1; omega))
                obtain ⟨w15, hw15⟩ : ∃ x, w14.setCell ⟨bm, 4, none⟩ (.slice l3 (p + 1) d3) = x := ⟨_, rfl⟩
                have hb15 : Block w15 bm [.int .i64 5, .bool false, .int .i64 0, .string ⟨#[]⟩, .slice l3 (p + 1) d3, .slice k3 (p + 1) c3] 26 := by rw [← hw15]; exact hb14.set 4 _
                have hk15 : ∀ q, q ≠ bm → w15.heap[q]? = w14.heap[q]? := fun q hq => by rw [← hw15]; exact Below.heap_setCell _ _ _ _ hq
                have hz15 : w15.heap.size = w14.heap.size := by rw [← hw15]; simp [World.setCell]
                have HK15 : Hid (Kept [bm] w4 w15) := Lib.hid (by rw [← hw15]; exact HK14.out.setCell (.inl (by simp)) _)
                have HT15 := Lib.hid (HT14.out.of (w' := w15) (fun b h _ => hk15 b (by omega)))
                have HLV15 : Hid (LiesV (bm + 1) w15 CS (.mk tk tb ti tstr tl tks)) := Lib.hid ((HLV.out.step (by have := HGZ13.out; have := hgrow.size; omega) (fun q h1 h2 => by rw [hk15 q (by have := HB8.out.size; omega)]; exact HF14.out q h1 h2)).mono (by have := HB8.out.size; omega))
                have HNX := Lib.hid (RM.next (n' := an + 1) (key := key) (t := .mk tk tb ti tstr tl tks) HR4.out HBM.out HK15.out (by have := HAN.out; omega) (by rw [List.length_append, List.length_take, List.length_cons, List.length_drop, HAN.out]; omega) (ka' := k3) (kc' := c3) (la' := l3) (lc' := d3) (cs := CS) (p := p) (by have := hb15; (try rw [show p + 1 = an + 1 from by omega] at this); (try rw [show p + 1 = an + 1 from by omega] at this); exact this) (by have := HT15.out; (try rw [show p + 1 = an + 1 from by omega] at this); (try rw [show p + 1 = an + 1 from by omega] at this); exact this) HLV15.out HC6.out.1 HC6.out.2)
                have z4 := hb14.free 4
                have y4 := hb14.cell (i := 4) rfl
                have HW15 := Lib.hid hw15
                clear hown hown' hgrow hat hw15 hb14 hb15 hk15 hz15 z5 y5 x4
                go_wp2_with fail
                rw [HW15.out]
                go_roundw
                case rel => exact ⟨i + 1, acc.take p ++ (key, .mk tk tb ti tstr tl tks) :: acc.drop p, k3, c3, l3, d3, _, by go_num, by omega, by rw [List.length_append, List.length_take, List.length_cons, List.length_drop, HAN.out]; omega, Lib.hid ((insP_spec (p := (key, .mk tk tb ti tstr tl tks)) HA.out).1 _ (insP_yes HPK.out HNE.out)).1, Lib.hid (by rw [HREF.out, zip_drop HKEY.out HTT.out, refM_cons (insP_yes HPK.out HNE.out)]), HNX⟩
                case measure => simp [intOf] <;> omega
              · skip
                go_wp2_with (at_builtin; refine wpList_append_rows rfl _ _ 22 rfl w4.heap.size 9 iS _ 1 16 Try.underlying22 siS szS s1S s2S rfl (by decide) (.slice k2 (p + 1) c2) (p + 1) ((acc.map fun (x : KV) => Value.string x.1).take p ++ [.string key]) rfl (HT11.out.k) (Option.map (fun x => x.add p) ka) (0) (kc - p) (w4.heap.size) ([]) rfl (fun e => by cases ka with | none => have := HKZ.out rfl; omega | some x => cases e) (by simp) (.inl rfl) (fun u hu => by simp at hu) (by unfold maxLen; omega) (by omega) (HB11.out.size) ?_)
                intro k3 c3 w12 hown hgrow hat
                have hown' : w12.ownsRow w4.heap.size 9 1 (.slice k3 (p + 1) c3) (an + 1) ((acc.map fun (x : KV) => Value.string x.1).take p ++ [.string key] ++ (acc.map fun (x : KV) => Value.string x.1).drop p) := by
                  have e : an = p := by omega
                  have e2 : (acc.map fun (x : KV) => Value.string x.1).drop p = [] := List.drop_eq_nil_of_le (by rw [HKL.out]; omega)
                  rw [e2, List.append_nil, e]
                  exact hown
                have HT12 : Hid (TwoR w4.heap.size w12 (.slice k3 (p + 1) c3) (an + 1) ((acc.map fun (x : KV) => Value.string x.1).take p ++ [.string key] ++ (acc.map fun (x : KV) => Value.string x.1).drop p) (.slice l2 (p + 1) d2) (p + 1) (vl.take (p * 6) ++ CS)) := Lib.hid (HT11.out.growk hgrow hown' hat)
                have HB12 : Hid (Below w4.heap.size w4 w12) := Lib.hid (HB11.out.grown hgrow HB11.out.size (fun k e => (HT11.out.k.lt k e).1))
                have HF12 : Hid (∀ q, w8.heap.size ≤ q → q < w10.heap.size → w12.heap[q]? = w10.heap[q]?) := Lib.hid (fun q h1 h2 => by rw [hgrow.block q (by have := HGZ.out; omega) (fun e => by have := (HT8.out.k.lt q e.symm).2; omega)]; exact HF11.out q h1 h2)
                have HGZ12 : Hid (w10.heap.size ≤ w12.heap.size) := Lib.hid (by have := HGZ.out; have := hgrow.size; omega)
                clear hown hown' hgrow hat
                obtain ⟨w13, hw13⟩ : ∃ x, w12.setCell ⟨bm, 5, none⟩ (.slice k3 (p + 1) c3) = x := ⟨_, rfl⟩
                have hb12 := HBX4.out.below HB12.out HBX4.out.lt
                have hb13 : Block w13 bm [.int .i64 5, .bool false, .int .i64 0, .string ⟨#[]⟩, .slice la an p, .slice k3 (p + 1) c3] 26 := by rw [← hw13]; exact hb12.set 5 _
                have hk13 : ∀ q, q ≠ bm → w13.heap[q]? = w12.heap[q]? := fun q hq => by rw [← hw13]; exact Below.heap_setCell _ _ _ _ hq
                have hz13 : w13.heap.size = w12.heap.size := by rw [← hw13]; simp [World.setCell]
                have HT13 := Lib.hid (HT12.out.of (w' := w13) (fun b h _ => hk13 b (by omega)))
                have HK13 : Hid (Kept [bm] w4 w13) := Lib.hid (by rw [← hw13]; exact (Kept.of_below HB12.out).setCell (.inl (by simp)) _)
                have hz8 := HB8.out.size
                have HF13 : Hid (∀ q, w8.heap.size ≤ q → q < w10.heap.size → w13.heap[q]? = w10.heap[q]?) := Lib.hid (fun q h1 h2 => by rw [hk13 q (by omega)]; exact HF12.out q h1 h2)
                have HBX13 := Lib.hid hb13
                have HGZ13 : Hid (w10.heap.size ≤ w13.heap.size) := Lib.hid (by have := HGZ12.out; omega)
                have z5 := hb12.free 5
                have y5 := hb12.cell (i := 5) rfl
                have x4 := hb13.cell (i := 4) rfl
                have HL13 : Hid (Cells w4.heap.size w13 la vl) := Lib.hid (by
                  rcases HL4.out with h | ⟨b, off, h1, h2, h3⟩
                  · exact .inl h
                  · exact .inr ⟨b, off, h1, h2, fun i v hi => by rw [World.cell?_of_block (show w13.heap[b]? = w4.heap[b]? from HK13.out.block b h2 (by simp; exact HLB.out b off h1))]; exact h3 i v hi⟩)
                rw [← hw13] at x4
                have HW13 := Lib.hid hw13
                clear hw13 hb12 hb13 hk13 hz13 x5
                go_wp2_with (at_builtin; rw [HW13.out]; refine wpList_append_rows rfl _ _ 23 rfl w4.heap.size 26 iV _ 6 88 Try.underlying23 siV szV s1V s2V rfl (by decide) (.slice l2 (p + 1) d2) (p + 1) (vl.take (p * 6) ++ CS) rfl (HT13.out.l) (la) (0) (0) (w4.heap.size) ([]) rfl (fun _ => rfl) (by simp) (.inl rfl) (fun u hu => by simp at hu) (by unfold maxLen; omega) (by omega) (HK13.out.size) ?_)
                intro l3 d3 w14 hown hgrow hat
                have hown' : w14.ownsRow w4.heap.size 26 6 (.slice l3 (p + 1) d3) (an + 1) (vl.take (p * 6) ++ CS ++ vl.drop (p * 6)) := by
                  have e : an = p := by omega
                  have e2 : vl.drop (p * 6) = [] := List.drop_eq_nil_of_le (by rw [HVL.out]; omega)
                  rw [e2, List.append_nil, e]
                  exact hown
                have HT14 := Lib.hid (HT13.out.growl hgrow hown' hat)
                have HK14 : Hid (Kept [bm] w4 w14) := Lib.hid (HK13.out.grown hgrow (fun k e => .inr (HT13.out.l.lt k e).1))
                have HF14 : Hid (∀ q, w8.heap.size ≤ q → q < w10.heap.size → w14.heap[q]? = w10.heap[q]?) := Lib.hid (fun q h1 h2 => by
                  rw [hgrow.block q (by have := HGZ13.out; omega) (fun e => by
                    rcases HAT.out with h | h
                    · have := (HT8.out.l.lt q (h ▸ e.symm)).2; omega
                    · rw [h] at e; injection e with e; omega)]
                  exact HF13.out q h1 h2)
                have hb14 := HBX13.out.of_heap (hgrow.block bm HBX13.out.lt (fun e => by have := (HT13.out.l.lt bm e.symm).1; omega))
                obtain ⟨w15, hw15⟩ : ∃ x, w14.setCell ⟨bm, 4, none⟩ (.slice l3 (p + 1) d3) = x := ⟨_, rfl⟩
                have hb15 : Block w15 bm [.int .i64 5, .bool false, .int .i64 0, .string ⟨#[]⟩, .slice l3 (p + 1) d3, .slice k3 (p + 1) c3] 26 := by rw [← hw15]; exact hb14.set 4 _
                have hk15 : ∀ q, q ≠ bm → w15.heap[q]? = w14.heap[q]? := fun q hq => by rw [← hw15]; exact Below.heap_setCell _ _ _ _ hq
                have hz15 : w15.heap.size = w14.heap.size := by rw [← hw15]; simp [World.setCell]
                have HK15 : Hid (Kept [bm] w4 w15) := Lib.hid (by rw [← hw15]; exact HK14.out.setCell (.inl (by simp)) _)
                have HT15 := Lib.hid (HT14.out.of (w' := w15) (fun b h _ => hk15 b (by omega)))
                have HLV15 : Hid (LiesV (bm + 1) w15 CS (.mk tk tb ti tstr tl tks)) := Lib.hid ((HLV.out.step (by have := HGZ13.out; have := hgrow.size; omega) (fun q h1 h2 => by rw [hk15 q (by have := HB8.out.size; omega)]; exact HF14.out q h1 h2)).mono (by have := HB8.out.size; omega))
                have HNX := Lib.hid (RM.next (n' := an + 1) (key := key) (t := .mk tk tb ti tstr tl tks) HR4.out HBM.out HK15.out (by have := HAN.out; omega) (by rw [List.length_append, List.length_take, List.length_cons, List.length_drop, HAN.out]; omega) (ka' := k3) (kc' := c3) (la' := l3) (lc' := d3) (cs := CS) (p := p) (by have := hb15; (try rw [show p + 1 = an + 1 from by omega] at this); (try rw [show p + 1 = an + 1 from by omega] at this); exact this) (by have := HT15.out; (try rw [show p + 1 = an + 1 from by omega] at this); (try rw [show p + 1 = an + 1 from by omega] at this); exact this) HLV15.out HC6.out.1 HC6.out.2)
                have z4 := hb14.free 4
                have y4 := hb14.cell (i := 4) rfl
                have HW15 := Lib.hid hw15
                clear hown hown' hgrow hat hw15 hb14 hb15 hk15 hz15 z5 y5 x4
                go_wp2_with fail
                rw [HW15.out]
                go_roundw
                case rel => exact ⟨i + 1, acc.take p ++ (key, .mk tk tb ti tstr tl tks) :: acc.drop p, k3, c3, l3, d3, _, by go_num, by omega, by rw [List.length_append, List.length_take, List.length_cons, List.length_drop, HAN.out]; omega, Lib.hid ((insP_spec (p := (key, .mk tk tb ti tstr tl tks)) HA.out).1 _ (insP_yes HPK.out HNE.out)).1, Lib.hid (by rw [HREF.out, zip_drop HKEY.out HTT.out, refM_cons (insP_yes HPK.out HNE.out)]), HNX⟩
                case measure => simp [intOf] <;> omega
            · skip
              by_cases hkp : p = kc
              · skip
                subst hkp
                go_wp2_with (at_builtin; refine wpList_append_rows rfl _ _ 22 rfl w4.heap.size 9 iS _ 1 16 Try.underlying22 siS szS s1S s2S rfl (by decide) (.slice k2 (p + 1) c2) (p + 1) ((acc.map fun (x : KV) => Value.string x.1).take p ++ [.string key]) rfl (HT11.out.k) (ka) (0) (0) (w4.heap.size) ([]) rfl (fun _ => rfl) (by simp) (.inl rfl) (fun u hu => by simp at hu) (by unfold maxLen; omega) (by omega) (HB11.out.size) ?_)
                intro k3 c3 w12 hown hgrow hat
                have hown' : w12.ownsRow w4.heap.size 9 1 (.slice k3 (p + 1) c3) (an + 1) ((acc.map fun (x : KV) => Value.string x.1).take p ++ [.string key] ++ (acc.map fun (x : KV) => Value.string x.1).drop p) := by
                  have e : an = p := by omega
                  have e2 : (acc.map fun (x : KV) => Value.string x.1).drop p = [] := List.drop_eq_nil_of_le (by rw [HKL.out]; omega)
                  rw [e2, List.append_nil, e]
                  exact hown
                have HT12 : Hid (TwoR w4.heap.size w12 (.slice k3 (p + 1) c3) (an + 1) ((acc.map fun (x : KV) => Value.string x.1).take p ++ [.string key] ++ (acc.map fun (x : KV) => Value.string x.1).drop p) (.slice l2 (p + 1) d2) (p + 1) (vl.take (p * 6) ++ CS)) := Lib.hid (HT11.out.growk hgrow hown' hat)
                have HB12 : Hid (Below w4.heap.size w4 w12) := Lib.hid (HB11.out.grown hgrow HB11.out.size (fun k e => (HT11.out.k.lt k e).1))
                have HF12 : Hid (∀ q, w8.heap.size ≤ q → q < w10.heap.size → w12.heap[q]? = w10.heap[q]?) := Lib.hid (fun q h1 h2 => by rw [hgrow.block q (by have := HGZ.out; omega) (fun e => by have := (HT8.out.k.lt q e.symm).2; omega)]; exact HF11.out q h1 h2)
                have HGZ12 : Hid (w10.heap.size ≤ w12.heap.size) := Lib.hid (by have := HGZ.out; have := hgrow.size; omega)
                clear hown hown' hgrow hat
                obtain ⟨w13, hw13⟩ : ∃ x, w12.setCell ⟨bm, 5, none⟩ (.slice k3 (p + 1) c3) = x := ⟨_, rfl⟩
                have hb12 := HBX4.out.below HB12.out HBX4.out.lt
                have hb13 : Block w13 bm [.int .i64 5, .bool false, .int .i64 0, .string ⟨#[]⟩, .slice la an lc, .slice k3 (p + 1) c3] 26 := by rw [← hw13]; exact hb12.set 5 _
                have hk13 : ∀ q, q ≠ bm → w13.heap[q]? = w12.heap[q]? := fun q hq => by rw [← hw13]; exact Below.heap_setCell _ _ _ _ hq
                have hz13 : w13.heap.size = w12.heap.size := by rw [← hw13]; simp [World.setCell]
                have HT13 := Lib.hid (HT12.out.of (w' := w13) (fun b h _ => hk13 b (by omega)))
                have HK13 : Hid (Kept [bm] w4 w13) := Lib.hid (by rw [← hw13]; exact (Kept.of_below HB12.out).setCell (.inl (by simp)) _)
                have hz8 := HB8.out.size
                have HF13 : Hid (∀ q, w8.heap.size ≤ q → q < w10.heap.size → w13.heap[q]? = w10.heap[q]?) := Lib.hid (fun q h1 h2 => by rw [hk13 q (by omega)]; exact HF12.out q h1 h2)
                have HBX13 := Lib.hid hb13
                have HGZ13 : Hid (w10.heap.size ≤ w13.heap.size) := Lib.hid (by have := HGZ12.out; omega)
                have z5 := hb12.free 5
                have y5 := hb12.cell (i := 5) rfl
                have x4 := hb13.cell (i := 4) rfl
                have HL13 : Hid (Cells w4.heap.size w13 la vl) := Lib.hid (by
                  rcases HL4.out with h | ⟨b, off, h1, h2, h3⟩
                  · exact .inl h
                  · exact .inr ⟨b, off, h1, h2, fun i v hi => by rw [World.cell?_of_block (show w13.heap[b]? = w4.heap[b]? from HK13.out.block b h2 (by simp; exact HLB.out b off h1))]; exact h3 i v hi⟩)
                rw [← hw13] at x4
                have HW13 := Lib.hid hw13
                clear hw13 hb12 hb13 hk13 hz13 x5
                go_wp2_with (at_builtin; rw [HW13.out]; refine wpList_append_rows rfl _ _ 23 rfl w4.heap.size 26 iV _ 6 88 Try.underlying23 siV szV s1V s2V rfl (by decide) (.slice l2 (p + 1) d2) (p + 1) (vl.take (p * 6) ++ CS) rfl (HT13.out.l) (Option.map (fun x => x.add (p * 6)) la) (0) (lc - p) (w4.heap.size) ([]) rfl (fun e => by cases la with | none => have := HLZ.out rfl; omega | some x => cases e) (by simp) (.inl rfl) (fun u hu => by simp at hu) (by unfold maxLen; omega) (by omega) (HK13.out.size) ?_)
                intro l3 d3 w14 hown hgrow hat
                have hown' : w14.ownsRow w4.heap.size 26 6 (.slice l3 (p + 1) d3) (an + 1) (vl.take (p * 6) ++ CS ++ vl.drop (p * 6)) := by
                  have e : an = p := by omega
                  have e2 : vl.drop (p * 6) = [] := List.drop_eq_nil_of_le (by rw [HVL.out]; omega)
                  rw [e2, List.append_nil, e]
                  exact hown
                have HT14 := Lib.hid (HT13.out.growl hgrow hown' hat)
                have HK14 : Hid (Kept [bm] w4 w14) := Lib.hid (HK13.out.grown hgrow (fun k e => .inr (HT13.out.l.lt k e).1))
                have HF14 : Hid (∀ q, w8.heap.size ≤ q → q < w10.heap.size → w14.heap[q]? = w10.heap[q]?) := Lib.hid (fun q h1 h2 => by
                  rw [hgrow.block q (by have := HGZ13.out; omega) (fun e => by
                    rcases HAT.out with h | h
                    · have := (HT8.out.l.lt q (h ▸ e.symm)).2; omega
                    · rw [h] at e; injection e with e; omega)]
                  exact HF13.out q h1 h2)
                have hb14 := HBX13.out.of_heap (hgrow.block bm HBX13.out.lt (fun e => by have := (HT13.out.l.lt bm e.symm).1; omega))
                obtain ⟨w15, hw15⟩ : ∃ x, w14.setCell ⟨bm, 4, none⟩ (.slice l3 (p + 1) d3) = x := ⟨_, rfl⟩
                have hb15 : Block w15 bm [.int .i64 5, .bool false, .int .i64 0, .string ⟨#[]⟩, .slice l3 (p + 1) d3, .slice k3 (p + 1) c3] 26 := by rw [← hw15]; exact hb14.set 4 _
                have hk15 : ∀ q, q ≠ bm → w15.heap[q]? = w14.heap[q]? := fun q hq => by rw [← hw15]; exact Below.heap_setCell _ _ _ _ hq
                have hz15 : w15.heap.size = w14.heap.size := by rw [← hw15]; simp [World.setCell]
                have HK15 : Hid (Kept [bm] w4 w15) := Lib.hid (by rw [← hw15]; exact HK14.out.setCell (.inl (by simp)) _)
                have HT15 := Lib.hid (HT14.out.of (w' := w15) (fun b h _ => hk15 b (by omega)))
                have HLV15 : Hid (LiesV (bm + 1) w15 CS (.mk tk tb ti tstr tl tks)) := Lib.hid ((HLV.out.step (by have := HGZ13.out; have := hgrow.size; omega) (fun q h1 h2 => by rw [hk15 q (by have := HB8.out.size; omega)]; exact HF14.out q h1 h2)).mono (by have := HB8.out.size; omega))
                have HNX := Lib.hid (RM.next (n' := an + 1) (key := key) (t := .mk tk tb ti tstr tl tks) HR4.out HBM.out HK15.out (by have := HAN.out; omega) (by rw [List.length_append, List.length_take, List.length_cons, List.length_drop, HAN.out]; omega) (ka' := k3) (kc' := c3) (la' := l3) (lc' := d3) (cs := CS) (p := p) (by have := hb15; (try rw [show p + 1 = an + 1 from by omega] at this); (try rw [show p + 1 = an + 1 from by omega] at this); exact this) (by have := HT15.out; (try rw [show p + 1 = an + 1 from by omega] at this); (try rw [show p + 1 = an + 1 from by omega] at this); exact this) HLV15.out HC6.out.1 HC6.out.2)
                have z4 := hb14.free 4
                have y4 := hb14.cell (i := 4) rfl
                have HW15 := Lib.hid hw15
                clear hown hown' hgrow hat hw15 hb14 hb15 hk15 hz15 z5 y5 x4
                go_wp2_with fail
                rw [HW15.out]
                go_roundw
                case rel => exact ⟨i + 1, acc.take p ++ (key, .mk tk tb ti tstr tl tks) :: acc.drop p, k3, c3, l3, d3, _, by go_num, by omega, by rw [List.length_append, List.length_take, List.length_cons, List.length_drop, HAN.out]; omega, Lib.hid ((insP_spec (p := (key, .mk tk tb ti tstr tl tks)) HA.out).1 _ (insP_yes HPK.out HNE.out)).1, Lib.hid (by rw [HREF.out, zip_drop HKEY.out HTT.out, refM_cons (insP_yes HPK.out HNE.out)]), HNX⟩
                case measure => simp [intOf] <;> omega
              · skip
                go_wp2_with (at_builtin; refine wpList_append_rows rfl _ _ 22 rfl w4.heap.size 9 iS _ 1 16 Try.underlying22 siS szS s1S s2S rfl (by decide) (.slice k2 (p + 1) c2) (p + 1) ((acc.map fun (x : KV) => Value.string x.1).take p ++ [.string key]) rfl (HT11.out.k) (Option.map (fun x => x.add p) ka) (an - p) (kc - p) (w4.heap.size) ((acc.map fun (x : KV) => Value.string x.1).drop p) rfl (fun e => by cases ka with | none => have := HKZ.out rfl; omega | some x => cases e) (by rw [List.length_drop, HKL.out]; omega) ((HK4.out.below HB11.out (Nat.le_refl _)).dropN p) (fun u hu => HK1.out u (List.mem_of_mem_drop hu)) (by unfold maxLen; omega) (by omega) (HB11.out.size) ?_)
                intro k3 c3 w12 hown hgrow hat
                have hown' : w12.ownsRow w4.heap.size 9 1 (.slice k3 (p + 1 + (an - p)) c3) (an + 1) ((acc.map fun (x : KV) => Value.string x.1).take p ++ [.string key] ++ (acc.map fun (x : KV) => Value.string x.1).drop p) := by
                  have e : an + 1 = p + 1 + (an - p) := by omega
                  rw [e]
                  simpa only [List.append_assoc, List.cons_append, List.nil_append] using hown
                have HT12 : Hid (TwoR w4.heap.size w12 (.slice k3 (p + 1 + (an - p)) c3) (an + 1) ((acc.map fun (x : KV) => Value.string x.1).take p ++ [.string key] ++ (acc.map fun (x : KV) => Value.string x.1).drop p) (.slice l2 (p + 1) d2) (p + 1) (vl.take (p * 6) ++ CS)) := Lib.hid (HT11.out.growk hgrow hown' hat)
                have HB12 : Hid (Below w4.heap.size w4 w12) := Lib.hid (HB11.out.grown hgrow HB11.out.size (fun k e => (HT11.out.k.lt k e).1))
                have HF12 : Hid (∀ q, w8.heap.size ≤ q → q < w10.heap.size → w12.heap[q]? = w10.heap[q]?) := Lib.hid (fun q h1 h2 => by rw [hgrow.block q (by have := HGZ.out; omega) (fun e => by have := (HT8.out.k.lt q e.symm).2; omega)]; exact HF11.out q h1 h2)
                have HGZ12 : Hid (w10.heap.size ≤ w12.heap.size) := Lib.hid (by have := HGZ.out; have := hgrow.size; omega)
                clear hown hown' hgrow hat
                obtain ⟨w13, hw13⟩ : ∃ x, w12.setCell ⟨bm, 5, none⟩ (.slice k3 (p + 1 + (an - p)) c3) = x := ⟨_, rfl⟩
                have hb12 := HBX4.out.below HB12.out HBX4.out.lt
                have hb13 : Block w13 bm [.int .i64 5, .bool false, .int .i64 0, .string ⟨#[]⟩, .slice la an lc, .slice k3 (p + 1 + (an - p)) c3] 26 := by rw [← hw13]; exact hb12.set 5 _
                have hk13 : ∀ q, q ≠ bm → w13.heap[q]? = w12.heap[q]? := fun q hq => by rw [← hw13]; exact Below.heap_setCell _ _ _ _ hq
                have hz13 : w13.heap.size = w12.heap.size := by rw [← hw13]; simp [World.setCell]
                have HT13 := Lib.hid (HT12.out.of (w' := w13) (fun b h _ => hk13 b (by omega)))
                have HK13 : Hid (Kept [bm] w4 w13) := Lib.hid (by rw [← hw13]; exact (Kept.of_below HB12.out).setCell (.inl (by simp)) _)
                have hz8 := HB8.out.size
                have HF13 : Hid (∀ q, w8.heap.size ≤ q → q < w10.heap.size → w13.heap[q]? = w10.heap[q]?) := Lib.hid (fun q h1 h2 => by rw [hk13 q (by omega)]; exact HF12.out q h1 h2)
                have HBX13 := Lib.hid hb13
                have HGZ13 : Hid (w10.heap.size ≤ w13.heap.size) := Lib.hid (by have := HGZ12.out; omega)
                have z5 := hb12.free 5
                have y5 := hb12.cell (i := 5) rfl
                have x4 := hb13.cell (i := 4) rfl
                have HL13 : Hid (Cells w4.heap.size w13 la vl) := Lib.hid (by
                  rcases HL4.out with h | ⟨b, off, h1, h2, h3⟩
                  · exact .inl h
                  · exact .inr ⟨b, off, h1, h2, fun i v hi => by rw [World.cell?_of_block (show w13.heap[b]? = w4.heap[b]? from HK13.out.block b h2 (by simp; exact HLB.out b off h1))]; exact h3 i v hi⟩)
                rw [← hw13] at x4
                have HW13 := Lib.hid hw13
                clear hw13 hb12 hb13 hk13 hz13 x5
                go_wp2_with (at_builtin; rw [HW13.out]; refine wpList_append_rows rfl _ _ 23 rfl w4.heap.size 26 iV _ 6 88 Try.underlying23 siV szV s1V s2V rfl (by decide) (.slice l2 (p + 1) d2) (p + 1) (vl.take (p * 6) ++ CS) rfl (HT13.out.l) (Option.map (fun x => x.add (p * 6)) la) (an - p) (lc - p) (w4.heap.size) (vl.drop (p * 6)) rfl (fun e => by cases la with | none => have := HLZ.out rfl; omega | some x => cases e) (by rw [List.length_drop, HVL.out, ← Nat.sub_mul]) (HL13.out.dropN (p * 6)) (fun u hu => HV1.out u (List.mem_of_mem_drop hu)) (by unfold maxLen; omega) (by omega) (HK13.out.size) ?_)
                intro l3 d3 w14 hown hgrow hat
                have hown' : w14.ownsRow w4.heap.size 26 6 (.slice l3 (p + 1 + (an - p)) d3) (an + 1) (vl.take (p * 6) ++ CS ++ vl.drop (p * 6)) := by
                  have e : an + 1 = p + 1 + (an - p) := by omega
                  rw [e]
                  simpa only [List.append_assoc, List.cons_append, List.nil_append] using hown
                have HT14 := Lib.hid (HT13.out.growl hgrow hown' hat)
                have HK14 : Hid (Kept [bm] w4 w14) := Lib.hid (HK13.out.grown hgrow (fun k e => .inr (HT13.out.l.lt k e).1))
                have HF14 : Hid (∀ q, w8.heap.size ≤ q → q < w10.heap.size → w14.heap[q]? = w10.heap[q]?) := Lib.hid (fun q h1 h2 => by
                  rw [hgrow.block q (by have := HGZ13.out; omega) (fun e => by
                    rcases HAT.out with h | h
                    · have := (HT8.out.l.lt q (h ▸ e.symm)).2; omega
                    · rw [h] at e; injection e with e; omega)]
                  exact HF13.out q h1 h2)
                have hb14 := HBX13.out.of_heap (hgrow.block bm HBX13.out.lt (fun e => by have := (HT13.out.l.lt bm e.symm).1; omega))
                obtain ⟨w15, hw15⟩ : ∃ x, w14.setCell ⟨bm, 4, none⟩ (.slice l3 (p + 1 + (an - p)) d3) = x := ⟨_, rfl⟩
                have hb15 : Block w15 bm [.int .i64 5, .bool false, .int .i64 0, .string ⟨#[]⟩, .slice l3 (p + 1 + (an - p)) d3, .slice k3 (p + 1 + (an - p)) c3] 26 := by rw [← hw15]; exact hb14.set 4 _
                have hk15 : ∀ q, q ≠ bm → w15.heap[q]? = w14.heap[q]? := fun q hq => by rw [← hw15]; exact Below.heap_setCell _ _ _ _ hq
                have hz15 : w15.heap.size = w14.heap.size := by rw [← hw15]; simp [World.setCell]
                have HK15 : Hid (Kept [bm] w4 w15) := Lib.hid (by rw [← hw15]; exact HK14.out.setCell (.inl (by simp)) _)
                have HT15 := Lib.hid (HT14.out.of (w' := w15) (fun b h _ => hk15 b (by omega)))
                have HLV15 : Hid (LiesV (bm + 1) w15 CS (.mk tk tb ti tstr tl tks)) := Lib.hid ((HLV.out.step (by have := HGZ13.out; have := hgrow.size; omega) (fun q h1 h2 => by rw [hk15 q (by have := HB8.out.size; omega)]; exact HF14.out q h1 h2)).mono (by have := HB8.out.size; omega))
                have HNX := Lib.hid (RM.next (n' := an + 1) (key := key) (t := .mk tk tb ti tstr tl tks) HR4.out HBM.out HK15.out (by have := HAN.out; omega) (by rw [List.length_append, List.length_take, List.length_cons, List.length_drop, HAN.out]; omega) (ka' := k3) (kc' := c3) (la' := l3) (lc' := d3) (cs := CS) (p := p) (by have := hb15; (try rw [show p + 1 + (an - p) = an + 1 from by omega] at this); (try rw [show p + 1 + (an - p) = an + 1 from by omega] at this); exact this) (by have := HT15.out; (try rw [show p + 1 + (an - p) = an + 1 from by omega] at this); (try rw [show p + 1 + (an - p) = an + 1 from by omega] at this); exact this) HLV15.out HC6.out.1 HC6.out.2)
                have z4 := hb14.free 4
                have y4 := hb14.cell (i := 4) rfl
                have HW15 := Lib.hid hw15
                clear hown hown' hgrow hat hw15 hb14 hb15 hk15 hz15 z5 y5 x4
                go_wp2_with fail
                rw [HW15.out]
                go_roundw
                case rel => exact ⟨i + 1, acc.take p ++ (key, .mk tk tb ti tstr tl tks) :: acc.drop p, k3, c3, l3, d3, _, by go_num, by omega, by rw [List.length_append, List.length_take, List.length_cons, List.length_drop, HAN.out]; omega, Lib.hid ((insP_spec (p := (key, .mk tk tb ti tstr tl tks)) HA.out).1 _ (insP_yes HPK.out HNE.out)).1, Lib.hid (by rw [HREF.out, zip_drop HKEY.out HTT.out, refM_cons (insP_yes HPK.out HNE.out)]), HNX⟩
                case measure => simp [intOf] <;> omega
      · skip
        have hge : ¬ (i : Int) < n := by omega
        have HFIN : Hid (refM [] (ks.zip ts) = some acc) := Lib.hid (by rw [HREF.out, List.drop_eq_nil_of_le (by rw [List.length_zip, HN.out, HM.out]; omega)]; rfl)
        have HLI := Lib.hid (HR.out.lies.isV)
        have HMAY := Lib.hid (May_any _ _ wr.heap.size wr HLI.out (Nat.le_refl _))
        have HWTA : Hid (wtV (.mk 5 false 0 ⟨#[]⟩ (acc.map (·.2)) (acc.map (·.1))) ≤ 1048576) := Lib.hid (zip_wt (by rw [HN.out, HM.out]) HFIN.out HWT.out)
        have x0 := HR.out.box.cell (i := 0) rfl
        have x1 := HR.out.box.cell (i := 1) rfl
        have x2 := HR.out.box.cell (i := 2) rfl
        have x3 := HR.out.box.cell (i := 3) rfl
        have x4 := HR.out.box.cell (i := 4) rfl
        have x5 := HR.out.box.cell (i := 5) rfl
        obtain ⟨an, han⟩ : ∃ n, acc.length = n := ⟨_, rfl⟩
        rw [han] at hacc x5 x4
        have HAN := Lib.hid han
        clear han
        rw [HAN.out] at HMAY
        go_wp2_with fail
        refine HMAY.out.mono ?_
        rintro e w2 ⟨rfl, hbm2⟩
        have HB2 := Lib.hid hbm2
        have hbb : Below w.heap.size w w2 := HR.out.bel.trans (hbm2.mono HR.out.bel.size)
        have HBB := Lib.hid hbb
        have HRS2 := Lib.hid (HR.out.res.below hbm2 HR.out.res.lt)
        clear hbm2 hbb
        obtain ⟨mr, hmr⟩ : ∃ r, mayB (.mk 5 false 0 ⟨#[]⟩ (acc.map (·.2)) (acc.map (·.1))) = r := ⟨_, rfl⟩
        rw [hmr]
        have HMR := Lib.hid hmr
        clear hmr
        cases mr with
        | false =>
          have HM0 : Hid (mapR ks ts = none) := Lib.hid (by unfold mapR; rw [if_pos (by rw [HN.out, HM.out]), HFIN.out]; exact if_neg (by rw [HMR.out]; simp))
          clear x0 x1 x2 x3 x4 x5
          go_upto_region 21 with fail
          have hbr : Block w2 w.heap.size [.int .i64 0, .bool false, .int .i64 0, .string ⟨#[]⟩, .slice none 0 0, .slice none 0 0] 26 := HRS2.out
          have HT9 : Hid (w2.there w.heap.size 0 6) := Lib.hid (there6 hbr (by simp))
          obtain ⟨we, hwe⟩ : ∃ we, w2.setCells w.heap.size 0 (#[.int .i64 0, .bool false, .int .i64 0, .string ⟨#[]⟩, .slice none 0 0, .slice none 0 0] : Array Value).toList = we := ⟨_, rfl⟩
          have hbe : Block we w.heap.size [.int .i64 0, .bool false, .int .i64 0, .string ⟨#[]⟩, .slice none 0 0, .slice none 0 0] 26 := by rw [← hwe]; exact hbr.set6 0 _ _ _ _ _ _
          have q0 : we.cell? ⟨w.heap.size, 0, none⟩ = some (.int .i64 0) := hbe.cell rfl
          have q1 : we.cell? ⟨w.heap.size, 1, none⟩ = some (.bool false) := hbe.cell rfl
          have q2 : we.cell? ⟨w.heap.size, 2, none⟩ = some (.int .i64 0) := hbe.cell rfl
          have q3 : we.cell? ⟨w.heap.size, 3, none⟩ = some (.string ⟨#[]⟩) := hbe.cell rfl
          have q4 : we.cell? ⟨w.heap.size, 4, none⟩ = some (.slice none 0 0) := hbe.cell rfl
          have q5 : we.cell? ⟨w.heap.size, 5, none⟩ = some (.slice none 0 0) := hbe.cell rfl
          have HBE : Hid (Below w.heap.size w we) := Lib.hid (by rw [← hwe]; exact set6_below HBB.out w.heap.size 0 (Nat.le_refl _) _ _ _ _ _ _)
          have HWE := Lib.hid hwe
          clear hbr hbe hwe
          go_wp2_with (refine wpList_store_mid rfl 26 _ _ rfl w.heap.size 0 #[.int .i64 0, .bool false, .int .i64 0, .string ⟨#[]⟩, .slice none 0 0, .slice none 0 0] rfl rfl HT9.out (by kernel_rfl) (by simp [Value.oneCell']) ?_; rw [HWE.out])
          refine bodyPost_ret (by simp [results, Try.results12, go_sem, q0, q1, q2, q3, q4, q5]; rfl) rfl ?_
          rw [← HQ.out, HM0.out]; exact ⟨HBE.out, rfl⟩
        | true =>
          have HM0 : Hid (mapR ks ts = some (.mk 5 false 0 ⟨#[]⟩ (acc.map (·.2)) (acc.map (·.1)))) := Lib.hid (by unfold mapR; rw [if_pos (by rw [HN.out, HM.out]), HFIN.out]; exact if_pos HMR.out)
          have HBM2 := Lib.hid (HR.out.box.below HB2.out HR.out.box.lt)
          have x0 := HBM2.out.cell (i := 0) rfl
          have x1 := HBM2.out.cell (i := 1) rfl
          have x2 := HBM2.out.cell (i := 2) rfl
          have x3 := HBM2.out.cell (i := 3) rfl
          have x4 := HBM2.out.cell (i := 4) rfl
          have x5 := HBM2.out.cell (i := 5) rfl
          rw [HAN.out] at x4 x5
          go_upto_region 22 with fail
          have hbr : Block w2 w.heap.size [.int .i64 0, .bool false, .int .i64 0, .string ⟨#[]⟩, .slice none 0 0, .slice none 0 0] 26 := HRS2.out
          have HT9 : Hid (w2.there w.heap.size 0 6) := Lib.hid (there6 hbr (by simp))
          obtain ⟨we, hwe⟩ : ∃ we, w2.setCells w.heap.size 0 (#[.int .i64 5, .bool false, .int .i64 0, .string ⟨#[]⟩, .slice la an lc, .slice ka an kc] : Array Value).toList = we := ⟨_, rfl⟩
          have hbe : Block we w.heap.size [.int .i64 5, .bool false, .int .i64 0, .string ⟨#[]⟩, .slice la an lc, .slice ka an kc] 26 := by rw [← hwe]; exact hbr.set6 0 _ _ _ _ _ _
          have q0 : we.cell? ⟨w.heap.size, 0, none⟩ = some (.int .i64 5) := hbe.cell rfl
          have q1 : we.cell? ⟨w.heap.size, 1, none⟩ = some (.bool false) := hbe.cell rfl
          have q2 : we.cell? ⟨w.heap.size, 2, none⟩ = some (.int .i64 0) := hbe.cell rfl
          have q3 : we.cell? ⟨w.heap.size, 3, none⟩ = some (.string ⟨#[]⟩) := hbe.cell rfl
          have q4 : we.cell? ⟨w.heap.size, 4, none⟩ = some (.slice la an lc) := hbe.cell rfl
          have q5 : we.cell? ⟨w.heap.size, 5, none⟩ = some (.slice ka an kc) := hbe.cell rfl
          have HBE : Hid (Below w.heap.size w we) := Lib.hid (by rw [← hwe]; exact set6_below HBB.out w.heap.size 0 (Nat.le_refl _) _ _ _ _ _ _)
          have HWE := Lib.hid hwe
          clear hbr hbe
          go_wp2_with (refine wpList_store_mid rfl 26 _ _ rfl w.heap.size 0 #[.int .i64 5, .bool false, .int .i64 0, .string ⟨#[]⟩, .slice la an lc, .slice ka an kc] rfl rfl HT9.out (by kernel_rfl) (by simp [Value.oneCell']) ?_; rw [HWE.out])
          refine bodyPost_ret (by simp [results, Try.results12, go_sem, q0, q1, q2, q3, q4, q5]; rfl) rfl ?_
          rw [← HQ.out, HM0.out]; exact ⟨HBE.out, _, rfl, lies_end HR.out HAN.out HBM.out HB2.out HWE.out⟩
  · skip
    have hne' : ((n : Int) != m) = true := by simp; omega
    have HM0 : Hid (mapR ks ts = none) := Lib.hid (by unfold mapR; rw [if_neg (by rw [HN.out, HM.out]; exact hnm')])
    go_enter Try.func12, Try.ntmps12
    go_upto_region 2 with fail
    rw [HW0.out]
    have hbr : Block W0 w.heap.size [.int .i64 0, .bool false, .int .i64 0, .string ⟨#[]⟩, .slice none 0 0, .slice none 0 0] 26 := HR0.out
    have HT9 : Hid (W0.there w.heap.size 0 6) := Lib.hid (there6 hbr (by simp))
    obtain ⟨we, hwe⟩ : ∃ we, W0.setCells w.heap.size 0 (#[.int .i64 0, .bool false, .int .i64 0, .string ⟨#[]⟩, .slice none 0 0, .slice none 0 0] : Array Value).toList = we := ⟨_, rfl⟩
    have hbe : Block we w.heap.size [.int .i64 0, .bool false, .int .i64 0, .string ⟨#[]⟩, .slice none 0 0, .slice none 0 0] 26 := by rw [← hwe]; exact hbr.set6 0 _ _ _ _ _ _
    have q0 : we.cell? ⟨w.heap.size, 0, none⟩ = some (.int .i64 0) := hbe.cell rfl
    have q1 : we.cell? ⟨w.heap.size, 1, none⟩ = some (.bool false) := hbe.cell rfl
    have q2 : we.cell? ⟨w.heap.size, 2, none⟩ = some (.int .i64 0) := hbe.cell rfl
    have q3 : we.cell? ⟨w.heap.size, 3, none⟩ = some (.string ⟨#[]⟩) := hbe.cell rfl
    have q4 : we.cell? ⟨w.heap.size, 4, none⟩ = some (.slice none 0 0) := hbe.cell rfl
    have q5 : we.cell? ⟨w.heap.size, 5, none⟩ = some (.slice none 0 0) := hbe.cell rfl
    have HBE : Hid (Below w.heap.size w we) := Lib.hid (by rw [← hwe]; exact set6_below HB0.out w.heap.size 0 (Nat.le_refl _) _ _ _ _ _ _)
    have HWE := Lib.hid hwe
    clear hbr hbe hwe
    go_wp2_with (refine wpList_store_mid rfl 26 _ _ rfl w.heap.size 0 #[.int .i64 0, .bool false, .int .i64 0, .string ⟨#[]⟩, .slice none 0 0, .slice none 0 0] rfl rfl HT9.out (by kernel_rfl) (by simp [Value.oneCell']) ?_; rw [HWE.out])
    refine bodyPost_ret (by simp [results, Try.results12, go_sem, q0, q1, q2, q3, q4, q5]; rfl) rfl ?_
    rw [← HQ.out, HM0.out]; exact ⟨HBE.out, rfl⟩
end Go.Proofs.Ytdkgjbjlpofieaa
