/- append of cells that lie anywhere to a row that the call owns, and where the new row lies. Conditions: none. -/
import Derived.Test.YtdkgjbjlpofieaaBase
import Derived.Deep.AppendLies
import Derived.Laws.AppendOwnNone
import Derived.Deep.RegionLaw
import Derived.Outline
namespace Go.Proofs.Ytdkgjbjlpofieaa
open Go.RowKit

/-- v is a row of the call's own, in a block from base on, with these cells. -/
def OwnRow (w : World) (base : Nat) (e : TypeId) (size : Nat) (v : Value) (n : Nat) (xs : List Value) : Prop :=
  w.ownsRow base e size v n xs ∧ ∃ a cap, v = .slice a n cap
theorem own_form {w : World} {base : Nat} {e : TypeId} {size : Nat} {v : Value} {n : Nat} {xs : List Value} (h : w.ownsRow base e size v n xs) : ∃ a cap, v = .slice a n cap := by
  rcases h.2 with ⟨h1, rfl⟩ | ⟨g, cap, cur, h1, _⟩
  · exact ⟨_, _, h1⟩
  · exact ⟨_, _, h1⟩
theorem own_cells_of {base : Nat} {w : World} {e : TypeId} {size : Nat} {a : Option Addr} {n cap : Nat} {xs : List Value} (h : w.ownsRow base e size (.slice a n cap) n xs) : Cells w.heap.size w a xs := by
  have hh := h
  obtain ⟨hl, h1⟩ := h
  rcases h1 with ⟨h2, h3⟩ | ⟨g, c, cur, h2, hg, hh1, hn, hm, hs, ht⟩
  · subst h3; exact .inl (by simpa using hl)
  · injection h2 with e1 e2 e3; subst e1
    refine .inr ⟨g, 0, rfl, (Array.getElem?_eq_some_iff.1 hh1).1, fun i v hi => ?_⟩
    have := World.ownsRow.cells hh (g := g) rfl i v hi
    simpa [addr_add] using this
theorem own_capz {base : Nat} {w : World} {e : TypeId} {size : Nat} {a : Option Addr} {n cap : Nat} {xs : List Value} (h : w.ownsRow base e size (.slice a n cap) n xs) : a = none → cap = 0 := by
  rintro rfl
  rcases h.2 with ⟨h2, h3⟩ | ⟨g, c, cur, h2, _⟩
  · injection h2
  · cases h2
theorem own_cap {base : Nat} {w : World} {e : TypeId} {size : Nat} {a : Option Addr} {n cap : Nat} {xs : List Value} (h : w.ownsRow base e size (.slice a n cap) n xs) : n ≤ cap ∧ cap ≤ maxLen := by
  rcases h.2 with ⟨h2, h3⟩ | ⟨g, c, cur, h2, hg, hh1, hn, hm, hs, ht⟩
  · injection h2 with _ _ h4; subst h3 h4; exact ⟨Nat.le_refl _, Nat.zero_le _⟩
  · injection h2 with _ _ h4; subst h4; exact ⟨hn, hm⟩
theorem own_mono {w : World} {B B' : Nat} {e : TypeId} {size : Nat} {v : Value} {n : Nat} {xs : List Value} (h : w.ownsRow B e size v n xs) (hb : B' ≤ B) : w.ownsRow B' e size v n xs := by
  obtain ⟨h1, h2⟩ := h
  refine ⟨h1, ?_⟩
  rcases h2 with h2 | ⟨g, c, cur, h3, h4, h5⟩
  · exact .inl h2
  · exact .inr ⟨g, c, cur, h3, Nat.le_trans hb h4, h5⟩
theorem own_raise {w : World} {B B' : Nat} {e : TypeId} {size : Nat} {v : Value} {n : Nat} {xs : List Value} (h : w.ownsRow B e size v n xs) (hb : ∀ k, v.ownBlock = some k → B' ≤ k) : w.ownsRow B' e size v n xs := by
  obtain ⟨h1, h2⟩ := h
  refine ⟨h1, ?_⟩
  rcases h2 with h2 | ⟨g, c, cur, h3, h4, h5⟩
  · exact .inl h2
  · exact .inr ⟨g, c, cur, h3, hb g (by rw [h3]; rfl), h5⟩
theorem own_of_heap {w w' : World} {B : Nat} {e : TypeId} {size : Nat} {v : Value} {n : Nat} {xs : List Value} (h : w.ownsRow B e size v n xs) (hh : ∀ k, v.ownBlock = some k → w'.heap[k]? = w.heap[k]?) : w'.ownsRow B e size v n xs := by
  obtain ⟨h1, h2⟩ := h
  refine ⟨h1, ?_⟩
  rcases h2 with h2 | ⟨g, c, cur, h3, h4, h5, h6⟩
  · exact .inl h2
  · exact .inr ⟨g, c, cur, h3, h4, (hh g (by rw [h3]; rfl)).trans h5, h6⟩
theorem own_setCell {w : World} {base : Nat} {e : TypeId} {size : Nat} {v : Value} {n : Nat} {xs : List Value} (h : w.ownsRow base e size v n xs) {a : Addr} (hne : v.ownBlock ≠ some a.block) (u : Value) : (w.setCell a u).ownsRow base e size v n xs :=
  own_of_heap h fun k hk => Below.heap_setCell _ _ _ _ (fun e => hne (by rw [hk, e]))
theorem Cells.alloc' {B : Nat} {w : World} {a : Option Addr} {vs : List Value} (h : Cells B w a vs) (o : Obj) : Cells B (w.alloc o) a vs := by
  rcases h with h | ⟨b, off, h1, h2, h3⟩
  · exact .inl h
  · refine .inr ⟨b, off, h1, h2, fun i v hi => ?_⟩
    have := h3 i v hi
    rw [World.cell?_of_block (Below.heap_alloc w o _ (World.block_lt_of_cell? w _ this))]; exact this
theorem Cells.take {B : Nat} {w : World} {a : Option Addr} {vs : List Value} (h : Cells B w a vs) (n : Nat) : Cells B w a (vs.take n) := by
  rcases h with h | ⟨b, off, h1, h2, h3⟩
  · exact .inl (by simp [h])
  · refine .inr ⟨b, off, h1, h2, fun i v hi => h3 i v ?_⟩
    rw [List.getElem?_take] at hi; split at hi
    · exact hi
    · cases hi
theorem Cells.drop {B : Nat} {w : World} {b off : Nat} {vs : List Value} (h : Cells B w (some ⟨b, off, none⟩) vs) (n : Nat) : Cells B w (some ⟨b, off + n, none⟩) (vs.drop n) := by
  rcases h with h | ⟨b', off', h1, h2, h3⟩
  · exact .inl (by simp [h])
  · injection h1 with h1; injection h1 with e1 e2; subst e1 e2
    refine .inr ⟨_, _, rfl, h2, fun i v hi => ?_⟩
    rw [List.getElem?_drop] at hi
    rw [Nat.add_assoc]; exact h3 _ v hi
theorem Cells.of_heap {B : Nat} {w w' : World} {a : Option Addr} {vs : List Value} (h : Cells B w a vs) (hh : ∀ x, a = some x → w'.heap[x.block]? = w.heap[x.block]?) (hB : B ≤ w.heap.size) (hw : w.heap.size ≤ w'.heap.size) : Cells w'.heap.size w' a vs := by
  rcases h with h | ⟨b, off, h1, h2, h3⟩
  · exact .inl h
  · subst h1
    exact .inr ⟨b, off, rfl, by omega, fun i v hi => (World.cell?_of_block (a := ⟨b, off + i, none⟩) (hh ⟨b, off, none⟩ rfl)).trans (h3 i v hi)⟩

section
variable {P : Program} {w : World}
/-- append, whatever is appended: where the new row lies is said too. -/
theorem run_append_rows (t ty : TypeId) (base : Nat) (e : TypeId) (i : TypeInfo) (z : Value) (size bytes : Nat) (ht : P.underlying t = some (.slice e)) (hi : P.info? e = some i) (hz : i.zero = some z)
    (hsize : i.size = size) (hby : i.bytes = bytes) (hzs : z.cells.size = size) (hsz : 0 < size)
    (v : Value) (n : Nat) (xs : List Value) (hown : w.ownsRow base e size v n xs)
    (ad : Option Addr) (m c B : Nat) (news : List Value) (hnone : ad = none → c = 0) (hl : news.length = m * size) (hc : Cells B w ad news) (h1 : ∀ u ∈ news, u.oneCell' = true)
    (h63 : n + m ≤ maxLen) (hbytes : (n + m) * bytes ≤ 140737488355328) (hbase : base ≤ w.heap.size) :
    ∃ a' cap' w', (Builtin.append_ #[t, t] ty #[v, .slice ad m c]).run P w = .ok (.slice a' (n + m) cap') w' ∧ w'.ownsRow base e size (.slice a' (n + m) cap') (n + m) (xs ++ news) ∧ w.grownBy w' v.ownBlock ∧
      ((Value.slice a' (n + m) cap').ownBlock = v.ownBlock ∨ (Value.slice a' (n + m) cap').ownBlock = some w.heap.size) := by
  cases ad with
  | none =>
    have hn : news = [] := by
      rcases hc with h | ⟨b, off, h, _⟩
      · exact h
      · cases h
    subst hn
    have hm0 : m = 0 := by
      rcases Nat.eq_zero_or_pos m with h | h
      · exact h
      · have := Nat.mul_pos h hsz; simp at hl; omega
    subst hm0
    obtain rfl := hnone rfl
    obtain ⟨a, cap, rfl⟩ := own_form hown
    refine ⟨a, cap, w, ?_, by simpa using hown, ⟨rfl, rfl, rfl, Nat.le_refl _, fun _ _ _ => rfl⟩, .inl rfl⟩
    exact run_append_owned_none (P := P) (w := w) base t ty e i size ht hi _ n xs hown
  | some ad =>
    obtain ⟨v', w', h2, h3, h4, _, h5⟩ := run_append_own_at (P := P) w base t ty e i z size bytes ht hi hz hsize hby hzs hsz v n xs hown ad m c news hl (fun j u hj => by
      rcases hc with h | ⟨b, off, h, _, hc⟩
      · subst h; simp at hj
      · cases h; rw [addr_add]; exact hc j u hj) h1 h63 hbytes hbase
    obtain ⟨a', cap', rfl⟩ := own_form h3
    exact ⟨a', cap', w', h2, h3, h4, h5⟩

theorem wpList_append_rows {ops : Array Oper} {rest : List Oper} {o : Oper} {a : Act} {Q : Exit → Act → World → Prop} (hgd : o.guard = none) (s x : Operand) (t : TypeId)
    (ho : o.op = .call { callee := .builtin .append, args := #[s, x], argTypes := #[t, t] })
    (base : Nat) (e : TypeId) (i : TypeInfo) (z : Value) (size bytes : Nat) (ht : P.underlying t = some (.slice e)) (hi : P.info? e = some i) (hz : i.zero = some z)
    (hsize : i.size = size) (hby : i.bytes = bytes) (hzs : z.cells.size = size) (hsz : 0 < size)
    (v : Value) (n : Nat) (xs : List Value) (hs : a.eval s = v) (hown : w.ownsRow base e size v n xs)
    (ad : Option Addr) (m c B : Nat) (news : List Value) (hx : a.eval x = .slice ad m c) (hnone : ad = none → c = 0) (hl : news.length = m * size) (hc : Cells B w ad news) (h1 : ∀ u ∈ news, u.oneCell' = true)
    (h63 : n + m ≤ maxLen) (hbytes : (n + m) * bytes ≤ 140737488355328) (hbase : base ≤ w.heap.size)
    (h : ∀ a' cap' w', w'.ownsRow base e size (.slice a' (n + m) cap') (n + m) (xs ++ news) → w.grownBy w' v.ownBlock → ((Value.slice a' (n + m) cap').ownBlock = v.ownBlock ∨ (Value.slice a' (n + m) cap').ownBlock = some w.heap.size) →
      wpList P ops Q rest (a.put o.dst (.slice a' (n + m) cap')) w') : wpList P ops Q (o :: rest) a w := by
  refine wpList_plain hgd fun K hK => ?_
  obtain ⟨a', cap', w', hr, h2, h3, h4⟩ := run_append_rows (P := P) (w := w) t o.type base e i z size bytes ht hi hz hsize hby hzs hsz v n xs hown ad m c B news hnone hl hc h1 h63 hbytes hbase
  unfold Oper.wp execOp
  simp only [ho, resolve, invoke, builtin, Sem.run_bind, Sem.run_pure, Result.andThen_ok, List.map_toArray, List.map_cons, List.map_nil, hs, hx, hr]
  exact hK _ _ (h a' cap' w' h2 h3 h4)

theorem step_append_rows {ops : Array Oper} {o : Oper} {a : Act} {K : Act → World → Prop} {Q : Exit → Act → World → Prop} {E : Prop} (hgd : o.guard = none) (s x : Operand) (t : TypeId)
    (ho : o.op = .call { callee := .builtin .append, args := #[s, x], argTypes := #[t, t] })
    (base : Nat) (e : TypeId) (i : TypeInfo) (z : Value) (size bytes : Nat) (ht : P.underlying t = some (.slice e)) (hi : P.info? e = some i) (hz : i.zero = some z)
    (hsize : i.size = size) (hby : i.bytes = bytes) (hzs : z.cells.size = size) (hsz : 0 < size)
    (v : Value) (n : Nat) (xs : List Value) (hs : a.eval s = v) (hown : w.ownsRow base e size v n xs)
    (ad : Option Addr) (m c B : Nat) (news : List Value) (hx : a.eval x = .slice ad m c) (hnone : ad = none → c = 0) (hl : news.length = m * size) (hc : Cells B w ad news) (h1 : ∀ u ∈ news, u.oneCell' = true)
    (h63 : n + m ≤ maxLen) (hbytes : (n + m) * bytes ≤ 140737488355328) (hbase : base ≤ w.heap.size)
    (h : ∀ a' cap' w', w'.ownsRow base e size (.slice a' (n + m) cap') (n + m) (xs ++ news) → w.grownBy w' v.ownBlock → ((Value.slice a' (n + m) cap').ownBlock = v.ownBlock ∨ (Value.slice a' (n + m) cap').ownBlock = some w.heap.size) →
      K (a.put o.dst (.slice a' (n + m) cap')) w') : if Region.wanted o (yielded ops a.tmps) = true then Oper.wp P o a w K Q else E := by
  have hw : Region.wanted o (yielded ops a.tmps) = true := by simp [Region.wanted, hgd]
  rw [if_pos hw]
  obtain ⟨a', cap', w', hr, h2, h3, h4⟩ := run_append_rows (P := P) (w := w) t o.type base e i z size bytes ht hi hz hsize hby hzs hsz v n xs hown ad m c B news hnone hl hc h1 h63 hbytes hbase
  unfold Oper.wp execOp
  simp only [ho, resolve, invoke, builtin, Sem.run_bind, Sem.run_pure, Result.andThen_ok, List.map_toArray, List.map_cons, List.map_nil, hs, hx, hr]
  exact h a' cap' w' h2 h3 h4
end
end Go.Proofs.Ytdkgjbjlpofieaa
