/- Layer 3: the contract of slices.Clone of texts. Conditions: at most 2^40 texts. -/
import Derived.Test.YtdkgjbjlpofieaaOwn
import Derived.OwnWalk
import Derived.Laws.OwnMore
namespace Go.Proofs.Ytdkgjbjlpofieaa
open Go.RowKit
set_option linter.unusedSimpArgs false
set_option linter.unusedVariables false

theorem Try.infoStr : (Try.prog.info? 9).map (fun i => (i.zero, i.size, i.bytes)) = some (some (.string ⟨#[]⟩), 1, 16) := by kernel_rfl
theorem eql_nil (w : World) (t e : TypeId) (a : Option Addr) (n c : Nat) (h : Try.prog.underlying t = some (.slice e)) : (binOp .eql t (.slice a n c) (.slice none 0 0)).run Try.prog w = .ok (.bool a.isNone) w := by
  simp only [binOp]
  simp [Op.equal, Op.maxDepth, Lib.run_equalIn_slice_nil w 9999 t e a n c 0 0 h]
/-- A row that the call owns is a row of texts of its own. -/
theorem OwnStr.of_own {w : World} {base : Nat} {e : TypeId} {v : Value} {ks : List ByteArray} (h : w.ownsRow base e 1 v ks.length (ks.map Value.string)) :
    ∃ ka kc bs, v = .slice ka ks.length kc ∧ OwnStr w ka ks bs ∧ (∀ b ∈ bs, base ≤ b ∧ b < w.heap.size) ∧ bs.Nodup ∧ (ka = none → kc = 0) ∧ (ks.length ≤ kc ∧ kc ≤ maxLen) := by
  rcases h.2 with ⟨h1, h2⟩ | ⟨g, cap, cur, h1, h2, h3, h4, h5, h6, h7⟩
  · have hk : ks = [] := List.eq_nil_of_length_eq_zero h2
    subst hk
    exact ⟨none, 0, [], h1, .inl ⟨rfl, rfl⟩, by simp, by simp, fun _ => rfl, ⟨Nat.le_refl _, by simp⟩⟩
  · refine ⟨some ⟨g, 0, none⟩, cap, [g], h1, .inr ⟨g, cur.toList, e, rfl, rfl, by unfold Block; simpa using h3, fun j x hx => ?_⟩, ?_, by simp, (fun h => by cases h), ⟨h4, h5⟩⟩
    · have hj : j < ks.length := (List.getElem?_eq_some_iff.1 hx).1
      have : (cur.toList.take (ks.length * 1))[j]? = some (.string x) := by rw [h7, List.getElem?_map, hx]; rfl
      rwa [List.getElem?_take_of_lt (by omega)] at this
    · intro b hb
      simp at hb
      subst hb
      exact ⟨h2, (Array.getElem?_eq_some_iff.1 h3).1⟩
def CloneP (ks : List ByteArray) (w : World) (e : Ending) (w' : World) : Prop := ∃ ka kc bs, e = .returned (.slice ka ks.length kc) ∧ Below w.heap.size w w' ∧ OwnStr w' ka ks bs ∧ (∀ b ∈ bs, w.heap.size ≤ b ∧ b < w'.heap.size) ∧ bs.Nodup ∧ (ka = none → kc = 0) ∧ (ks.length ≤ kc ∧ kc ≤ maxLen)
theorem clone_any (ks : List ByteArray) (ka : Option Addr) (kc B : Nat) (w : World) (hk : StrRow B w ka ks) (hB : B ≤ w.heap.size) (hz : ka = none → kc = 0) (hl : ks.length ≤ 1099511627776) :
    Calls Try.prog 41 #[.slice ka ks.length kc] w (CloneP ks w) := by
  cases ka with
  | none =>
    have hk0 : ks = [] := by
      rcases hk with h | ⟨b, off, h, _⟩
      · exact List.map_eq_nil_iff.1 h
      · cases h
    subst hk0
    obtain rfl := hz rfl
    have hn := fun w => eql_nil w 22 9 none 0 0 Try.underlying22
    go_enter Try.func41, Try.ntmps41
    go_wp2_with fail
    go_ret
    exact ⟨none, 0, [], by rfl, Below.refl _ _, .inl ⟨rfl, rfl⟩, by simp, by simp, fun _ => rfl, ⟨Nat.le_refl _, by simp⟩⟩
  | some ad =>
    have HK := Lib.hid hk
    clear hk hz
    have hn := fun w => eql_nil w 22 9 (some ad) ks.length kc Try.underlying22
    obtain ⟨i0, hi0, hz0, hz1, hz2⟩ := info_parts Try.infoStr
    have HO : (w.alloc (.cells #[] 9)).ownsRow w.heap.size 9 1 (.slice (some ⟨w.heap.size, 0, none⟩) 0 0) 0 [] := World.ownsRow_lit w #[] 0 (Nat.le_refl _) (by unfold maxLen; omega) rfl
    go_enter Try.func41, Try.ntmps41
    go_wp2_with (at_builtin; refine append_cells rfl _ _ 22 rfl w.heap.size 9 i0 (.string ⟨#[]⟩) 16 Try.underlying22 hi0 hz0 hz1 hz2 rfl _ 0 [] rfl HO (some ad) ks.length kc _ (ks.map Value.string) rfl (fun h => by cases h) (by simp) (Cells.below HK.out ((Below.refl w.heap.size w).alloc (Nat.le_refl _) _) hB) ?c2 ?c3 ?c4 ?c5 ?_)
    case c2 => intro u hu; simp at hu; obtain ⟨q, _, rfl⟩ := hu; rfl
    case c3 => unfold maxLen; omega
    case c4 => omega
    case c5 => simp
    intro v1 w5 hown5 hg5
    have hB5 : Below w.heap.size w w5 := ((Below.refl _ _).alloc (Nat.le_refl _) _).grown hg5 (by simp) (fun k hk => by simp [Value.ownBlock] at hk; omega)
    obtain ⟨ka', kc', bs, rfl, g1, g2, g3, g4, g5⟩ := OwnStr.of_own hown5
    clear hown5 hg5 HO
    go_wp2_with fail
    go_ret
    exact ⟨ka', kc', bs, by rfl, hB5, g1, g2, g3, g4, g5⟩
end Go.Proofs.Ytdkgjbjlpofieaa
