/- Layer 3: what both Maps and both Gets come to: one value and a code. Conditions: names and values are small. -/
import Derived.Test.YtdkgjbjlpofieaaRMap
namespace Go.Proofs.Ytdkgjbjlpofieaa
open Go.RowKit
set_option linter.unusedSimpArgs false
set_option linter.unusedVariables false
set_option maxRecDepth 100000

def MapQ (T : Vt) (c : Int) (w : World) (e : Ending) (w' : World) : Prop :=
  Below w.heap.size w w' ∧ ∃ cs bs, e = .returned (.tuple #[.agg cs.toArray, .int .i64 c]) ∧ IsO w' cs T bs ∧ bs.Nodup ∧ ∀ b ∈ bs, w.heap.size ≤ b ∧ b < w'.heap.size
def RMapQ (T : Vt) (c : Int) (w : World) (e : Ending) (w' : World) : Prop :=
  Below w.heap.size w w' ∧ ∃ cs, e = .returned (.tuple #[.agg cs.toArray, .int .i64 c]) ∧ LiesV w.heap.size w' cs T
def GetQ (T : Vt) (ok : Bool) (w : World) (e : Ending) (w' : World) : Prop :=
  Below w.heap.size w w' ∧ ∃ cs bs, e = .returned (.tuple #[.agg cs.toArray, .bool ok]) ∧ IsO w' cs T bs ∧ bs.Nodup ∧ ∀ b ∈ bs, w.heap.size ≤ b ∧ b < w'.heap.size
theorem empty_isO (w : World) : IsO w zeroC emptyV [] := by
  unfold emptyV IsO
  refine ⟨none, 0, none, 0, [], [], rfl, ⟨by unfold in64; omega, by unfold in64; omega, by simp, by simp, fun _ => rfl, fun _ => rfl⟩, rfl, ?_, .inl ⟨rfl, rfl⟩⟩
  exact .inl ⟨rfl, rfl⟩
theorem empty_lies (M : Nat) (w : World) : LiesV M w zeroC emptyV := fun u _ _ => IsO.isV _ _ _ (empty_isO u) (by simp)
theorem GetP.q {o : Option Vt} {w w' : World} {e : Ending} (h : GetP o w e w') : GetQ (o.getD emptyV) o.isSome w e w' := by
  obtain ⟨h1, ⟨rfl, h2⟩ | ⟨t, cs, bs, rfl, h2, h3, h4, h5⟩⟩ := h
  · exact ⟨h1, zeroC, [], h2, empty_isO _, List.nodup_nil, by simp⟩
  · exact ⟨h1, cs, bs, h2, h3, h4, h5⟩
/-- A value's keys and parts as a map's must be. -/
def Shapes (T : Vt) : Prop := ∀ k b i s l ks, T = .mk k b i s l ks → SortedS ks ∧ (k = 5 → ks.length = l.length)
theorem maps_two {ks : List ByteArray} {ts : List Vt} (hwt : 1 + (ks.map fun k => k.size + 1).sum + wtVs ts ≤ 1048576) :
    ∃ (T : Vt) (c : Int), (∀ w e w', MapP ks ts w e w' → MapQ T c w e w') ∧ (∀ w e w', RMapP (mapR ks ts) w e w' → RMapQ T c w e w') ∧ wtV T ≤ 1048576 ∧ Shapes T := by
  have hno : (∀ L, ks.length = ts.length → OrderOf ks L → mayB (mapT ks ts L) = false) → mapR ks ts = none →
      ∃ (T : Vt) (c : Int), (∀ w e w', MapP ks ts w e w' → MapQ T c w e w') ∧ (∀ w e w', RMapP (mapR ks ts) w e w' → RMapQ T c w e w') ∧ wtV T ≤ 1048576 ∧ Shapes T := fun h1 h2 => by
    refine ⟨emptyV, 20, fun w e w' h => ?_, fun w e w' h => ?_, by unfold emptyV wtV wtVs; decide, fun k b i s l ks he => ?_⟩
    · obtain ⟨hb, ⟨_, he⟩ | ⟨hl, L, ho, ⟨_, he⟩ | ⟨hm, _⟩⟩⟩ := h
      · exact ⟨hb, zeroC, [], he, empty_isO _, List.nodup_nil, by simp⟩
      · exact ⟨hb, zeroC, [], he, empty_isO _, List.nodup_nil, by simp⟩
      · rw [h1 L hl ho] at hm; cases hm
    · rw [h2] at h
      exact ⟨h.1, zeroC, h.2, empty_lies _ _⟩
    · unfold emptyV at he
      injection he with e1 e2 e3 e4 e5 e6
      subst e1 e6
      exact ⟨fun i j x y _ hx => by simp at hx, fun h => by cases h⟩
  by_cases hl : ks.length = ts.length
  · cases hr : refM [] (ks.zip ts) with
    | none => exact hno (fun L _ ho => (refM_map ho hl).1 hr) (by unfold mapR; rw [if_pos hl, hr])
    | some r =>
      cases hm : mayB (.mk 5 false 0 ⟨#[]⟩ (r.map (·.2)) (r.map (·.1))) with
      | false => exact hno (fun L _ ho => by rw [(refM_map ho hl).2 r hr]; exact hm) (by unfold mapR; rw [if_pos hl, hr]; exact if_neg (by rw [hm]; simp))
      | true =>
        have hR : mapR ks ts = some (.mk 5 false 0 ⟨#[]⟩ (r.map (·.2)) (r.map (·.1))) := by unfold mapR; rw [if_pos hl, hr]; exact if_pos hm
        refine ⟨.mk 5 false 0 ⟨#[]⟩ (r.map (·.2)) (r.map (·.1)), 0, fun w e w' h => ?_, fun w e w' h => ?_, zip_wt hl hr hwt, fun k b i s l ks he => ?_⟩
        · obtain ⟨hb, ⟨hn, he⟩ | ⟨_, L, ho, ⟨hf, _⟩ | ⟨_, cs, bs, h1, h2, h3, h4⟩⟩⟩ := h
          · exact absurd hl hn
          · rw [(refM_map ho hl).2 r hr, hm] at hf; cases hf
          · rw [(refM_map ho hl).2 r hr] at h2
            exact ⟨hb, cs, bs, h1, h2, h3, h4⟩
        · rw [hR] at h
          exact ⟨h.1, h.2⟩
        · rw [he] at hm
          exact may_sorted hm
  · exact hno (fun L h => absurd h hl) (by unfold mapR; rw [if_neg hl])
theorem IsVs.mono {B B' : Nat} {w : World} {a : Option Addr} {l : List Vt} (h : IsVs B w a 0 l) (hB : B ≤ B') : IsVs B' w a 0 l :=
  IsVs.mk fun j t ht => by
    obtain ⟨b, off, cs', g1, g2, g3, g4⟩ := h.get j t ht
    exact ⟨b, off, cs', g1, by omega, g3, g4.mono hB _ _⟩
/-- A row of the call's own as a value's list. -/
theorem RowO.list {B : Nat} {wr : World} {lv : Value} {j : Nat} {cl : List Value} {l : List Vt} {bs : List Nat} (h : RowO B wr lv j cl l bs) :
    ∃ la lc b3 lb cur ty, lv = .slice la l.length lc ∧ (l.length ≤ lc ∧ lc ≤ 9223372036854775807) ∧ (la = none → lc = 0) ∧ IsVs wr.heap.size wr la 0 l ∧ b3.Nodup ∧ (∀ q ∈ b3, B ≤ q ∧ q < wr.heap.size) ∧ (l ≠ [] → la = some ⟨lb, 0, none⟩ ∧ Block wr lb cur ty ∧ lb ∉ b3) ∧ IsOs wr cur 0 l b3 := by
  have hlen := h.len
  obtain ⟨la, lc, b2, h1, ⟨h2, h2'⟩, h3, h4, h5, h6⟩ := h.part
  unfold maxLen at h2'
  have hO : ∀ hk : in64 4, IsO wr [.int .i64 4, .bool false, .int .i64 0, .string ⟨#[]⟩, .slice la l.length lc, .slice none 0 0] (.mk 4 false 0 ⟨#[]⟩ l []) ([] ++ b2) := fun hk => by
    unfold IsO
    exact ⟨la, lc, none, 0, [], b2, rfl, ⟨hk, by unfold in64; omega, ⟨by omega, by omega⟩, by simp, h3, fun _ => rfl⟩, rfl, .inl ⟨rfl, rfl⟩, h4⟩
  have hV := IsO.isV (B := wr.heap.size) _ _ _ (hO (by unfold in64; omega)) (fun b hb => (h6 b (by simpa using hb)).2)
  unfold IsV at hV
  obtain ⟨la', lc', ka', kc', e, -, -, -, -, -, -, -, hvs⟩ := hV
  simp only [List.cons.injEq, Value.slice.injEq, and_true, true_and] at e
  obtain ⟨⟨rfl, rfl⟩, _⟩ := e
  rcases h4 with ⟨rfl, rfl⟩ | ⟨lb, cur, ty, b3, g1, rfl, g3, g4⟩
  · exact ⟨la, lc, [], 0, [], 0, by rw [h1, ← hlen], ⟨by omega, by omega⟩, h3, hvs, List.nodup_nil, by simp, fun h => absurd rfl h, by unfold IsOs; rfl⟩
  · exact ⟨la, lc, b3, lb, cur, ty, by rw [h1, ← hlen], ⟨by omega, by omega⟩, h3, hvs, (List.nodup_cons.1 h5).2, fun q hq => h6 q (by simp [hq]), fun _ => ⟨g1, g3, (List.nodup_cons.1 h5).1⟩, g4⟩
end Go.Proofs.Ytdkgjbjlpofieaa
