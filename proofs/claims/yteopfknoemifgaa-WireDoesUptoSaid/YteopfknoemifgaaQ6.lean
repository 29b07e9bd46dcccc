/- Layer 9: the program's network and the reference's in one world, apart. Conditions: the networks are there. -/
import Derived.Test.YteopfknoemifgaaQ5
import Derived.Test.YteopfknoemifgaaP9
namespace Go.Proofs.Yteopfknoemifgaa
open Go.RowKit
set_option linter.unusedSimpArgs false
set_option linter.unusedVariables false

/-- Both networks, above all that the law was given; K: blocks that belong to neither. -/
def Duo (W : World) (xb rb : Nat) (N M : List (Option Line)) (K : Nat → Prop) (w : World) : Prop :=
  ∃ Sx Sr : Nat → Prop, NetRep w W.heap.size xb Sx N ∧ RefRep w W.heap.size rb Sr M ∧ (∀ k, Sx k → ¬ Sr k) ∧ Below W.heap.size W w ∧ ∀ k, K k → ¬ Sx k ∧ ¬ Sr k ∧ k < w.heap.size
def SameK (K : Nat → Prop) (w w' : World) : Prop := ∀ k, K k → w'.heap[k]? = w.heap[k]?
theorem Duo.is {W w : World} {xb rb : Nat} {N M : List (Option Line)} {K : Nat → Prop} (h : Duo W xb rb N M K w) : Below W.heap.size W w := by
  obtain ⟨_, _, _, _, _, h, _⟩ := h; exact h
theorem Duo.below {W w w' : World} {xb rb : Nat} {N M : List (Option Line)} {K K' : Nat → Prop} (h : Duo W xb rb N M K w) (hb : Below w.heap.size w w') (hK : ∀ k, K' k → K k ∨ (w.heap.size ≤ k ∧ k < w'.heap.size)) : Duo W xb rb N M K' w' := by
  obtain ⟨Sx, Sr, h1, h2, h3, h4, h5⟩ := h
  refine ⟨Sx, Sr, h1.of_heap hb.size fun k hk => hb.block k (h1.bd k hk).2, h2.of_heap hb.size fun k hk => hb.block k (h2.bd k hk).2, h3, h4.trans (hb.mono h4.size), fun k hk => ?_⟩
  have hz := hb.size
  rcases hK k hk with hk | hk
  · have := h5 k hk; exact ⟨this.1, this.2.1, by omega⟩
  · exact ⟨fun h => by have := (h1.bd k h).2; omega, fun h => by have := (h2.bd k h).2; omega, hk.2⟩
theorem Duo.drew {W w : World} {xb rb : Nat} {N M : List (Option Line)} {K : Nat → Prop} (h : Duo W xb rb N M K w) : Duo W xb rb N M K w.drew := h.below (Below.refl _ _).drew (fun k hk => .inl hk)
theorem Duo.write {W w : World} {xb rb : Nat} {N M : List (Option Line)} {K : Nat → Prop} (h : Duo W xb rb N M K w) {p : Addr} (hp : K p.block) (hW : W.heap.size ≤ p.block) (v : Value) : Duo W xb rb N M K (w.setCell p v) := by
  obtain ⟨Sx, Sr, h1, h2, h3, h4, h5⟩ := h
  obtain ⟨n1, n2, _⟩ := h5 _ hp
  have hz : (w.setCell p v).heap.size = w.heap.size := by simp [World.setCell]
  have hs : ∀ k, k ≠ p.block → (w.setCell p v).heap[k]? = w.heap[k]? := fun k hk => Below.heap_setCell _ _ _ _ hk
  refine ⟨Sx, Sr, h1.of_heap (by omega) fun k hk => hs k (fun e => n1 (e ▸ hk)), h2.of_heap (by omega) fun k hk => hs k (fun e => n2 (e ▸ hk)), h3, ⟨h4.os, h4.tape, h4.output, by rw [hz]; exact h4.size, fun k hk => ?_⟩, fun k hk => ?_⟩
  · rw [hs k (by omega)]; exact h4.block k hk
  · have := h5 k hk; exact ⟨this.1, this.2.1, by omega⟩
theorem Duo.fewer {W w : World} {xb rb : Nat} {N M : List (Option Line)} {K K' : Nat → Prop} (h : Duo W xb rb N M K w) (hK : ∀ k, K' k → K k) : Duo W xb rb N M K' w := by
  obtain ⟨Sx, Sr, h1, h2, h3, h4, h5⟩ := h
  exact ⟨Sx, Sr, h1, h2, h3, h4, fun k hk => h5 k (hK k hk)⟩
theorem Duo.mx {W w w' : World} {xb rb : Nat} {N N' M : List (Option Line)} {K : Nat → Prop} {Sx Sr : Nat → Prop} (h1 : NetRep w W.heap.size xb Sx N) (h2 : RefRep w W.heap.size rb Sr M) (h3 : ∀ k, Sx k → ¬ Sr k) (h4 : Below W.heap.size W w) (h5 : ∀ k, K k → ¬ Sx k ∧ ¬ Sr k ∧ k < w.heap.size)
    (hm : NMoved W.heap.size xb Sx N' w w') : Duo W xb rb N' M K w' ∧ SameK K w w' := by
  obtain ⟨S', g1, g2, g3⟩ := hm
  have hz := g3.size
  refine ⟨⟨S', Sr, g1, h2.kept g3 (fun k hk hs => h3 k hs hk), fun k hk hs => ?_, h4.trans (g3.below (fun k hk => (h1.bd k hk).1) h4.size), fun k hk => ?_⟩, fun k hk => g3.block k (h5 k hk).2.2 (h5 k hk).1⟩
  · rcases g2 k hk with h | h
    · exact h3 k h hs
    · have := (h2.bd k hs).2; omega
  · have h6 := h5 k hk
    refine ⟨fun h => ?_, h6.2.1, by omega⟩
    rcases g2 k h with h | h
    · exact h6.1 h
    · omega
theorem Duo.mr {W w w' : World} {xb rb : Nat} {N M M' : List (Option Line)} {K : Nat → Prop} {Sx Sr : Nat → Prop} (h1 : NetRep w W.heap.size xb Sx N) (h2 : RefRep w W.heap.size rb Sr M) (h3 : ∀ k, Sx k → ¬ Sr k) (h4 : Below W.heap.size W w) (h5 : ∀ k, K k → ¬ Sx k ∧ ¬ Sr k ∧ k < w.heap.size)
    (hm : RMoved W.heap.size rb Sr M' w w') : Duo W xb rb N M' K w' ∧ SameK K w w' := by
  obtain ⟨S', g1, g2, g3⟩ := hm
  have hz := g3.size
  refine ⟨⟨Sx, S', h1.kept g3 (fun k hk hs => h3 k hk hs), g1, fun k hk hs => ?_, h4.trans (g3.below (fun k hk => (h2.bd k hk).1) h4.size), fun k hk => ?_⟩, fun k hk => g3.block k (h5 k hk).2.2 (h5 k hk).2.1⟩
  · rcases g2 k hs with h | h
    · exact h3 k hk h
    · have := (h1.bd k hk).2; omega
  · have h6 := h5 k hk
    refine ⟨h6.1, fun h => ?_, by omega⟩
    rcases g2 k h with h | h
    · exact h6.2.1 h
    · omega
/-- What the walks ask of sizes. -/
structure Fits (N : List (Option Line)) : Prop where
  len : N.length ≤ 1000000
  sm : ∀ (i : Nat) (x : Line), N[i]? = some (some x) → x.way.length ≤ 70000000000000 ∧ x.back.length ≤ 70000000000000
section
variable {W w : World} {xb rb : Nat} {N M : List (Option Line)} {K : Nat → Prop}
theorem duo_open (h : Duo W xb rb N M K w) (hf : Fits N) : Calls Try.prog 8 #[.pointer (some ⟨xb, 0, none⟩)] w fun e w' => e = .returned (.tuple #[.int .i64 (openE N).1, .int .i64 (openE N).2]) ∧ Duo W xb rb (openedN N) M K w' ∧ SameK K w w' := by
  obtain ⟨Sx, Sr, h1, h2, h3, h4, h5⟩ := h
  exact (opens_any h1 (by have := hf.len; omega)).mono fun e w' ⟨a1, a2⟩ => ⟨a1, Duo.mx h1 h2 h3 h4 h5 a2⟩
theorem duo_ropen (h : Duo W xb rb N M K w) (hf : Fits M) : Calls Try.prog 26 #[.pointer (some ⟨rb, 0, none⟩)] w fun e w' => e = .returned (.tuple #[.int .i64 (openE M).1, .int .i64 (openE M).2]) ∧ Duo W xb rb N (openedN M) K w' ∧ SameK K w w' := by
  obtain ⟨Sx, Sr, h1, h2, h3, h4, h5⟩ := h
  exact (ropens_any h2 hf.len).mono fun e w' ⟨a1, a2⟩ => ⟨a1, Duo.mr h1 h2 h3 h4 h5 a2⟩
theorem duo_send (h : Duo W xb rb N M K w) (hf : Fits N) (c : Int) (hc : (Lit.int .i64 c).wf = true) (a : Option Addr) (m cap Bc : Nat) (l : List UInt8) (hm : m = l.length) (hl : l.length ≤ 1048576) (hcl : Cells Bc w a (bys l)) (hnone : a = none → cap = 0) :
    Calls Try.prog 9 #[.pointer (some ⟨xb, 0, none⟩), .int .i64 c, .slice a m cap] w fun e w' => e = .returned (.int .i64 (liveE N c)) ∧ Duo W xb rb (sendN N c l) M K w' ∧ SameK K w w' := by
  obtain ⟨Sx, Sr, h1, h2, h3, h4, h5⟩ := h
  exact (send_any h1 c hc a m cap Bc l hm hcl hnone (fun i x hx _ => by have := hf.sm i x hx; omega)).mono fun e w' ⟨a1, a2⟩ => ⟨a1, Duo.mx h1 h2 h3 h4 h5 a2⟩
theorem duo_rsend (h : Duo W xb rb N M K w) (hf : Fits M) (c : Int) (a : Option Addr) (m cap Bc : Nat) (l : List UInt8) (hm : m = l.length) (hl : l.length ≤ 1048576) (hcl : Cells Bc w a (bys l)) (hnone : a = none → cap = 0) :
    Calls Try.prog 27 #[.pointer (some ⟨rb, 0, none⟩), .int .i64 c, .slice a m cap] w fun e w' => e = .returned (.int .i64 (liveE M c)) ∧ Duo W xb rb N (sendN M c l) K w' ∧ SameK K w w' := by
  obtain ⟨Sx, Sr, h1, h2, h3, h4, h5⟩ := h
  exact (rsend_any h2 (by have := hf.len; omega) c a m cap Bc l hm hcl hnone (fun i x hx _ => by have := hf.sm i x hx; omega)).mono fun e w' ⟨a1, a2⟩ => ⟨a1, Duo.mr h1 h2 h3 h4 h5 a2⟩
theorem duo_answer (h : Duo W xb rb N M K w) (hf : Fits N) (c : Int) (hc : (Lit.int .i64 c).wf = true) (a : Option Addr) (m cap Bc : Nat) (l : List UInt8) (hm : m = l.length) (hl : l.length ≤ 1048576) (hcl : Cells Bc w a (bys l)) (hnone : a = none → cap = 0) :
    Calls Try.prog 14 #[.pointer (some ⟨xb, 0, none⟩), .int .i64 c, .slice a m cap] w fun e w' => e = .returned (.int .i64 (liveE N c)) ∧ Duo W xb rb (answerN N c l) M K w' ∧ SameK K w w' := by
  obtain ⟨Sx, Sr, h1, h2, h3, h4, h5⟩ := h
  exact (answer_any h1 c hc a m cap Bc l hm hcl hnone (fun i x hx _ => by have := hf.sm i x hx; omega)).mono fun e w' ⟨a1, a2⟩ => ⟨a1, Duo.mx h1 h2 h3 h4 h5 a2⟩
theorem duo_ranswer (h : Duo W xb rb N M K w) (hf : Fits M) (c : Int) (a : Option Addr) (m cap Bc : Nat) (l : List UInt8) (hm : m = l.length) (hl : l.length ≤ 1048576) (hcl : Cells Bc w a (bys l)) (hnone : a = none → cap = 0) :
    Calls Try.prog 29 #[.pointer (some ⟨rb, 0, none⟩), .int .i64 c, .slice a m cap] w fun e w' => e = .returned (.int .i64 (liveE M c)) ∧ Duo W xb rb N (answerN M c l) K w' ∧ SameK K w w' := by
  obtain ⟨Sx, Sr, h1, h2, h3, h4, h5⟩ := h
  exact (ranswer_any h2 (by have := hf.len; omega) c a m cap Bc l hm hcl hnone (fun i x hx _ => by have := hf.sm i x hx; omega)).mono fun e w' ⟨a1, a2⟩ => ⟨a1, Duo.mr h1 h2 h3 h4 h5 a2⟩
theorem duo_cut (h : Duo W xb rb N M K w) (hf : Fits N) (c k : Int) (hc : (Lit.int .i64 c).wf = true) (hk : k ≤ 9223372036854775807) :
    Calls Try.prog 13 #[.pointer (some ⟨xb, 0, none⟩), .int .i64 c, .int .i64 k] w fun e w' => e = .returned (.int .i64 (cutE N c k)) ∧ Duo W xb rb (cutN N c k) M K w' ∧ SameK K w w' := by
  obtain ⟨Sx, Sr, h1, h2, h3, h4, h5⟩ := h
  exact (cut_any h1 c k hc hk (fun i x hx => by have := hf.sm i x hx; omega)).mono fun e w' ⟨a1, a2⟩ => ⟨a1, Duo.mx h1 h2 h3 h4 h5 a2⟩
theorem duo_rcut (h : Duo W xb rb N M K w) (hf : Fits M) (c k : Int) (hk : k ≤ 9223372036854775807) :
    Calls Try.prog 30 #[.pointer (some ⟨rb, 0, none⟩), .int .i64 c, .int .i64 k] w fun e w' => e = .returned (.int .i64 (cutE M c k)) ∧ Duo W xb rb N (cutN M c k) K w' ∧ SameK K w w' := by
  obtain ⟨Sx, Sr, h1, h2, h3, h4, h5⟩ := h
  exact (rcut_any h2 (by have := hf.len; omega) c k hk (fun i x hx => by have := hf.sm i x hx; omega)).mono fun e w' ⟨a1, a2⟩ => ⟨a1, Duo.mr h1 h2 h3 h4 h5 a2⟩
theorem duo_drop (h : Duo W xb rb N M K w) (hf : Fits N) (c : Int) (hc : (Lit.int .i64 c).wf = true) :
    Calls Try.prog 16 #[.pointer (some ⟨xb, 0, none⟩), .int .i64 c] w fun e w' => e = .returned (.int .i64 (dropE N c)) ∧ Duo W xb rb (dropN N c) M K w' ∧ SameK K w w' := by
  obtain ⟨Sx, Sr, h1, h2, h3, h4, h5⟩ := h
  exact (drop_any h1 c hc (by have := hf.len; omega)).mono fun e w' ⟨a1, a2⟩ => ⟨a1, Duo.mx h1 h2 h3 h4 h5 a2⟩
theorem duo_rdrop (h : Duo W xb rb N M K w) (hf : Fits M) (c : Int) :
    Calls Try.prog 31 #[.pointer (some ⟨rb, 0, none⟩), .int .i64 c] w fun e w' => e = .returned (.int .i64 (dropE M c)) ∧ Duo W xb rb N (dropN M c) K w' ∧ SameK K w w' := by
  obtain ⟨Sx, Sr, h1, h2, h3, h4, h5⟩ := h
  exact (rdrop_any h2 (by have := hf.len; omega) c).mono fun e w' ⟨a1, a2⟩ => ⟨a1, Duo.mr h1 h2 h3 h4 h5 a2⟩
def BlkOf (a : Option Addr) (k : Nat) : Prop := ∃ y, a = some y ∧ y.block = k
theorem duo_take (h : Duo W xb rb N M K w) (hf : Fits N) (c k : Int) (hc : (Lit.int .i64 c).wf = true) (hk : k ≤ 9223372036854775807) :
    Calls Try.prog 10 #[.pointer (some ⟨xb, 0, none⟩), .int .i64 c, .int .i64 k] w fun e w' => ∃ a cp, e = .returned (.tuple #[.slice a (takenN N c k).length cp, .int .i64 (takeE N c k)]) ∧ IsBytes w' w.heap.size a cp (takenN N c k) ∧ Duo W xb rb (takeN N c k) M (fun k => K k ∨ BlkOf a k) w' ∧ SameK K w w' := by
  obtain ⟨Sx, Sr, h1, h2, h3, h4, h5⟩ := h
  refine (take_net h1 c k hc hk (fun i x hx => by have := hf.sm i x hx; omega)).mono fun e w' ⟨a, cp, a1, a2, S', a3, a4, a5, a6⟩ => ?_
  obtain ⟨⟨Sx', Sr', g1, g2, g3, g4, g5⟩, g6⟩ := Duo.mx (K := K) h1 h2 h3 h4 h5 ⟨S', a3, a4, a5⟩
  have hz := a5.size
  refine ⟨a, cp, a1, a2, ⟨S', Sr, a3, h2.kept a5 (fun k hk hs => h3 k hs hk), fun k hk hs => ?_, g4, fun k hk => ?_⟩, g6⟩
  · rcases a4 k hk with h | h
    · exact h3 k h hs
    · have := (h2.bd k hs).2; omega
  · rcases hk with hk | ⟨y, hy, rfl⟩
    · have h6 := h5 k hk
      refine ⟨fun h => ?_, h6.2.1, by omega⟩
      rcases a4 k h with h | h
      · exact h6.1 h
      · omega
    · have := a2.lt y hy
      exact ⟨a6 y hy, fun h => by have := (h2.bd _ h).2; omega, this.2⟩
theorem duo_rtake (h : Duo W xb rb N M K w) (hf : Fits M) (c k : Int) (hk : k ≤ 9223372036854775807) :
    Calls Try.prog 28 #[.pointer (some ⟨rb, 0, none⟩), .int .i64 c, .int .i64 k] w fun e w' => ∃ a cp, e = .returned (.tuple #[.slice a (takenN M c k).length cp, .int .i64 (takeE M c k)]) ∧ Cells w'.heap.size w' a (bys (takenN M c k)) ∧ Duo W xb rb N (takeN M c k) K w' ∧ SameK K w w' := by
  obtain ⟨Sx, Sr, h1, h2, h3, h4, h5⟩ := h
  refine (rtake_any h2 (by have := hf.len; omega) c k hk (fun i x hx => by have := hf.sm i x hx; omega)).mono fun e w' ⟨a, cp, a1, a2, a3⟩ => ⟨a, cp, a1, a2, Duo.mr h1 h2 h3 h4 h5 a3⟩
theorem duo_got (h : Duo W xb rb N M K w) (hf : Fits N) (c : Int) (hc : (Lit.int .i64 c).wf = true) :
    Calls Try.prog 18 #[.pointer (some ⟨xb, 0, none⟩), .int .i64 c] w fun e w' => ∃ a cp, e = .returned (.slice a (gotN N c).length cp) ∧ IsBytes w' w.heap.size a cp (gotN N c) ∧ Duo W xb rb N M (fun k => K k ∨ BlkOf a k) w' ∧ Below w.heap.size w w' := by
  have hh := h
  obtain ⟨Sx, Sr, h1, h2, h3, h4, h5⟩ := h
  refine (got_any h1 c hc (fun i x hx => by have := hf.sm i x hx; omega)).mono fun e w' ⟨a, cp, a1, a2, a3⟩ => ⟨a, cp, a1, a2, hh.below a3 (fun k hk => hk.imp_right ?_), a3⟩
  rintro ⟨y, hy, rfl⟩
  exact a2.lt y hy
theorem duo_rgot (h : Duo W xb rb N M K w) (hf : Fits M) (c : Int) :
    Calls Try.prog 19 #[.pointer (some ⟨rb, 0, none⟩), .int .i64 c] w fun e w' => ∃ a cp, e = .returned (.slice a (gotN M c).length cp) ∧ Cells w'.heap.size w' a (bys (gotN M c)) ∧ w = w' := by
  obtain ⟨Sx, Sr, h1, h2, h3, h4, h5⟩ := h
  exact rgot_any h2 (by have := hf.len; omega) c
theorem duo_flight (h : Duo W xb rb N M K w) (c : Int) (hc : (Lit.int .i64 c).wf = true) :
    Calls Try.prog 11 #[.pointer (some ⟨xb, 0, none⟩), .int .i64 c] w fun e w' => e = .returned (.int .i64 (flightN N c)) ∧ w = w' := by
  obtain ⟨Sx, Sr, h1, h2, h3, h4, h5⟩ := h
  exact flight_any h1 c hc
theorem duo_rflight (h : Duo W xb rb N M K w) (hf : Fits M) (c : Int) :
    Calls Try.prog 20 #[.pointer (some ⟨rb, 0, none⟩), .int .i64 c] w fun e w' => e = .returned (.int .i64 (flightN M c)) ∧ w = w' := by
  obtain ⟨Sx, Sr, h1, h2, h3, h4, h5⟩ := h
  exact rflight_any h2 (by have := hf.len; omega) c
theorem duo_over (h : Duo W xb rb N M K w) (c : Int) (hc : (Lit.int .i64 c).wf = true) :
    Calls Try.prog 15 #[.pointer (some ⟨xb, 0, none⟩), .int .i64 c] w fun e w' => e = .returned (.bool (overN N c)) ∧ w = w' := by
  obtain ⟨Sx, Sr, h1, h2, h3, h4, h5⟩ := h
  exact over_any h1 c hc
theorem duo_rover (h : Duo W xb rb N M K w) (hf : Fits M) (c : Int) :
    Calls Try.prog 21 #[.pointer (some ⟨rb, 0, none⟩), .int .i64 c] w fun e w' => e = .returned (.bool (overN M c)) ∧ w = w' := by
  obtain ⟨Sx, Sr, h1, h2, h3, h4, h5⟩ := h
  exact rover_any h2 (by have := hf.len; omega) c
/-- How many lines the reference has. -/
theorem duo_lines (h : Duo W xb rb N M K w) : ∃ a cp, rb < w.heap.size ∧ w.cell? ⟨rb, 0, none⟩ = some (.slice a M.length cp) := by
  obtain ⟨Sx, Sr, h1, ⟨T, lv, zs, h2, hN⟩, h3, h4, h5⟩ := h
  obtain ⟨a, c, rfl⟩ := own_form h2.row
  have hlen : zs.length = M.length := by rw [← hN, List.length_map]
  rw [← hlen]
  exact ⟨a, c, h2.blk.lt, h2.blk.cell rfl⟩
end
/-- A row of bytes of the law's own. -/
def OwnI (w : World) (B : Nat) (a : Option Addr) (cap m : Nat) : Prop := ∃ zs : List Int, zs.length = m ∧ w.ownsRow B 5 1 (.slice a m cap) m (zs.map (.int .u8))
theorem OwnI.of_bytes {w : World} {B : Nat} {a : Option Addr} {cap : Nat} {l : List UInt8} (h : IsBytes w B a cap l) : OwnI w B a cap l.length :=
  ⟨l.map fun c => (c.toNat : Int), by simp, by unfold IsBytes bys at h; simpa [Function.comp_def] using h⟩
theorem OwnI.same {w w' : World} {B : Nat} {a : Option Addr} {cap m : Nat} (h : OwnI w B a cap m) (hh : ∀ k, BlkOf a k → w'.heap[k]? = w.heap[k]?) : OwnI w' B a cap m := by
  obtain ⟨zs, h1, h2⟩ := h
  refine ⟨zs, h1, own_of_heap h2 fun k hk => hh k ?_⟩
  cases a with
  | none => cases hk
  | some y => exact ⟨y, rfl, by simpa [Value.ownBlock] using hk⟩
theorem OwnI.cell {w : World} {B : Nat} {a : Option Addr} {cap m : Nat} (h : OwnI w B a cap m) {k : Nat} (hk : k < m) :
    ∃ g z, a = some ⟨g, 0, none⟩ ∧ B ≤ g ∧ w.cell? ⟨g, k, none⟩ = some (.int .u8 z) ∧ w.frozen? ⟨g, k, none⟩ = false ∧ ∀ z', OwnI (w.setCell ⟨g, k, none⟩ (.int .u8 z')) B a cap m := by
  obtain ⟨zs, h1, h2⟩ := h
  subst h1
  rcases h2.2 with ⟨h3, h4⟩ | ⟨g, c, cur, h3, hB, hh⟩
  · exact absurd h4 (by omega)
  · injection h3 with e1 e2 e3
    subst e1
    refine ⟨g, zs[k], rfl, hB, ?_, h2.frozenAt _, fun z' => ⟨zs.set k z', by simp, ?_⟩⟩
    · have := World.ownsRow.cells h2 (g := g) rfl k (.int .u8 zs[k]) (by simp [hk])
      simpa [addr_add] using this
    · have := (h2.stored k (.int .u8 z')).1
      rw [List.map_set]
      exact this
theorem strOf_beq (l : List UInt8) : ((strOf l).toList == (strOf l).toList) = true := by simp
end Go.Proofs.Yteopfknoemifgaa
