/- Parts S13, S14, S15, S17 of this seat (pruned, scripts that are alike kept once as default arguments: q1, q2, ..). Conditions: each says its own. -/
import Derived.Deep.AppendLies
import Derived.Test.YteljlahcdipilaaGreatG7
set_option linter.unusedSimpArgs false
set_option linter.unusedVariables false
set_option maxRecDepth 1000000
set_option maxHeartbeats 64000000
namespace Go.Proofs.YteljlahcdipilaaGreat
open Go.RowKit
theorem Ak (r : Nat) : (Utf8.encode (r : Int)).data.toList = Lib.encodeRune (r : Int) := by
 unfold Lib.encodeRune
 by_cases c1 : r < 128
 ·have v : Utf8.valid (r : Int) = true := by simp [Utf8.valid]; omega
  rw [Lib.encodeRuneZ_one (by omega) (by omega)];simp [Utf8.encode, v, c1]
 by_cases c2 : r < 2048
 ·have v : Utf8.valid (r : Int) = true := by simp [Utf8.valid]; omega
  rw [Lib.encodeRuneZ_two (by omega) (by omega)];have e0 : (192 + (r : Int) / 64).toNat = 192 + r / 64 := by omega
  have e1 : (128 + (r : Int) % 64).toNat = 128 + r % 64 := by omega
  simp [Utf8.encode, v, c1, c2, e0, e1]
 by_cases cb : (55296 <= r /\ r <= 57343) \/ 1114111 < r
 ·have v : Utf8.valid (r : Int) = false := by
   cases hv : Utf8.valid (r : Int) with
   | false => rfl
   | true => simp [Utf8.valid] at hv; omega
  rw [Lib.encodeRuneZ_bad (by omega)];simp [Utf8.encode, v, Utf8.runeError]
 have v : Utf8.valid (r : Int) = true := by simp [Utf8.valid]; omega
 by_cases c3 : r < 65536
 ·rw [Lib.encodeRuneZ_three (by omega)];have e0 : (224 + (r : Int) / 4096).toNat = 224 + r / 4096 := by omega
  have e1 : (128 + (r : Int) / 64 % 64).toNat = 128 + r / 64 % 64 := by omega
  have e2 : (128 + (r : Int) % 64).toNat = 128 + r % 64 := by omega
  simp [Utf8.encode, v, c1, c2, c3, e0, e1, e2]
 ·rw [Lib.encodeRuneZ_four (by omega) (by omega)];have e0 : (240 + (r : Int) / 262144).toNat = 240 + r / 262144 := by omega
  have e1 : (128 + (r : Int) / 4096 % 64).toNat = 128 + r / 4096 % 64 := by omega
  have e2 : (128 + (r : Int) / 64 % 64).toNat = 128 + r / 64 % 64 := by omega
  have e3 : (128 + (r : Int) % 64).toNat = 128 + r % 64 := by omega
  simp [Utf8.encode, v, c1, c2, c3, e0, e1, e2, e3]
theorem fi (B : ByteArray) : ai B.data.toList = B := by apply ByteArray.ext; simp [ai]
theorem uR {l : List UInt8} (h : sg l ≠ 0) : Utf8.encode (rv l : Int) = ai (l.take (sg l)) := by
 rw [<- ow h, <- Ak, fi]
theorem qv {l : List UInt8} {x : UInt8} {n : Nat} (h : bQ l = some (x, n)) : ∀ j, 1 <= j -> j < n -> nb l j < 128 := by
 have hl := dt h;have hx : ∀ c, ¬ dx c < 0 -> c < 128 := fun c hc => by
  unfold dx at hc
  by_cases a : 48 <= c /\ c <= 57
  ·omega
  rw [if_neg a] at hc
  by_cases b : 97 <= c /\ c <= 102
  ·omega
  rw [if_neg b] at hc
  by_cases d : 65 <= c /\ c <= 70
  ·omega
  rw [if_neg d] at hc;omega
 unfold bQ at h
 by_cases h1 : l.length < 2
 ·rw [if_pos h1] at h; cases h
 rw [if_neg h1] at h
 by_cases h2 : nb l 1 = 92 \/ nb l 1 = 39
 ·rw [if_pos h2] at h; cases h; intro j j1 j2; obtain rfl : j = 1 := by omega
  omega
 rw [if_neg h2] at h
 by_cases h3 : nb l 1 = 110
 ·rw [if_pos h3] at h; cases h; intro j j1 j2; obtain rfl : j = 1 := by omega
  omega
 rw [if_neg h3] at h
 by_cases h4 : nb l 1 = 116
 ·rw [if_pos h4] at h; cases h; intro j j1 j2; obtain rfl : j = 1 := by omega
  omega
 rw [if_neg h4] at h
 by_cases h5 : nb l 1 = 114
 ·rw [if_pos h5] at h; cases h; intro j j1 j2; obtain rfl : j = 1 := by omega
  omega
 rw [if_neg h5] at h
 by_cases h6 : l.length < 4 \/ nb l 1 ≠ 120 \/ dx (nb l 2) < 0 \/ dx (nb l 3) < 0
 ·rw [if_pos h6] at h; cases h
 rw [if_neg h6] at h; cases h;intro j j1 j2;have k2 := hx (nb l 2) (fun hh => h6 (.inr (.inr (.inl hh))));have k3 := hx (nb l 3) (fun hh => h6 (.inr (.inr (.inr hh))));have : j = 1 \/ j = 2 \/ j = 3 := by omega
 rcases this with rfl | rfl | rfl
 ·omega
 ·exact k2
 ·exact k3
def iB (l : List UInt8) (i k : Nat) (d : List UInt8) : Prop :=
  i <= l.length /\ k <= l.length /\ d.length <= max i k /\ (∀ j, i <= j -> j < k -> nb l j < 128) /\ uq l = (uq (l.drop (max i k))).map fun p => d ++ p
theorem qw (l : List UInt8) : iB l 0 0 [] := by
 refine ⟨by omega, by omega, by simp, fun j _ h => by omega, ?_⟩;simp
theorem qx {l d : List UInt8} {i k : Nat} (h : iB l i k d) (hi : i < l.length) (hk : i < k) : sg (l.drop i) = 1 /\ iB l (i + 1) k d := by
 obtain ⟨h1, h2, h3, h4, h5⟩ := h;refine ⟨eg.2 ⟨by simp; omega, by rw [cT, Nat.add_zero]; exact h4 i (by omega) hk⟩, by omega, h2, by rw [show max (i + 1) k = max i k from by omega]; exact h3, fun j a b => h4 j (by omega) b, by rw [show max (i + 1) k = max i k from by omega]; exact h5⟩
theorem sY {l d : List UInt8} {i k : Nat} (h : iB l i k d) (hi : i < l.length) (hk : ¬ i < k) (h92 : nb (l.drop i) 0 = 92) : match bQ (l.drop i) with
    | none => uq l = none
    | some (x, n) => sg (l.drop i) = 1 /\ (n = 2 \/ n = 4) /\ i + n <= l.length /\ iB l (i + 1) (i + n) (d ++ [x]) := by
 obtain ⟨h1, h2, h3, h4, h5⟩ := h;have h0 : (l.drop i).length ≠ 0 := by simp; omega
 rw [show max i k = i from by omega, ja (l.drop i), if_neg h0, if_pos h92] at h5;cases he : bQ (l.drop i) with
 | none => rw [he] at h5; exact h5
 | some p =>
  obtain ⟨x, n⟩ := p;rw [he] at h5;have hl := dt he;have ha := qv he;rw [List.length_drop] at hl;refine ⟨eg.2 ⟨h0, by omega⟩, hl.1, by omega, by omega, by omega, ?_, ?_, ?_⟩
  ·rw [show max i k = i from by omega] at h3;rw [List.length_append, show max (i + 1) (i + n) = i + n from by omega]; simp; omega
  ·intro j a b;have := ha (j - i) (by omega) (by omega);rw [cT, show i + (j - i) = j from by omega] at this;exact this
  ·rw [h5, show max (i + 1) (i + n) = i + n from by omega];dsimp only;rw [List.drop_drop];cases uq (l.drop (i + n)) with
   | none => rfl
   | some q => simp
theorem sZ {l d : List UInt8} {i k : Nat} (h : iB l i k d) (hi : i < l.length) (hk : ¬ i < k) (h92 : nb (l.drop i) 0 ≠ 92) (hb : nb (l.drop i) 0 = 39 \/ bad (l.drop i)) : uq l = none := by
 obtain ⟨h1, h2, h3, h4, h5⟩ := h;have h0 : (l.drop i).length ≠ 0 := by simp; omega
 rw [show max i k = i from by omega, ja (l.drop i), if_neg h0, if_neg h92, if_pos hb] at h5;exact h5
theorem qy {l d : List UInt8} {i k : Nat} (h : iB l i k d) (hi : i < l.length) (hk : ¬ i < k) (h92 : nb (l.drop i) 0 ≠ 92) (hb : ¬ (nb (l.drop i) 0 = 39 \/ bad (l.drop i))) :
    iB l (i + sg (l.drop i)) k (d ++ (l.drop i).take (sg (l.drop i))) := by
 obtain ⟨h1, h2, h3, h4, h5⟩ := h;have h0 : (l.drop i).length ≠ 0 := by simp; omega
 rw [show max i k = i from by omega, ja (l.drop i), if_neg h0, if_neg h92, if_neg hb] at h5;have h6 := eU (fun hh => hb (.inr hh));have h7 := (dU (l := l.drop i)).2;rw [List.length_drop] at h7;refine ⟨by omega, h2, ?_, fun j a b => by omega, ?_⟩
 ·rw [show max i k = i from by omega] at h3;rw [List.length_append, List.length_take, show max (i + sg (l.drop i)) k = i + sg (l.drop i) from by omega];omega
 ·rw [h5, show max (i + sg (l.drop i)) k = i + sg (l.drop i) from by omega, List.drop_drop];cases uq (l.drop (i + sg (l.drop i))) with
  | none => rfl
  | some q => simp
theorem s4 {l d : List UInt8} {i k : Nat} (h : iB l i k d) (hi : l.length <= i) : uq l = some d := by
 obtain ⟨h1, h2, h3, h4, h5⟩ := h;rw [h5, show max i k = l.length from by omega, ja (l.drop l.length), if_pos (by simp)];simp
theorem Bs {l : List UInt8} (h0 : l.length ≠ 0) (h : rv l = 39) : nb l 0 ≠ 92 /\ (nb l 0 = 39 \/ bad l) := by
 have := gK h0 (by omega); exact ⟨by omega, .inl (by omega)⟩
theorem Bt {l : List UInt8} (h0 : l.length ≠ 0) (h : rv l = 92) : nb l 0 = 92 := by
 have := gK h0 (by omega); omega
theorem Al {l : List UInt8} (h0 : l.length ≠ 0) (h : rv l < 32 \/ rv l = 127 \/ (rv l = 65533 /\ Lib.hasPrefix l [239, 191, 189] = false)) : nb l 0 ≠ 92 /\ (nb l 0 = 39 \/ bad l) := by
 rcases h with h | h | h
 ·have := gK h0 (by omega); exact ⟨by omega, .inr (.inr (.inl (by omega)))⟩
 ·have := gK h0 (by omega); exact ⟨by omega, .inr (.inr (.inr (by omega)))⟩
 ·have h1 := (rO h0).1 h;refine ⟨fun hh => ?_, .inr (.inl h1)⟩;have := eg.2 ⟨h0, by omega⟩;omega
theorem yd {l : List UInt8} (h0 : l.length ≠ 0) (h1 : rv l ≠ 92) (h2 : rv l ≠ 39) (h3 : ¬ rv l < 32) (h4 : rv l ≠ 127) (h5 : rv l ≠ 65533 \/ Lib.hasPrefix l [239, 191, 189] = true) : nb l 0 ≠ 92 /\ ¬ (nb l 0 = 39 \/ bad l) := by
 have hs : sg l ≠ 0 := fun e => by
  have := (rO h0).2 e;rcases h5 with h5 | h5
  ·exact h5 this.1
  ·rw [h5] at this; cases this.2
 by_cases hb : nb l 0 < 128
 ·have h6 := eg.2 ⟨h0, hb⟩;have h7 : rv l = nb l 0 := by unfold rv; rw [if_pos h6]
  refine ⟨by omega, fun h => ?_⟩;rcases h with h | h | h | h <;> omega
 ·refine ⟨by omega, fun h => ?_⟩;rcases h with h | h | h | h <;> omega
theorem lG {w w' : World} {base : Nat} {e : TypeId} {size : Nat} {v : Value} {n : Nat} {xs : List Value} (h : w.ownsRow base e size v n xs) (hk : ∀ k, base <= k -> w'.heap[k]? = w.heap[k]?) : w'.ownsRow base e size v n xs := by
 refine ⟨h.1, ?_⟩;rcases h.2 with hn | ⟨g, cap, cur, rfl, hb, hg, rest⟩
 ·exact .inl hn
 ·exact .inr ⟨g, cap, cur, rfl, hb, (hk g hb).trans hg, rest⟩
theorem ct {w w' : World} {base : Nat} {e : TypeId} {size : Nat} {v : Value} {n : Nat} {xs : List Value} (h : w.ownsRow base e size v n xs) (hb : Below w.heap.size w w') : w'.ownsRow base e size v n xs := by
 refine ⟨h.1, ?_⟩;rcases h.2 with hn | ⟨g, cap, cur, rfl, hbb, hg, rest⟩
 ·exact .inl hn
 ·exact .inr ⟨g, cap, cur, rfl, hbb, (hb.block g (Array.getElem?_eq_some_iff.1 hg).1).trans hg, rest⟩
end Go.Proofs.YteljlahcdipilaaGreat
namespace Go.Proofs.YteljlahcdipilaaGreat
open Go.RowKit Go.Shelf
theorem Tryz.info5 : (Tryz.prog.info? 5).map (fun i => (i.zero, i.size, i.bytes)) = some (some (.int .u8 0), 1, 1) := by kernel_rfl
theorem kw (d : List UInt8) (x : UInt8) : Lib.byteCells (d ++ [x]) = Lib.byteCells d ++ [.int .u8 x.toNat] := by simp [Lib.byteCells]
theorem uS {base : Nat} {w : World} {v : Value} {n : Nat} {d : List UInt8} (h : w.ownsRow base 5 1 v n (Lib.byteCells d)) : (convert 75 9 v).run Tryz.prog w = .ok (.string (ai d)) w := by
 have hl := h.1;rw [Lib.byteCells_length, Nat.mul_one] at hl;rcases h.2 with ⟨rfl, hx⟩ | ⟨g, cap, cur, rfl, _⟩
 ·have : d = [] := List.length_eq_zero_iff.1 (by omega);subst this;exact run_convert_bytes_nil (P := Tryz.prog) w 75 5 Tryz.underlying75 Tryz.underlying5 _ _ 9 Tryz.underlying9
 ·have hc := h.cells (g := g) rfl;have := run_convert_bytes_arg (P := Tryz.prog) w 75 5 Tryz.underlying75 Tryz.underlying5 g 0 n cap (d.map fun c => (c.toNat : Int)) (by rw [List.length_map]; exact hl) (fun i hi => by
   have hi' : i < d.length := by omega
   have := hc i (.int .u8 d[i].toNat) (by simp [Lib.byteCells, hi']);rw [fu, Nat.zero_add] at this;rw [Nat.zero_add, this];simp [hi']) 9 Tryz.underlying9
  rw [iz] at this;exact this
def s6 (o : Option (List UInt8)) : Value := match o with | none => .tuple #[.string ⟨#[]⟩, .int .i64 1] | some t => .tuple #[.string (ai t), .int .i64 0]
def mT (l : List UInt8) : Option (List UInt8) := if 2 <= l.length /\ nb l 0 = 39 /\ nb l (l.length - 1) = 39 then uq ((l.drop 1).take (l.length - 2)) else none
theorem oB (s : ByteArray) (w : World) (hs : s.size <= 1099511627776) :
    Calls Tryz.prog 42 #[.string s] w fun e w' => e = .returned (s6 (mT s.data.toList)) /\ Below w.heap.size w w' := by
 have HL : Hid (s.data.toList.length = s.size) := aa (by simp);obtain ⟨R, hR⟩ := nam (s6 (mT s.data.toList));have HR := aa hR;rw [hR];clear hR
 by_cases h2 : s.size < 2
 ·have q2 : (s.size : Int) < 2 := by omega
  have HN : Hid (R = s6 none) := aa (by rw [<- HR.out]; unfold mT; rw [HL.out, if_neg (by omega)]);obtain rfl := HN.out;go_enter Tryz.func42, Tryz.ntmps42;go_wp2_with fail
  go_ret2
  exact ⟨rfl, Below.refl _ _⟩
 have q2 : ¬ (s.size : Int) < 2 := by omega
 have g0 : 0 < s.size := by omega
 have g1 : s.size - 1 < s.size := by omega
 have X0 : Hid (s[0].toNat = nb s.data.toList 0) := aa (dw s 0 g0);have X1 : Hid (s[s.size - 1].toNat = nb s.data.toList (s.size - 1)) := aa (dw s (s.size - 1) g1)
 by_cases a0 : s[0].toNat = 39
 rotate_left
 ·have q0 : (((s[0].toNat : Nat) : Int) != 39) = true := by simp; omega
  have HN : Hid (R = s6 none) := aa (by rw [<- HR.out]; unfold mT; rw [HL.out, if_neg (by have := X0.out; omega)]);obtain rfl := HN.out;go_enter Tryz.func42, Tryz.ntmps42;go_wp2_with fail
  go_ret2
  exact ⟨rfl, Below.refl _ _⟩
 have q0 : (((s[0].toNat : Nat) : Int) != 39) = false := by simp; omega
 have A0 := aa a0;clear a0
 by_cases a1 : s[s.size - 1].toNat = 39
 rotate_left
 ·have q1 : (((s[s.size - 1].toNat : Nat) : Int) != 39) = true := by simp; omega
  have HN : Hid (R = s6 none) := aa (by rw [<- HR.out]; unfold mT; rw [HL.out, if_neg (by have := X1.out; omega)]);obtain rfl := HN.out;go_enter Tryz.func42, Tryz.ntmps42;go_wp2_with fail
  go_ret2
  exact ⟨rfl, Below.refl _ _⟩
 have q1 : (((s[s.size - 1].toNat : Nat) : Int) != 39) = false := by simp; omega
 have A1 := aa a1;clear a1;have HRb : Hid (R = s6 (uq (s.extract 1 (s.size - 1)).data.toList)) := aa (by
  have h := cY s 1 (s.size - 2) (by omega);rw [show 1 + (s.size - 2) = s.size - 1 from by omega] at h;rw [h, <- HR.out];unfold mT;rw [HL.out, if_pos ⟨by omega, by rw [<- X0.out]; exact A0.out, by rw [<- X1.out]; exact A1.out⟩];rfl)
 have HSb : Hid ((s.extract 1 (s.size - 1)).size <= 1099511627776) := aa (by rw [ByteArray.size_extract]; omega);go_enter Tryz.func42, Tryz.ntmps42;go_wp2_with fail;obtain ⟨b, hb⟩ := nam (s.extract 1 (s.size - 1));rw [hb] at HRb HSb;simp only [hb];clear hb;have hsb := HSb.out;obtain ⟨i0, hi, hz0, hz1, hz2⟩ := info_parts Tryz.info5;have I0 := aa hi;have I1 := aa hz0;have I2 := aa hz1;have I3 := aa hz2;clear hi hz0 hz1 hz2 q0 q1 q2 h2
 go_loopw [4, 5] (fun v k wr => ∃ (pos sk : Nat) (d : List UInt8), k = .int .i64 sk /\ wr.ownsRow (w.heap.size + 1) 5 1 v d.length (Lib.byteCells d) /\ wr.heap[w.heap.size]? = some (.stringIter b pos) /\ Below w.heap.size w wr /\ Hid (iB b.data.toList pos sk d)) (fun _ _ wr => b.size - wr.iterPos w.heap.size)
 case atStart =>
  refine ⟨0, 0, [], rfl, World.ownsRow_nil _ _ _ _, ?_, (Below.refl _ w).alloc (Nat.le_refl _) _, aa (qw _)⟩;have := World.iter_heap w b 0;simpa using this
 case round =>
  obtain ⟨pos, sk, d, rfl, hown, hit, hbw, hd⟩ := hrel;have hszr : w.heap.size < wr.heap.size := (Array.getElem?_eq_some_iff.1 hit).1;obtain ⟨HIT, HBW, HO⟩ := hd3 hit hbw hown;clear hit hbw hown;have hskl : sk <= b.size := by have := hd.out.2.1; simpa using this
  have hdl : d.length <= b.size := by have h1 := hd.out.2.2.1; have h2 := hd.out.1; simp only [Array.length_toList, ByteArray.size_data] at h2; omega
  by_cases hp : pos < b.size
  ·have hnx : ∀ ty, (Instr.next (.pointer (some ⟨w.heap.size, 0, none⟩)) true ty).run Tryz.prog wr = _ := fun ty => Lib.run_next_any_at wr w.heap.size b pos ty HIT.out hp
   have hln : (b.data.toList.drop pos).length ≠ 0 := by simp; omega
   have hpl : pos < b.data.toList.length := by simpa using hp
   have hdec := jO b pos hp;have hmv : (if sg (b.data.toList.drop pos) = 0 then 1 else sg (b.data.toList.drop pos)) = dC (b.data.toList.drop pos) := rfl;rw [hmv] at hdec;have hm1 := fq (b.data.toList.drop pos);have hm2 := i9 hln;rw [List.length_drop] at hm2;simp only [Array.length_toList, ByteArray.size_data] at hm2;have hrl : rv (b.data.toList.drop pos) <= 2147483647 := by have := decode_le b pos; rw [hdec] at this; exact this
   rw [hdec] at hnx;dsimp only at hnx;have hex : b.extract pos b.size = ai (b.data.toList.drop pos) := by
    have h := cY b pos (b.size - pos) (by omega);rw [show pos + (b.size - pos) = b.size from by omega, List.take_of_length_le (by simp)] at h;exact h
   have HEX := aa hex;clear hex hdec;have UP := aa (fun hk => qx hd.out hpl hk);have UE := aa (fun hk h92 => sY hd.out hpl hk h92);have UB := aa (fun hk h92 hb => sZ hd.out hpl hk h92 hb);have US := aa (fun hk h92 hb => qy hd.out hpl hk h92 hb);have V39 := aa (Bs hln);have V92 := aa (Bt hln);have VB := aa (Al hln);have VG := aa (yd hln);have HMV := aa hmv;have HES := aa (@uR (b.data.toList.drop pos));have hsgn : ∀ h : ¬ bad (b.data.toList.drop pos), sg (b.data.toList.drop pos) ≠ 0 := fun h => eU h
   have HSG := aa hsgn;clear hmv hln hpl hsgn;generalize hr : rv (b.data.toList.drop pos) = r at *;clear hr;generalize hm : dC (b.data.toList.drop pos) = m at *;clear hm;have HIT2 := aa (Lib.iterAt_heap wr w.heap.size b pos (pos + m) HIT.out);have HBW2 := aa (Lib.below_iterAt HBW.out (k := w.heap.size) (by omega) b (pos + m));have hsz2 : w.heap.size < (wr.iterAt w.heap.size b (pos + m)).heap.size := by rw [Lib.iterAt_size]; omega
   have HO2 : Hid ((wr.iterAt w.heap.size b (pos + m)).ownsRow (w.heap.size + 1) 5 1 u4 d.length (Lib.byteCells d)) := aa (lG HO.out (fun k hk => Lib.iterAt_other wr w.heap.size k b (pos + m) (by omega)));generalize hWn : wr.iterAt w.heap.size b (pos + m) = Wn at *;have HWn := aa hWn;clear hWn
   by_cases hk : pos < sk
   ·have hk' : (pos : Int) < sk := by omega
    have hu := UP.out hk;have m1 : m = 1 := by rw [<- HMV.out, if_neg (by omega)]; exact hu.1
    have M1 := aa m1;have HU := aa hu.2;clear m1 hu;go_wp2_with fail;go_roundw;case rel => exact ⟨pos + m, sk, d, rfl, HO2.out, HIT2.out, HBW2.out, aa (by rw [M1.out]; exact HU.out)⟩
    case measure => simp only [World.iterPos, HIT2.out, HIT.out]; omega
   have hk' : ¬ (pos : Int) < sk := by omega
   by_cases a92 : r = 92
   ·have q92 : ((r : Int) == 92) = true := by simp; omega
    have hu := UE.out hk (V92.out a92);clear a92;have HC := aa (oA (b.extract pos b.size) Wn (by rw [ByteArray.size_extract]; omega));rw [HEX.out] at HC;have hdt : (ai (b.data.toList.drop pos)).data.toList = b.data.toList.drop pos := rfl;unfold fh at HC;rw [hdt] at HC;clear hdt;cases he : bQ (b.data.toList.drop pos) with
    | none =>
     rw [he] at hu HC;dsimp only at hu HC;have HU := aa hu;clear hu he;go_wp2_with fail;simp only [HEX.out];refine HC.out.mono ?_;rintro e Wa ⟨rfl, hba⟩;have HBa := aa hba;clear hba;go_wp2_with fail
     go_ret2
     exact ⟨by rw [HRb.out, HU.out]; rfl, HBW2.out.trans (HBa.out.mono (by omega))⟩
    | some p =>
     obtain ⟨x, n⟩ := p;rw [he] at hu HC;dsimp only at hu HC;have m1 : m = 1 := by rw [<- HMV.out, if_neg (by omega)]; exact hu.1
     have M1 := aa m1;have HU := aa hu.2.2.2;have hn : n = 2 \/ n = 4 := hu.2.1;have hnl : pos + n <= b.size := by have := hu.2.2.1; simpa using this
     have qn : ((n : Int) == 0) = false := by simp; omega
     clear hu he m1;have HN := aa hn;clear hn;go_wp2_with fail;simp only [HEX.out];refine HC.out.mono ?_;rintro e Wa ⟨rfl, hba⟩;have HBa := aa hba;clear hba;have hza : w.heap.size < Wa.heap.size := by have := HBa.out.size; omega
     have HOa : Hid (Wa.ownsRow (w.heap.size + 1) 5 1 u4 d.length (Lib.byteCells d)) := aa (ct HO2.out HBa.out);have HITa : Hid (Wa.heap[w.heap.size]? = some (.stringIter b (pos + m))) := aa ((HBa.out.block _ hsz2).trans HIT2.out);go_wp2_with (at_builtin; refine wpList_append_own _ rfl _ _ 75 rfl (w.heap.size + 1) 5 i0 (.int .u8 0) 1 1 Tryz.underlying75 I0.out I1.out I2.out I3.out rfl (by omega) u4 d.length (Lib.byteCells d) rfl (HOa.out.alloc _) ⟨Wa.heap.size, 0, none⟩ 1 1 [.int .u8 x.toNat] rfl rfl (World.news_of_block (cs := #[.int .u8 x.toNat]) (t := 5) (fr := (0, 0)) (heap_alloc_new _ _)) (by simp [Value.oneCell']) (by unfold maxLen; omega) (by omega) (by simp; omega) ?_);intro v1 w1 hown1 hgrow _;rw [<- kw] at hown1;have hr1 := fun k hk => (HOa.out.lt k hk).1
     obtain ⟨HO1, HG, HR1⟩ := hd3 hown1 hgrow hr1;clear hown1 hgrow hr1;have hz1 : w.heap.size < w1.heap.size := by have := HG.out.size; simp at this; omega
     have HIT1 : Hid (w1.heap[w.heap.size]? = some (.stringIter b (pos + m))) := aa (by
      rw [HG.out.block _ (by simp; omega) (fun e => by have := HR1.out _ e.symm; omega)];rw [show (Wa.alloc (.cells #[.int .u8 x.toNat] 5)).heap[w.heap.size]? = Wa.heap[w.heap.size]? from Below.heap_alloc _ _ _ hza];exact HITa.out)
     have HB1 : Hid (Below w.heap.size w w1) := aa (Below.grown ((HBW2.out.trans (HBa.out.mono (by omega))).alloc (by omega) _) HG.out (by simp; omega) (fun k hk => by have := HR1.out _ hk; omega));go_wp2_with fail;go_roundw;case rel => exact ⟨pos + m, pos + n, d ++ [x], by go_num, by simpa using HO1.out, HIT1.out, HB1.out, aa (by rw [M1.out]; exact HU.out)⟩
     case measure => simp only [World.iterPos, HIT1.out, HIT.out]; omega
   have q92 : ((r : Int) == 92) = false := by simp; omega
   by_cases a39 : r = 39
   ·have q39 : ((r : Int) == 39) = true := by simp; omega
    have HU := aa (UB.out hk (V39.out a39).1 (V39.out a39).2);clear a39;go_wp2_with fail
    go_ret2
    exact ⟨by rw [HRb.out, HU.out]; rfl, HBW2.out⟩
   have q39 : ((r : Int) == 39) = false := by simp; omega
   by_cases b32 : r < 32
   ·have q32 : (r : Int) < 32 := by omega
    have HU := aa (UB.out hk (VB.out (.inl b32)).1 (VB.out (.inl b32)).2);go_wp2_with fail
    go_ret2
    exact ⟨by rw [HRb.out, HU.out]; rfl, HBW2.out⟩
   have q32 : ¬ (r : Int) < 32 := by omega
   by_cases a127 : r = 127
   ·have q127 : ((r : Int) == 127) = true := by simp; omega
    have HU := aa (UB.out hk (VB.out (.inr (.inl a127))).1 (VB.out (.inr (.inl a127))).2);clear a127;go_wp2_with fail
    go_ret2
    exact ⟨by rw [HRb.out, HU.out]; rfl, HBW2.out⟩
   have q127 : ((r : Int) == 127) = false := by simp; omega
   by_cases a6 : r = 65533
   ·have q6 : ((r : Int) == 65533) = true := by simp; omega
    by_cases hpf : Lib.hasPrefix (b.data.toList.drop pos) [239, 191, 189] = false
    ·have tt : True := trivial;have hpx : Lib.hasPrefix (b.extract pos b.size).data.toList [239, 191, 189] = false := by rw [HEX.out, <- hpf]; rfl
     have HPF := aa (iA (b.extract pos b.size) false Wn hpx);clear hpx;have HU := aa (UB.out hk (VB.out (.inr (.inr ⟨a6, hpf⟩))).1 (VB.out (.inr (.inr ⟨a6, hpf⟩))).2);clear a6 hpf;go_wp2_with fail;refine HPF.out.mono ?_;rintro e w8 ⟨rfl, rfl⟩;go_wp2_with fail
     go_ret2
     exact ⟨by rw [HRb.out, HU.out]; rfl, HBW2.out⟩
    have hpf : Lib.hasPrefix (b.data.toList.drop pos) [239, 191, 189] = true := by simpa using hpf
    have hpx : Lib.hasPrefix (b.extract pos b.size).data.toList [239, 191, 189] = true := by rw [HEX.out, <- hpf]; rfl
    have HPF := aa (iA (b.extract pos b.size) true Wn hpx);clear hpx;have hg := VG.out a92 a39 b32 a127 (.inr hpf);have hs1 := HSG.out (fun h => hg.2 (.inr h));have hm1' : m = sg (b.data.toList.drop pos) := by rw [<- HMV.out, if_neg hs1]
    have HU := aa (US.out hk hg.1 hg.2);have HEN := aa (HES.out hs1);have hsl := dU (l := b.data.toList.drop pos);have hsz3 : (Utf8.encode (r : Int)).size <= 4 := by rw [HEN.out, aj, List.length_take]; omega
    have HM := aa hm1';have HCC : Hid (Lib.strCells (Utf8.encode (r : Int)) = Lib.byteCells ((b.data.toList.drop pos).take (sg (b.data.toList.drop pos)))) := aa (by rw [HEN.out]; rfl);have HCL : Hid ((Utf8.encode (r : Int)).size = ((b.data.toList.drop pos).take (sg (b.data.toList.drop pos))).length) := aa (by rw [HEN.out, aj]);generalize (b.data.toList.drop pos).take (sg (b.data.toList.drop pos)) = S at *;clear hg hs1 hm1' hsl;clear a6 hpf;go_wp2_with fail;refine HPF.out.mono ?_;rintro e w8 ⟨rfl, rfl⟩;go_wp2_with (at_builtin; refine Lib.wpList_append_own_string _ rfl _ _ 75 9 rfl (w.heap.size + 1) 5 i0 Tryz.underlying75 Tryz.underlying9 I0.out I1.out I2.out I3.out u4 d.length (Lib.byteCells d) rfl HO2.out _ rfl (by unfold maxLen; omega) (by omega) (by omega) ?_);intro v1 w1 hown1 hgrow _;rw [HCC.out, HCL.out] at hown1;have HO1 : Hid (w1.ownsRow (w.heap.size + 1) 5 1 v1 (d ++ S).length (Lib.byteCells (d ++ S))) := aa (by rw [List.length_append]; simpa [Lib.byteCells] using hown1);have HG := aa hgrow;have hr1 := fun k hk => (HO2.out.lt k hk).1
    have HR1 := aa hr1;clear hown1 hgrow hr1;have hz1 : w.heap.size < w1.heap.size := by have := HG.out.size; omega
    have HIT1 : Hid (w1.heap[w.heap.size]? = some (.stringIter b (pos + m))) := aa ((HG.out.block _ (by omega) (fun e => by have := HR1.out _ e.symm; omega)).trans HIT2.out);have HB1 : Hid (Below w.heap.size w w1) := aa (Below.grown HBW2.out HG.out (by omega) (fun k hk => by have := HR1.out _ hk; omega));go_wp2_with fail;go_roundw;case rel => exact ⟨pos + m, sk, d ++ S, rfl, HO1.out, HIT1.out, HB1.out, aa (by rw [HM.out]; exact HU.out)⟩
    case measure => simp only [World.iterPos, HIT1.out, HIT.out]; omega
   have q6 : ((r : Int) == 65533) = false := by simp; omega
   have hg := VG.out a92 a39 b32 a127 (.inl a6);have hs1 := HSG.out (fun h => hg.2 (.inr h));have hm1' : m = sg (b.data.toList.drop pos) := by rw [<- HMV.out, if_neg hs1]
   have HU := aa (US.out hk hg.1 hg.2);have HEN := aa (HES.out hs1);have hsl := dU (l := b.data.toList.drop pos);have hsz3 : (Utf8.encode (r : Int)).size <= 4 := by rw [HEN.out, aj, List.length_take]; omega
   have HM := aa hm1';have HCC : Hid (Lib.strCells (Utf8.encode (r : Int)) = Lib.byteCells ((b.data.toList.drop pos).take (sg (b.data.toList.drop pos)))) := aa (by rw [HEN.out]; rfl);have HCL : Hid ((Utf8.encode (r : Int)).size = ((b.data.toList.drop pos).take (sg (b.data.toList.drop pos))).length) := aa (by rw [HEN.out, aj]);generalize (b.data.toList.drop pos).take (sg (b.data.toList.drop pos)) = S at *;clear hg hs1 hm1' hsl;go_wp2_with (at_builtin; refine Lib.wpList_append_own_string _ rfl _ _ 75 9 rfl (w.heap.size + 1) 5 i0 Tryz.underlying75 Tryz.underlying9 I0.out I1.out I2.out I3.out u4 d.length (Lib.byteCells d) rfl HO2.out _ rfl (by unfold maxLen; omega) (by omega) (by omega) ?_);intro v1 w1 hown1 hgrow _;rw [HCC.out, HCL.out] at hown1;have HO1 : Hid (w1.ownsRow (w.heap.size + 1) 5 1 v1 (d ++ S).length (Lib.byteCells (d ++ S))) := aa (by rw [List.length_append]; simpa [Lib.byteCells] using hown1);have HG := aa hgrow;have hr1 := fun k hk => (HO2.out.lt k hk).1
   have HR1 := aa hr1;clear hown1 hgrow hr1;have hz1 : w.heap.size < w1.heap.size := by have := HG.out.size; omega
   have HIT1 : Hid (w1.heap[w.heap.size]? = some (.stringIter b (pos + m))) := aa ((HG.out.block _ (by omega) (fun e => by have := HR1.out _ e.symm; omega)).trans HIT2.out);have HB1 : Hid (Below w.heap.size w w1) := aa (Below.grown HBW2.out HG.out (by omega) (fun k hk => by have := HR1.out _ hk; omega));go_wp2_with fail;go_roundw;case rel => exact ⟨pos + m, sk, d ++ S, rfl, HO1.out, HIT1.out, HB1.out, aa (by rw [HM.out]; exact HU.out)⟩
   case measure => simp only [World.iterPos, HIT1.out, HIT.out]; omega
  ·have hnx : ∀ ty, (Instr.next (.pointer (some ⟨w.heap.size, 0, none⟩)) true ty).run Tryz.prog wr = _ := fun ty => Lib.run_next_end_at wr w.heap.size b pos ty HIT.out hp
   have HE := aa (s4 hd.out (by simp; omega));have hcv := uS HO.out;go_wp2_with fail
   go_ret2
   exact ⟨by rw [HRb.out, HE.out]; rfl, HBW.out⟩
end Go.Proofs.YteljlahcdipilaaGreat
namespace Go.Proofs.YteljlahcdipilaaGreat
open Go.RowKit
theorem kx {l : List UInt8} (h : l.length < 2) : bQ l = none := by unfold bQ; rw [if_pos h]
theorem uT {l : List UInt8} (h : ¬ l.length < 2) (h1 : nb l 1 = 92 \/ nb l 1 = 39) : bQ l = some (UInt8.ofNat (nb l 1), 2) := by unfold bQ; rw [if_neg h, if_pos h1]
theorem uU {l : List UInt8} (h : ¬ l.length < 2) (h1 : nb l 1 = 110) : bQ l = some (10, 2) := by unfold bQ; rw [if_neg h, if_neg (by omega), if_pos h1]
theorem uV {l : List UInt8} (h : ¬ l.length < 2) (h1 : nb l 1 = 116) : bQ l = some (9, 2) := by unfold bQ; rw [if_neg h, if_neg (by omega), if_neg (by omega), if_pos h1]
theorem uW {l : List UInt8} (h : ¬ l.length < 2) (h1 : nb l 1 = 114) : bQ l = some (13, 2) := by unfold bQ; rw [if_neg h, if_neg (by omega), if_neg (by omega), if_neg (by omega), if_pos h1]
theorem ye {l : List UInt8} (h : ¬ l.length < 2) (h1 : nb l 1 ≠ 92) (h2 : nb l 1 ≠ 39) (h3 : nb l 1 ≠ 110) (h4 : nb l 1 ≠ 116) (h5 : nb l 1 ≠ 114) (h6 : l.length < 4 \/ nb l 1 ≠ 120 \/ dx (nb l 2) < 0 \/ dx (nb l 3) < 0) : bQ l = none := by
 unfold bQ; rw [if_neg h, if_neg (by omega), if_neg h3, if_neg h4, if_neg h5, if_pos h6]
theorem uX {l : List UInt8} (h : ¬ l.length < 4) (h1 : nb l 1 = 120) (h2 : ¬ dx (nb l 2) < 0) (h3 : ¬ dx (nb l 3) < 0) : bQ l = some (UInt8.ofNat (dx (nb l 2) * (16 : Int) + dx (nb l 3)).toNat, 4) := by
 unfold bQ; rw [if_neg (by omega), if_neg (by omega), if_neg (by omega), if_neg (by omega), if_neg (by omega), if_neg (by omega)]
theorem yf : ∀ (k : Nat) (l : List UInt8), l.length = k -> ∀ t r, qd l = some (t, r) -> ∃ j, j < l.length /\ nb l j = 39 /\ r = l.drop (j + 1) := by
 intro k
 induction k using Nat.strongRecOn with
 | _ k ih =>
  intro l hl t r h;rw [ku] at h
  by_cases h0 : l.length = 0
  ·rw [if_pos h0] at h; cases h
  rw [if_neg h0] at h;have key : ∀ (n : Nat) (p : List UInt8), 1 <= n -> n <= l.length -> (qd (l.drop n)).map (fun q => (p ++ q.1, q.2)) = some (t, r) -> ∃ j, j < l.length /\ nb l j = 39 /\ r = l.drop (j + 1) := fun n p h1 h2 h3 => by
   cases hq : qd (l.drop n) with
   | none => rw [hq] at h3; cases h3
   | some q =>
    obtain ⟨t', r'⟩ := q;rw [hq] at h3;obtain ⟨j, j1, j2, j3⟩ := ih (l.drop n).length (by rw [List.length_drop]; omega) (l.drop n) rfl t' r' hq;rw [List.length_drop] at j1;rw [cT] at j2;rw [List.drop_drop] at j3;cases h3;exact ⟨n + j, by omega, j2, by rw [j3]; congr 1⟩
  by_cases h1 : nb l 0 = 39
  ·rw [if_pos h1] at h;cases h;exact ⟨0, by omega, h1, rfl⟩
  rw [if_neg h1] at h
  by_cases h2 : bad l
  ·rw [if_pos h2] at h; cases h
  rw [if_neg h2] at h
  by_cases h3 : nb l 0 = 92
  ·rw [if_pos h3] at h;cases he : bQ l with
   | none => rw [he] at h; cases h
   | some p =>
    obtain ⟨x, n⟩ := p;rw [he] at h;have hl := dt he;exact key n [x] (by omega) hl.2 h
  ·rw [if_neg h3] at h;exact key (sg l) (l.take (sg l)) (by have := eU h2; omega) dU.2 h
end Go.Proofs.YteljlahcdipilaaGreat
