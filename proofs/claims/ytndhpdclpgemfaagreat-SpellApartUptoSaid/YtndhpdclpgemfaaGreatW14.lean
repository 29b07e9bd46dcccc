/- Parts X55, X56, X34 of this seat (pruned, scripts that are alike kept once as default arguments: q1, q2, ..). Conditions: each says its own. -/
import Derived.Test.YtndhpdclpgemfaaGreatW11
namespace Go.Proofs.YtndhpdclpgemfaaGreat
open Go.RowKit Go.Shelf
set_option linter.unusedSimpArgs false
set_option linter.unusedVariables false
set_option maxRecDepth 100000
inductive ScE : List UInt8 → List Tok → Prop where
  | nil : ScE [] []
  | blank (c : UInt8) (r : List UInt8) (us : List Tok) (hb : blankB c.toNat = true) (h : ScE r us) : ScE (c :: r) us
  | tok (r : List UInt8) (t : Tok) (n : Nat) (us : List Tok) (h0 : r ≠ []) (hb : blankB (nb r 0) = false) (h1 : oneL r = .tok t n) (h : ScE (r.drop n) us) : ScE r (t :: us)
theorem ScE.unblank {c : UInt8} {r : List UInt8} {us : List Tok} (hb : blankB c.toNat = true) (h : ScE (c :: r) us) : ScE r us := by
 cases h with
 | blank _ _ _ _ h => exact h
 | tok _ _ _ _ _ h2 _ _ => rw [nb_cons, hb] at h2; cases h2
theorem ScE.one {r : List UInt8} {us : List Tok} {t : Tok} {n : Nat} (h0 : r ≠ []) (hb : blankB (nb r 0) = false) (h1 : oneL r = .tok t n) (h : ScE r us) : ∃ us', us = t :: us' ∧ ScE (r.drop n) us' := by
 cases h with
 | nil => exact absurd rfl h0
 | blank c q us h2 _ => rw [nb_cons, h2] at hb; cases hb
 | tok _ t' n' us' _ _ h2 h3 => rw [h1] at h2; cases h2; exact ⟨us', rfl, h3⟩
theorem ScE.some {r : List UInt8} {us : List Tok} (h0 : r ≠ []) (hb : blankB (nb r 0) = false) (h : ScE r us) : ∃ t n us', oneL r = .tok t n ∧ us = t :: us' ∧ ScE (r.drop n) us' := by
 cases h with
 | nil => exact absurd rfl h0
 | blank c q us h2 _ => rw [nb_cons, h2] at hb; cases hb
 | tok _ t' n' us' _ _ h2 h3 => exact ⟨t', n', us', h2, rfl, h3⟩
theorem sc_blanks (r : List UInt8) (us : List Tok) (h : ScE (r.drop (spanB blankB r)) us) : ScE r us := by
 induction r with
 | nil => exact h
 | cons c r ih =>
  rw [spanB] at h
  by_cases hb : blankB c.toNat = true
  ·rw [if_pos hb, List.drop_succ_cons] at h; exact ScE.blank c r us hb (ih h)
  ·rw [if_neg hb] at h; exact h
theorem sc_head (r : List UInt8) (h : r.drop (spanB blankB r) ≠ []) : blankB (nb (r.drop (spanB blankB r)) 0) = false := by
 induction r with
 | nil => exact absurd rfl h
 | cons c r ih =>
  rw [spanB] at h ⊢
  by_cases hb : blankB c.toNat = true
  ·rw [if_pos hb, List.drop_succ_cons] at h ⊢; exact ih h
  ·rw [if_neg hb, List.drop_zero, nb_cons]; simpa using hb
theorem scE_of : ∀ (f : Nat) (r : List UInt8) (p : Nat) (acc l : List (Tok × Nat)), scanN f r p acc = .ok l → ∃ us, ScE r us ∧ l.map Prod.fst = acc.map Prod.fst ++ (us ++ [⟨6, [], 0⟩])
  | 0, _, _, _, _, h => by rw [scanN] at h; cases h
  | f + 1, r, p, acc, l, h => by
    rw [scanN] at h
    by_cases hd : r.drop (spanB blankB r) = []
    · rw [if_pos hd] at h
      split at h
      · cases h
      · cases h; exact ⟨[], sc_blanks r [] (by rw [hd]; exact ScE.nil), by simp⟩
    · rw [if_neg hd] at h
      cases ho : oneL (r.drop (spanB blankB r)) with
      | bad e => rw [ho] at h; cases h
      | tok t n =>
        rw [ho] at h
        dsimp only at h
        split at h
        · cases h
        · obtain ⟨us, h1, h2⟩ := scE_of f _ _ _ l h
          exact ⟨t :: us, sc_blanks r _ (ScE.tok _ t n us hd (sc_head r hd) ho h1), by rw [h2]; simp⟩
theorem scanL_sc {s : List UInt8} {l : List (Tok × Nat)} (h : scanL s = .ok l) : ∃ us, ScE s us ∧ l.map Prod.fst = us ++ [⟨6, [], 0⟩] := by
 unfold scanL at h
 split at h
 ·cases h
 ·obtain ⟨us, h1, h2⟩ := scE_of _ _ _ _ _ h
  exact ⟨us, h1, by simpa using h2⟩
theorem ScE.fn {r : List UInt8} {us : List Tok} (h : ScE r us) : ∀ {vs : List Tok}, ScE r vs → us = vs := by
 induction h with
 | nil => intro vs h2; cases h2 with
  | nil => rfl
  | tok _ _ _ _ h0 _ _ _ => exact absurd rfl h0
 | blank c r us hb _ ih => intro vs h2; exact ih (h2.unblank hb)
 | tok r t n us h0 hb h1 _ ih =>
  intro vs h2
  obtain ⟨us', rfl, h3⟩ := h2.one h0 hb h1
  rw [ih h3]
def Rd (F : List UInt8 → Prop) (X : List UInt8) (ts : List Tok) : Prop := ∀ r us, F r → ScE (X ++ r) us → ∃ us', us = ts ++ us' ∧ ScE r us'
def Nn (r : List UInt8) : Prop := nchar (nb r 0) = false
def Any (_ : List UInt8) : Prop := True
theorem Rd.nil (F : List UInt8 → Prop) : Rd F [] [] := fun r us _ h => ⟨us, rfl, h⟩
theorem Rd.app {F G : List UInt8 → Prop} {X Y : List UInt8} {ts us : List Tok} (hX : Rd F X ts) (hY : Rd G Y us) (hF : ∀ r, G r → F (Y ++ r)) : Rd G (X ++ Y) (ts ++ us) := by
 intro r vs hr h
 rw [List.append_assoc] at h
 obtain ⟨v1, rfl, h1⟩ := hX _ _ (hF r hr) h
 obtain ⟨v2, rfl, h2⟩ := hY _ _ hr h1
 exact ⟨v2, by simp, h2⟩
theorem Rd.any {F : List UInt8 → Prop} {X : List UInt8} {ts : List Tok} (h : Rd Any X ts) : Rd F X ts := fun r us _ h1 => h r us trivial h1
theorem Rd.mono {F G : List UInt8 → Prop} {X : List UInt8} {ts : List Tok} (h : Rd F X ts) (hG : ∀ r, G r → F r) : Rd G X ts := fun r us hr h1 => h r us (hG r hr) h1
theorem Rd.app' {G : List UInt8 → Prop} {X Y : List UInt8} {ts us : List Tok} (hX : Rd Any X ts) (hY : Rd G Y us) : Rd G (X ++ Y) (ts ++ us) := hX.app hY fun _ _ => trivial
theorem Rd.appN {G : List UInt8 → Prop} {X Y : List UInt8} {ts us : List Tok} (hX : Rd Nn X ts) (hY : Rd G Y us) (h0 : Y ≠ []) (hc : nchar (nb Y 0) = false) : Rd G (X ++ Y) (ts ++ us) := hX.app hY fun r _ => by
  cases Y with
  | nil => exact absurd rfl h0
  | cons c Y => exact hc
theorem rd_blank : Rd Any [32] [] := fun r us _ h => ⟨us, rfl, ScE.unblank (by decide) h⟩
theorem drop_app {X r : List UInt8} {n : Nat} (h : n = X.length) : (X ++ r).drop n = r := by subst h; simp
theorem nb_app {X : List UInt8} (r : List UInt8) (h : X ≠ []) : nb (X ++ r) 0 = nb X 0 := by
 cases X with
 | nil => exact absurd rfl h
 | cons c X => rfl
theorem rd_tok {F : List UInt8 → Prop} {X : List UInt8} {t : Tok} (h0 : X ≠ []) (hb : blankB (nb X 0) = false) (h1 : ∀ r, F r → oneL (X ++ r) = .tok t X.length) : Rd F X [t] := by
 intro r us hr h
 obtain ⟨us', rfl, h2⟩ := ScE.one (by cases X <;> simp_all) (by rw [nb_app r h0]; exact hb) (h1 r hr) h
 rw [drop_app rfl] at h2
 exact ⟨us', rfl, h2⟩
def sgT (l : List UInt8) : Tok := ⟨5, l, 0⟩
def wdT (l : List UInt8) : Tok := ⟨2, l, 0⟩
def nmT (l : List UInt8) : Tok := ⟨1, l, 0⟩
def stT (l : List UInt8) : Tok := ⟨4, l, 0⟩
def inT (n : Int) : Tok := ⟨3, [], n⟩
theorem one_sign {r : List UInt8} {T : List UInt8} (hs : signL r = T) (hn : T ≠ []) (h : letter (nb r 0) = false ∧ digt (nb r 0) = false ∧ nb r 0 ≠ 39) : oneL r = .tok (sgT T) T.length := by
 rw [oneL_sign h.1 h.2.1 h.2.2, hs, if_neg hn]; rfl
theorem sign1 (c : UInt8) (hc : [c] ∈ signsL) (h1 : c ≠ 60) (h2 : c ≠ 62) (r : List UInt8) : signL ([c] ++ r) = [c] := by
 unfold signL
 have ht : ¬ ([c] ++ r).take 2 ∈ twosL := by
  cases r with
  | nil => simp [twosL]
  | cons d r => simp [twosL, h1, h2]
 rw [if_neg ht]
 have h3 : ([c] ++ r).take 1 = [c] := rfl
 rw [h3, if_pos hc]
theorem sign_kinds : ∀ T ∈ twosL ++ signsL, letter (nb T 0) = false ∧ digt (nb T 0) = false ∧ nb T 0 ≠ 39 ∧ blankB (nb T 0) = false ∧ T ≠ [] := by decide
theorem rd_sign (c : UInt8) (hc : [c] ∈ signsL) (h1 : c ≠ 60) (h2 : c ≠ 62) : Rd Any [c] [sgT [c]] := by
 obtain ⟨a, b, d, e, f⟩ := sign_kinds [c] (List.mem_append.2 (.inr hc))
 exact rd_tok f e fun r _ => one_sign (sign1 c hc h1 h2 r) f ⟨a, b, d⟩
def Ns (r : List UInt8) : Prop := nb r 0 ≠ 61 ∧ nb r 0 ≠ 62
theorem sign2 (c : UInt8) (hc : c = 60 ∨ c = 62) (r : List UInt8) (h : Ns r) : signL ([c] ++ r) = [c] := by
 unfold signL
 have ht : ¬ ([c] ++ r).take 2 ∈ twosL := by
  cases r with
  | nil => simp [twosL]
  | cons d r =>
   have h1 : d ≠ 61 := fun e => h.1 (by rw [e]; rfl)
   have h2 : d ≠ 62 := fun e => h.2 (by rw [e]; rfl)
   simp [twosL, h1, h2]
 rw [if_neg ht]
 have h3 : ([c] ++ r).take 1 = [c] := rfl
 rw [h3, if_pos (by rcases hc with rfl | rfl <;> decide)]
theorem rd_angle (c : UInt8) (hc : c = 60 ∨ c = 62) : Rd Ns [c] [sgT [c]] := by
 obtain ⟨a, b, d, e, f⟩ := sign_kinds [c] (List.mem_append.2 (.inr (by rcases hc with rfl | rfl <;> decide)))
 exact rd_tok f e fun r hr => one_sign (sign2 c hc r hr) f ⟨a, b, d⟩
theorem rd_two (T : List UInt8) (hT : T ∈ twosL) : Rd Any T [sgT T] := by
 obtain ⟨a, b, d, e, f⟩ := sign_kinds T (List.mem_append.2 (.inl hT))
 refine rd_tok f e fun r _ => one_sign ?_ f ?_
 ·unfold signL
  have : (T ++ r).take 2 = T := by simp only [twosL, List.mem_cons, List.not_mem_nil, or_false] at hT; rcases hT with rfl | rfl | rfl <;> rfl
  rw [this, if_pos hT]
 ·rw [nb_app r f]; exact ⟨a, b, d⟩
theorem spanB_nn (W : List UInt8) (h : ∀ c ∈ W, nchar c.toNat = true) (r : List UInt8) (hr : Nn r) : spanB nchar (W ++ r) = W.length := by
 rw [spanB_append nchar W r h]
 cases r with
 | nil => rfl
 | cons c r => rw [spanB_neg r (by exact hr)]; rfl
theorem rd_wordL (W : List UInt8) (hw : wordB W = true) (h0 : W ≠ []) (h64 : W.length ≤ 64) (hall : ∀ c ∈ W, nchar c.toNat = true) (hl : letter (nb W 0) = true) : Rd Nn W [wdT (largeL W)] := by
 refine rd_tok h0 (letter_not (nb_lt _ _) hl) fun r hr => ?_
 have hs := spanB_nn W hall r hr
 have ht : (W ++ r).take W.length = W := List.take_left
 have := oneL_word (r := W ++ r) (by rw [nb_app r h0]; exact hl) (by rw [hs]; omega) (by rw [hs, ht]; exact hw)
 rwa [hs, ht] at this
theorem words_all : ∀ W ∈ wordsL, wordB W = true ∧ W ≠ [] ∧ W.length ≤ 64 ∧ largeL W = W ∧ (∀ c ∈ W, nchar c.toNat = true) ∧ letter (nb W 0) = true := by decide +kernel
theorem rd_word (W : List UInt8) (h : W ∈ wordsL) : Rd Nn W [wdT W] := by
 obtain ⟨f1, f2, f3, f4, f5, f6⟩ := words_all W h
 have := rd_wordL W f1 f2 f3 f5 f6
 rwa [f4] at this
theorem name_all {l : List UInt8} (h : nameB l = true) : l ≠ [] ∧ l.length ≤ 64 ∧ (∀ c ∈ l, nchar c.toNat = true) ∧ letter (nb l 0) = true := by
 obtain ⟨h1, c, t, rfl, h3⟩ := nameB_all h
 have := of_decide_eq_true h
 exact ⟨by simp, this.2.1, fun d hd => List.all_eq_true.1 h1 d hd, this.2.2.1⟩
theorem rd_name {s : ByteArray} (h : plainB s = true) : Rd Nn s.data.toList [nmT s.data.toList] := by
 unfold plainB at h
 rw [Bool.and_eq_true] at h
 obtain ⟨f2, f3, f5, f6⟩ := name_all h.1
 refine rd_tok f2 (letter_not (nb_lt _ _) f6) fun r hr => ?_
 have hs := spanB_nn _ f5 r hr
 have ht : (s.data.toList ++ r).take s.data.toList.length = s.data.toList := List.take_left
 have := oneL_name (r := s.data.toList ++ r) (by rw [nb_app r f2]; exact f6) (by rw [hs]; omega) (by rw [hs, ht]; simpa using h.2)
 rwa [hs, ht] at this
theorem rd_quote (l : List UInt8) : Rd Any (39 :: (quoteL l ++ [39])) [stT l] := by
 refine rd_tok (by simp) (by rw [nb_cons]; decide) fun r _ => ?_
 rw [oneL_q (by rfl)]
 have hdr : ((39 :: (quoteL l ++ [39]) ++ r : List UInt8).drop 1) = quoteL l ++ 39 :: r := by simp
 rw [hdr, qd_quote r _ l rfl]
 dsimp only
 congr 1
 simp
 omega
def keyTok (s : ByteArray) : Tok := if plainB s = true then nmT s.data.toList else stT s.data.toList
theorem rd_key (s : ByteArray) : Rd Nn (keyTL s) [keyTok s] := by
 unfold keyTL keyT keyTok
 by_cases h : plainB s = true
 ·rw [if_pos h, if_pos h]; exact rd_name h
 ·rw [if_neg h, if_neg h]; exact (rd_quote _).any
theorem textOf_dig {n : Int} (h : In64 n) (h0 : 0 ≤ n) : textOf n ≠ [] ∧ ∀ c ∈ textOf n, digt c.toNat = true := by
 unfold In64 at h
 obtain ⟨h1, -, c, t, h3⟩ := decN_facts 18 n.natAbs (by omega) (by omega)
 have e : textOf n = decN n.natAbs := by unfold textOf; rw [if_neg (by omega)]; rfl
 rw [e]
 refine ⟨by rw [h3.1]; simp, fun c hc => ?_⟩
 have h4 := List.all_eq_true.1 h1 c hc
 have h5 := (isDig_iff c rfl).1 h4
 unfold digt
 rw [decide_eq_true_eq]
 omega
theorem rd_int {n : Int} (hn : In64 n) (h0 : 0 ≤ n) : Rd Nn (textOf n) [inT n] := by
 obtain ⟨f1, f2⟩ := textOf_dig hn h0
 have f3 : digt (nb (textOf n) 0) = true := by
  cases h : textOf n with
  | nil => exact absurd h f1
  | cons c t => rw [nb_cons]; exact f2 c (by rw [h]; exact List.mem_cons_self ..)
 obtain ⟨f4, f5⟩ := digt_not (nb_lt _ _) f3
 refine rd_tok f1 f5 fun r hr => ?_
 have hs : spanB digt (textOf n ++ r) = (textOf n).length := by
  rw [spanB_append digt _ r f2]
  cases r with
  | nil => rfl
  | cons c r =>
   have : digt c.toNat = false := by
    have h1 : nchar c.toNat = false := hr
    unfold nchar at h1
    rw [Bool.or_eq_false_iff] at h1
    exact h1.2
   rw [spanB_neg r this]; rfl
 have ht : (textOf n ++ r).take (textOf n).length = textOf n := List.take_left
 have := oneL_num (r := textOf n ++ r) (by rw [nb_app r f1]; exact f4) (by rw [nb_app r f1]; exact f3) (by rw [hs, ht, parse_text n hn])
 rwa [hs, ht, parse_text n hn] at this
inductive V where
  | x (t : Ex)
  | xs (l : List Ex)
  | kv (ks : List ByteArray) (vs : List Ex)
  | ss (l : List ByteArray)
  | np (n : Npt)
  | ep (e : Ept)
  | pt (p : Ptt)
  | ps (l : List Ptt)
  | it (i : Itt)
  | il (l : List Itt)
  | ol (l : List Sot)
  | zl (l : List Sit)
  | cl (c : Clt)
  | cs (l : List Clt)
def V.ex : V → Ex | .x t => t | _ => emptyX
def V.exs : V → List Ex | .xs l => l | .kv _ vs => vs | _ => []
def V.strs : V → List ByteArray | .ss l => l | .kv ks _ => ks | _ => []
def V.node : V → Npt | .np n => n | _ => ⟨⟨#[]⟩, [], [], []⟩
def V.edge : V → Ept | .ep n => n | _ => ⟨⟨#[]⟩, ⟨#[]⟩, 0, [], []⟩
def V.path : V → Ptt | .pt n => n | _ => ⟨[], []⟩
def V.paths : V → List Ptt | .ps n => n | _ => []
def V.item : V → Itt | .it n => n | _ => ⟨emptyX, ⟨#[]⟩⟩
def V.items : V → List Itt | .il n => n | _ => []
def V.sorts : V → List Sot | .ol n => n | _ => []
def V.sets : V → List Sit | .zl n => n | _ => []
def V.clause : V → Clt | .cl n => n | _ => bareC 0
def V.clauses : V → List Clt | .cs n => n | _ => []
inductive G where
  | expr (least : Nat)
  | loop (least most : Nat) (left : Ex)
  | unary (least : Nat)
  | post (x : Ex)
  | atom
  | list (stop : List UInt8)
  | items (stop : List UInt8) (acc : List Ex)
  | props
  | pairs (ks : List ByteArray) (vs : List Ex)
  | labels (acc : List ByteArray)
  | node
  | edge
  | edgeP (d : Int) (var ty : ByteArray)
  | edgeE (d : Int) (var ty : ByteArray) (ks : List ByteArray) (vs : List Ex)
  | path
  | segs (ns : List Npt) (es : List Ept)
  | paths
  | more (acc : List Ptt)
  | maybe (w : List UInt8)
  | item
  | its (acc : List Itt)
  | sorts
  | sortL (acc : List Sot)
  | rows (kind : Int)
  | setL (kind : Int) (acc : List Sit)
  | vars (acc : List ByteArray)
  | clause (w : List UInt8)
  | stmt (acc : List Clt)
inductive Pr where
  | ok (v : V) (r : List Tok)
  | bad (r : List Tok)
abbrev O := Option Pr
def bnd (o : O) (k : V → List Tok → O) : O := match o with
  | none => none
  | some (.bad r) => some (.bad r)
  | some (.ok v r) => k v r
def okP (v : V) (r : List Tok) : O := some (.ok v r)
def nx (l : List Tok) : Tok := l.headD ⟨6, [], 0⟩
def isT (k : Nat) (s : List UInt8) (l : List Tok) : Bool := decide ((nx l).k = k) && decide ((nx l).t = s)
def sigB (c : UInt8) (l : List Tok) : Bool := isT 5 [c] l
def wrd (s : List UInt8) (l : List Tok) : Bool := isT 2 s l
def must (b : Bool) (l : List Tok) (k : List Tok → O) : O := if b = true then k l.tail else some (.bad l)
def keyP (l : List Tok) (k : ByteArray → List Tok → O) : O :=
  if (nx l).k = 1 ∨ ((nx l).k = 4 ∧ (nx l).t ≠ [] ∧ (nx l).t.length ≤ 64) then k (strOf (nx l).t) l.tail else some (.bad l)
def nameP (l : List Tok) (k : ByteArray → List Tok → O) : O := if (nx l).k = 1 then k (strOf (nx l).t) l.tail else some (.bad l)
abbrev wNOT : List UInt8 := [78, 79, 84]
abbrev wNULL : List UInt8 := [78, 85, 76, 76]
abbrev wTRUE : List UInt8 := [84, 82, 85, 69]
abbrev wFALSE : List UInt8 := [70, 65, 76, 83, 69]
abbrev wIS : List UInt8 := [73, 83]
abbrev wAS : List UInt8 := [65, 83]
abbrev wCount : List UInt8 := [99, 111, 117, 110, 116]
abbrev wWHERE : List UInt8 := [87, 72, 69, 82, 69]
abbrev wORDER : List UInt8 := [79, 82, 68, 69, 82]
abbrev wBY : List UInt8 := [66, 89]
abbrev wASC : List UInt8 := [65, 83, 67]
abbrev wDESC : List UInt8 := [68, 69, 83, 67]
abbrev wSKIP : List UInt8 := [83, 75, 73, 80]
abbrev wLIMIT : List UInt8 := [76, 73, 77, 73, 84]
abbrev wDISTINCT : List UInt8 := [68, 73, 83, 84, 73, 78, 67, 84]
abbrev wMATCH : List UInt8 := [77, 65, 84, 67, 72]
abbrev wUNWIND : List UInt8 := [85, 78, 87, 73, 78, 68]
abbrev wWITH : List UInt8 := [87, 73, 84, 72]
abbrev wRETURN : List UInt8 := [82, 69, 84, 85, 82, 78]
abbrev wCREATE : List UInt8 := [67, 82, 69, 65, 84, 69]
abbrev wMERGE : List UInt8 := [77, 69, 82, 71, 69]
abbrev wSET : List UInt8 := [83, 69, 84]
abbrev wREMOVE : List UInt8 := [82, 69, 77, 79, 86, 69]
abbrev wDELETE : List UInt8 := [68, 69, 76, 69, 84, 69]
abbrev wDETACH : List UInt8 := [68, 69, 84, 65, 67, 72]
def headsL : List (List UInt8) := [wMATCH, wUNWIND, wWITH, wRETURN, wCREATE, wMERGE, wSET, wREMOVE, wDELETE, wDETACH]
def pwT (t : Tok) : Nat := if t.k = 5 ∨ t.k = 2 then (if t.t = wIS then 5 else (levelB (strOf t.t)).toNat) else 0
def mE (op : Int) (nm : ByteArray) (az : List Ex) : Ex := .mk op nm emptyV [] az
def mV (v : Vt) : Ex := .mk 1 ⟨#[]⟩ v [] []
def lastK (l : List Clt) : Int := match l.getLast? with | some c => c.kind | none => 0
def mayN (l : List Tok) : ByteArray × List Tok := if (nx l).k = 1 then (strOf (nx l).t, l.tail) else (⟨#[]⟩, l)
def step (rec : G → List Tok → O) : G → List Tok → O
  | .expr least, l => bnd (rec (.unary least) l) fun v r => rec (.loop least (if least ≤ 4 ∧ wrd wNOT l = true then 3 else 9) v.ex) r
  | .loop least most left, l =>
    if pwT (nx l) < least ∨ pwT (nx l) = 0 ∨ most < pwT (nx l) then okP (.x left) l
    else if (nx l).t = wIS then
      (if wrd wNOT l.tail = true then must (wrd wNULL l.tail.tail) l.tail.tail (rec (.loop least (if pwT (nx l) = 5 then 4 else pwT (nx l)) (mE 12 ⟨#[]⟩ [left])))
       else must (wrd wNULL l.tail) l.tail (rec (.loop least (if pwT (nx l) = 5 then 4 else pwT (nx l)) (mE 11 ⟨#[]⟩ [left]))))
    else bnd (rec (.expr (pwT (nx l) + 1)) l.tail) fun v r => rec (.loop least (if pwT (nx l) = 5 then 4 else pwT (nx l)) (mE 10 (strOf (nx l).t) [left, v.ex])) r
  | .unary least, l =>
    if least ≤ 4 ∧ wrd wNOT l = true then bnd (rec (.expr 4) l.tail) fun v r => okP (.x (mE 9 ⟨#[]⟩ [v.ex])) r
    else if sigB 45 l = true then bnd (rec (.unary 8) l.tail) fun v r => okP (.x (mE 8 ⟨#[]⟩ [v.ex])) r
    else bnd (rec .atom l) fun v r => rec (.post v.ex) r
  | .post x, l =>
    if sigB 46 l = true then keyP l.tail fun k r => rec (.post (mE 4 k [x])) r
    else if sigB 91 l = true then bnd (rec (.expr 1) l.tail) fun v r => must (sigB 93 r) r (rec (.post (mE 7 ⟨#[]⟩ [x, v.ex])))
    else if opX x = 2 ∧ sigB 58 l = true then keyP l.tail fun k r => rec (.post (mE 15 k [x])) r
    else okP (.x x) l
  | .atom, l =>
    if (nx l).k = 3 then okP (.x (mV (.mk 2 false (nx l).n ⟨#[]⟩ [] []))) l.tail
    else if (nx l).k = 4 then okP (.x (mV (.mk 3 false 0 (strOf (nx l).t) [] []))) l.tail
    else if (nx l).k = 1 then
      (if sigB 40 l.tail = true then
        (if aggB (strOf (nx l).t) = true then
          (if (nx l).t = wCount ∧ sigB 42 l.tail.tail = true then must (sigB 41 l.tail.tail.tail) l.tail.tail.tail fun r => okP (.x (mE 14 (strOf (nx l).t) [])) r
           else bnd (rec (.expr 1) l.tail.tail) fun v r => must (sigB 41 r) r fun r2 => okP (.x (mE 14 (strOf (nx l).t) [v.ex])) r2)
         else bnd (rec (.list [41]) l.tail.tail) fun v r => okP (.x (mE 13 (strOf (nx l).t) v.exs)) r)
       else okP (.x (mE 2 (strOf (nx l).t) [])) l.tail)
    else if wrd wNULL l = true then okP (.x (mV emptyV)) l.tail
    else if (wrd wTRUE l || wrd wFALSE l) = true then okP (.x (mV (.mk 1 (decide ((nx l).t = wTRUE)) 0 ⟨#[]⟩ [] []))) l.tail
    else if sigB 36 l = true then nameP l.tail fun k r => okP (.x (mE 3 k [])) r
    else if sigB 40 l = true then bnd (rec (.expr 1) l.tail) fun v r => must (sigB 41 r) r fun r2 => okP (.x v.ex) r2
    else if sigB 91 l = true then bnd (rec (.list [93]) l.tail) fun v r => okP (.x (mE 5 ⟨#[]⟩ v.exs)) r
    else if sigB 123 l = true then bnd (rec .props l) fun v r => okP (.x (.mk 6 ⟨#[]⟩ emptyV v.strs v.exs)) r
    else some (.bad l)
  | .list stop, l => if isT 5 stop l = true then okP (.xs []) l.tail else rec (.items stop []) l
  | .items stop acc, l => bnd (rec (.expr 1) l) fun v r => if sigB 44 r = true then rec (.items stop (acc ++ [v.ex])) r.tail else must (isT 5 stop r) r fun r2 => okP (.xs (acc ++ [v.ex])) r2
  | .props, l => must (sigB 123 l) l fun l1 => if sigB 125 l1 = true then okP (.kv [] []) l1.tail else rec (.pairs [] []) l1
  | .pairs ks vs, l => keyP l fun k r => must (sigB 58 r) r fun r1 => bnd (rec (.expr 1) r1) fun v r2 =>
      if sigB 44 r2 = true then rec (.pairs (ks ++ [k]) (vs ++ [v.ex])) r2.tail else must (sigB 125 r2) r2 fun r3 => okP (.kv (ks ++ [k]) (vs ++ [v.ex])) r3
  | .labels acc, l => if sigB 58 l = true then keyP l.tail fun k r => rec (.labels (acc ++ [k])) r else okP (.ss acc) l
  | .node, l => must (sigB 40 l) l fun l1 => bnd (rec (.labels []) (mayN l1).2) fun v r =>
      if sigB 123 r = true then bnd (rec .props r) fun p r2 => must (sigB 41 r2) r2 fun r3 => okP (.np ⟨(mayN l1).1, v.strs, p.strs, p.exs⟩) r3
      else must (sigB 41 r) r fun r3 => okP (.np ⟨(mayN l1).1, v.strs, [], []⟩) r3
  | .edge, l =>
    must (sigB 45 (if sigB 60 l = true then l.tail else l)) (if sigB 60 l = true then l.tail else l) fun l2 =>
      if sigB 91 l2 = true then
        (if sigB 58 (mayN l2.tail).2 = true then keyP (mayN l2.tail).2.tail fun k r => rec (.edgeP (if sigB 60 l = true then 1 else 2) (mayN l2.tail).1 k) r
         else rec (.edgeP (if sigB 60 l = true then 1 else 2) (mayN l2.tail).1 ⟨#[]⟩) (mayN l2.tail).2)
      else rec (.edgeE (if sigB 60 l = true then 1 else 2) ⟨#[]⟩ ⟨#[]⟩ [] []) l2
  | .edgeP d var ty, l =>
    if sigB 123 l = true then bnd (rec .props l) fun p r => must (sigB 93 r) r (rec (.edgeE d var ty p.strs p.exs))
    else must (sigB 93 l) l (rec (.edgeE d var ty [] []))
  | .edgeE d var ty ks vs, l => must (sigB 45 l) l fun r =>
      if d = 2 ∧ sigB 62 r = true then okP (.ep ⟨var, ty, 0, ks, vs⟩) r.tail else okP (.ep ⟨var, ty, d, ks, vs⟩) r
  | .path, l => bnd (rec .node l) fun v r => rec (.segs [v.node] []) r
  | .segs ns es, l => if (sigB 45 l || sigB 60 l) = true then bnd (rec .edge l) fun e r => bnd (rec .node r) fun n r2 => rec (.segs (ns ++ [n.node]) (es ++ [e.edge])) r2 else okP (.pt ⟨ns, es⟩) l
  | .paths, l => bnd (rec .path l) fun v r => rec (.more [v.path]) r
  | .more acc, l => if sigB 44 l = true then bnd (rec .path l.tail) fun v r => rec (.more (acc ++ [v.path])) r else okP (.ps acc) l
  | .maybe w, l => if wrd w l = true then bnd (rec (.expr 1) l.tail) fun v r => okP (.xs [v.ex]) r else okP (.xs []) l
  | .item, l => bnd (rec (.expr 1) l) fun v r =>
      if opX v.ex = 2 ∧ wrd wAS r = false then okP (.it ⟨v.ex, nameX v.ex⟩) r else must (wrd wAS r) r fun r1 => nameP r1 fun k r2 => okP (.it ⟨v.ex, k⟩) r2
  | .its acc, l => if sigB 44 l = true then bnd (rec .item l.tail) fun v r => rec (.its (acc ++ [v.item])) r else okP (.il acc) l
  | .sorts, l => if wrd wORDER l = true then must (wrd wBY l.tail) l.tail (rec (.sortL [])) else okP (.ol []) l
  | .sortL acc, l => bnd (rec (.expr 1) l) fun v r =>
      if sigB 44 (if (wrd wASC r || wrd wDESC r) = true then r.tail else r) = true then rec (.sortL (acc ++ [⟨v.ex, wrd wDESC r⟩])) (if (wrd wASC r || wrd wDESC r) = true then r.tail else r).tail
      else okP (.ol (acc ++ [⟨v.ex, wrd wDESC r⟩])) (if (wrd wASC r || wrd wDESC r) = true then r.tail else r)
  | .rows kind, l => bnd (rec .item (if wrd wDISTINCT l = true then l.tail else l)) fun i r => bnd (rec (.its [i.item]) r) fun is r1 => bnd (rec .sorts r1) fun os r2 =>
      bnd (rec (.maybe wSKIP) r2) fun sk r3 => bnd (rec (.maybe wLIMIT) r3) fun li r4 =>
        okP (.cl { bareC kind with items := is.items, uniq := wrd wDISTINCT l, order := os.sorts, skip := sk.exs, limit := li.exs }) r4
  | .setL kind acc, l => nameP l fun x r =>
      if sigB 58 r = true then keyP r.tail fun k r2 => (if sigB 44 r2 = true then rec (.setL kind (acc ++ [⟨x, ⟨#[]⟩, k, emptyX⟩])) r2.tail else okP (.zl (acc ++ [⟨x, ⟨#[]⟩, k, emptyX⟩])) r2)
      else must (sigB 46 r) r fun r1 => keyP r1 fun k r2 =>
        if kind = 6 then must (sigB 61 r2) r2 fun r3 => bnd (rec (.expr 1) r3) fun v r4 => (if sigB 44 r4 = true then rec (.setL kind (acc ++ [⟨x, k, ⟨#[]⟩, v.ex⟩])) r4.tail else okP (.zl (acc ++ [⟨x, k, ⟨#[]⟩, v.ex⟩])) r4)
        else (if sigB 44 r2 = true then rec (.setL kind (acc ++ [⟨x, k, ⟨#[]⟩, emptyX⟩])) r2.tail else okP (.zl (acc ++ [⟨x, k, ⟨#[]⟩, emptyX⟩])) r2)
  | .vars acc, l => nameP l fun x r => if sigB 44 r = true then rec (.vars (acc ++ [x])) r.tail else okP (.ss (acc ++ [x])) r
  | .clause w, l =>
    if w = wMATCH then bnd (rec .paths l) fun p r => bnd (rec (.maybe wWHERE) r) fun h r1 => okP (.cl { bareC 1 with paths := p.paths, whr := h.exs }) r1
    else if w = wUNWIND then bnd (rec (.expr 1) l) fun v r => must (wrd wAS r) r fun r1 => nameP r1 fun k r2 => okP (.cl { bareC 2 with e := v.ex, var := k }) r2
    else if w = wWITH then bnd (rec (.rows 3) l) fun c r => bnd (rec (.maybe wWHERE) r) fun h r1 => okP (.cl { c.clause with whr := h.exs }) r1
    else if w = wRETURN then rec (.rows 9) l
    else if w = wCREATE then bnd (rec .paths l) fun p r => okP (.cl { bareC 4 with paths := p.paths }) r
    else if w = wMERGE then bnd (rec .node l) fun n r => okP (.cl { bareC 5 with paths := [⟨[n.node], []⟩] }) r
    else if w = wSET then bnd (rec (.setL 6 []) l) fun z r => okP (.cl { bareC 6 with sets := z.sets }) r
    else if w = wREMOVE then bnd (rec (.setL 7 []) l) fun z r => okP (.cl { bareC 7 with sets := z.sets }) r
    else if w = wDELETE then bnd (rec (.vars []) l) fun z r => okP (.cl { bareC 8 with vars := z.strs }) r
    else must (wrd wDELETE l) l fun l1 => bnd (rec (.vars []) l1) fun z r => okP (.cl { bareC 8 with vars := z.strs, detach := true }) r
  | .stmt acc, l =>
    if (nx l).k = 6 ∧ 4 ≤ lastK acc then okP (.cs acc) l
    else if (nx l).k = 2 ∧ (nx l).t ∈ headsL ∧ lastK acc ≠ 9 then bnd (rec (.clause (nx l).t) l.tail) fun c r => rec (.stmt (acc ++ [c.clause])) r
    else some (.bad l)
def run : Nat → G → List Tok → O
  | 0, _, _ => none
  | f + 1, g, l => step (run f) g l
def Le (a b : O) : Prop := a = none ∨ a = b
theorem Le.refl (a : O) : Le a a := .inr rfl
theorem bnd_le {a b : O} {k h : V → List Tok → O} (h1 : Le a b) (h2 : ∀ v r, Le (k v r) (h v r)) : Le (bnd a k) (bnd b h) := by
 rcases h1 with rfl | rfl
 ·exact .inl rfl
 ·cases a with
  | none => exact .inl rfl
  | some p => cases p with
   | ok v r => exact h2 v r
   | bad r => exact .refl _
theorem must_le {b : Bool} {l : List Tok} {k h : List Tok → O} (h2 : ∀ r, Le (k r) (h r)) : Le (must b l k) (must b l h) := by
 unfold must; split
 ·exact h2 _
 ·exact .refl _
theorem keyP_le {l : List Tok} {k h : ByteArray → List Tok → O} (h2 : ∀ s r, Le (k s r) (h s r)) : Le (keyP l k) (keyP l h) := by
 unfold keyP; split
 ·exact h2 _ _
 ·exact .refl _
theorem nameP_le {l : List Tok} {k h : ByteArray → List Tok → O} (h2 : ∀ s r, Le (k s r) (h s r)) : Le (nameP l k) (nameP l h) := by
 unfold nameP; split
 ·exact h2 _ _
 ·exact .refl _
theorem ite_le {p : Prop} [Decidable p] {a b c d : O} (h1 : Le a c) (h2 : Le b d) : Le (if p then a else b) (if p then c else d) := by split <;> assumption
theorem step_le {r r' : G → List Tok → O} (h : ∀ g l, Le (r g l) (r' g l)) : ∀ g l, Le (step r g l) (step r' g l) := by
 intro g l
 cases g <;> simp only [step] <;> repeat (first | exact h _ _ | exact Le.refl _ | exact fun _ => h _ _ | refine ite_le ?_ ?_ | refine bnd_le ?_ (fun _ _ => ?_) | refine must_le (fun _ => ?_) | refine keyP_le (fun _ _ => ?_) | refine nameP_le (fun _ _ => ?_))
theorem run_le : ∀ (f : Nat) (g : G) (l : List Tok), Le (run f g l) (run (f + 1) g l)
  | 0, _, _ => .inl rfl
  | f + 1, g, l => step_le (run_le f) g l
theorem run_up {f : Nat} {g : G} {l : List Tok} {x : Pr} (h : run f g l = some x) : ∀ k, run (f + k) g l = some x := by
 intro k
 induction k with
 | zero => exact h
 | succ k ih =>
  rcases run_le (f + k) g l with h1 | h1
  ·rw [ih] at h1; cases h1
  ·rw [← ih, h1]; rfl
def Run (g : G) (l : List Tok) (x : Pr) : Prop := ∃ f, run f g l = some x
theorem Run.up {g : G} {l : List Tok} {x : Pr} (h : Run g l x) : ∃ f, ∀ k, f ≤ k → run k g l = some x := by
 obtain ⟨f, h⟩ := h
 exact ⟨f, fun k hk => by have := run_up h (k - f); rwa [show f + (k - f) = k from by omega] at this⟩
theorem Run.fn {g : G} {l : List Tok} {x y : Pr} (h1 : Run g l x) (h2 : Run g l y) : x = y := by
 obtain ⟨f1, h1⟩ := h1.up
 obtain ⟨f2, h2⟩ := h2.up
 have a := h1 (f1 + f2) (by omega)
 rw [h2 (f1 + f2) (by omega)] at a
 exact (Option.some.inj a).symm
def Ans (o : (G → List Tok → O) → O) (x : Pr) : Prop := ∃ f, ∀ k, f ≤ k → o (run k) = some x
theorem Run.of {g : G} {l : List Tok} {x : Pr} (h : Ans (fun r => step r g l) x) : Run g l x := by
 obtain ⟨f, h⟩ := h
 exact ⟨f + 1, h f (Nat.le_refl _)⟩
theorem Ans.rec {g : G} {l : List Tok} {x : Pr} (h : Run g l x) : Ans (fun r => r g l) x := h.up
theorem Ans.ok {x : Pr} : Ans (fun _ => some x) x := ⟨0, fun _ _ => rfl⟩
theorem Ans.bnd {o : (G → List Tok → O) → O} {k : (G → List Tok → O) → V → List Tok → O} {v : V} {r : List Tok} {x : Pr} (h1 : Ans o (.ok v r)) (h2 : Ans (fun c => k c v r) x) : Ans (fun c => bnd (o c) (k c)) x := by
 obtain ⟨f1, h1⟩ := h1
 obtain ⟨f2, h2⟩ := h2
 refine ⟨f1 + f2, fun n hn => ?_⟩
 show Go.Proofs.YtndhpdclpgemfaaGreat.bnd (o (run n)) (k (run n)) = some x
 rw [h1 n (by omega)]
 exact h2 n (by omega)
theorem may_call (p : Part) (v : Value) (B : Nat) (w : World) (hX : IsPart B w v p) (hB : B ≤ w.heap.size) (hML : ML w) (hw : wtPart p ≤ 1048576) :
    ∃ tid pv f, v = .iface tid pv ∧ (∀ w' : World, (method 317 tid pv "wattle/spell.may").run Tryz.prog w' = .ok (f, pv) w') ∧ (∀ w' : World, (callFunc f #[pv]).run Tryz.prog w' = .ok (.enter f #[pv]) w') ∧ Calls Tryz.prog f #[pv] w fun e w' => e = .returned (.bool (partM p)) ∧ Below w.heap.size w w' := by
 cases p with
 | nm s => exact ⟨122, .string s, 202, hX, fun _ => by kernel_rfl, fun _ => by kernel_rfl, pmayName_any s w (by have : s.size ≤ 1048576 := hw; omega) hML⟩
 | ex t => obtain ⟨cs, rfl, hX⟩ := hX; exact ⟨93, _, 175, rfl, fun _ => by kernel_rfl, fun _ => by kernel_rfl, pmayExpr_any t cs B w hX hB hML (by have : wtX t ≤ 1048576 := hw; omega)⟩
 | pt t => obtain ⟨cs, rfl, hX⟩ := hX; exact ⟨111, _, 190, rfl, fun _ => by kernel_rfl, fun _ => by kernel_rfl, pmayPath_any t cs B w hX hB hML (by have : wtPt t ≤ 1048576 := hw; omega)⟩
 | it t => obtain ⟨cs, rfl, hX⟩ := hX; exact ⟨116, _, 198, rfl, fun _ => by kernel_rfl, fun _ => by kernel_rfl, pmayItem_any t cs B w hX hB hML (by have : wtIt t ≤ 1048576 := hw; omega)⟩
 | so t => obtain ⟨cs, rfl, hX⟩ := hX; exact ⟨119, _, 200, rfl, fun _ => by kernel_rfl, fun _ => by kernel_rfl, pmaySort_any t cs B w hX hB hML (by have : wtSo t ≤ 1048576 := hw; omega)⟩
 | si t st => obtain ⟨cs, rfl, hX⟩ := hX; exact ⟨126, _, 204, rfl, fun _ => by kernel_rfl, fun _ => by kernel_rfl, pmaySet_any t st cs B w hX hB hML (by have : wtSi t ≤ 1048576 := hw; omega)⟩
theorem all_bad {α : Type} {f : α → Bool} {l : List α} {j : Nat} {x : α} (hx : l[j]? = some x) (h : f x = false) : l.all f = false := anyL_false hx h
theorem groupM_bad {g : Grt} {m : Nat} {p : Part} (h : g.parts[m]? = some p) (hp : partM p = false) : groupM g = false := by
 unfold groupM; rw [all_bad h hp]; simp
theorem groupM_few {g : Grt} (h : (g.parts.length : Int) < g.least) : groupM g = false := by
 unfold groupM; rw [decide_eq_false (by omega)]; rfl
theorem groupM_many {g : Grt} (h : g.most < (g.parts.length : Int)) : groupM g = false := by
 unfold groupM; rw [decide_eq_false (p := (g.parts.length : Int) ≤ g.most) (by omega)]; simp
theorem groupM_good {g : Grt} (h1 : ¬ (g.parts.length : Int) < g.least) (h2 : ¬ g.most < (g.parts.length : Int)) (h : ∀ (i : Nat) p, g.parts[i]? = some p → partM p = true) : groupM g = true := by
 unfold groupM; rw [decide_eq_true (by omega), decide_eq_true (by omega), allL_true h]; rfl
theorem clauseM_bad {c : Clt} {b : Bool} {k : Nat} {g : Grt} (h : (groupsL c)[k]? = some g) (hg : groupM g = false) : clauseM c b = false := by
 unfold clauseM; rw [all_bad h hg]; simp
def headBad (c : Clt) (more : Bool) : Bool := !groupsB c || ((groupsL c).isEmpty || (c.kind == 9 && more))
theorem clauseM_head {c : Clt} {b : Bool} (h : headBad c b = true) : clauseM c b = false := by
 unfold headBad at h; unfold clauseM
 cases h1 : groupsB c with
 | false => rfl
 | true =>
  rw [h1] at h
  cases h2 : (groupsL c).isEmpty with
  | true => rfl
  | false =>
   rw [h2] at h
   cases h3 : (c.kind == 9 && b) with
   | true => rfl
   | false => rw [h3] at h; cases h
theorem clauseM_good {c : Clt} {b : Bool} (h : headBad c b = false) (hg : ∀ (i : Nat) g, (groupsL c)[i]? = some g → groupM g = true) : clauseM c b = true := by
 unfold headBad at h; unfold clauseM
 rw [allL_true hg]
 cases h1 : groupsB c with
 | false => rw [h1] at h; cases h
 | true =>
  rw [h1] at h
  cases h2 : (groupsL c).isEmpty with
  | true => rw [h2] at h; cases h
  | false =>
   rw [h2] at h
   cases h3 : (c.kind == 9 && b) with
   | true => rw [h3] at h; cases h
   | false => rfl
theorem rightB_bad {l : List Clt} {j : Nat} {c : Clt} (h : l[j]? = some c) (hc : clauseM c (decide (j + 1 < l.length)) = false) : rightB ⟨l⟩ = false := by
 have h1 : clausesM l = false := by
  cases h2 : clausesM l with
  | false => rfl
  | true => rw [(clausesM_iff l).1 h2 j c h] at hc; cases hc
 unfold rightB
 simp only [h1, Bool.and_false]
def stmtBad (l : List Clt) : Bool := !(decide (1 ≤ l.length) && (decide (l.length ≤ 64) && lastM l))
theorem rightB_stmt {l : List Clt} (h : stmtBad l = true) : rightB ⟨l⟩ = false := by
 unfold stmtBad at h; unfold rightB
 cases h1 : decide (1 ≤ l.length) with
 | false => rfl
 | true =>
  cases h2 : decide (l.length ≤ 64) with
  | false => rfl
  | true =>
   cases h3 : lastM l with
   | false => rfl
   | true => rw [h1, h2, h3] at h; cases h
theorem rightB_good {l : List Clt} (h : stmtBad l = false) (hc : ∀ (i : Nat) c, l[i]? = some c → clauseM c (decide (i + 1 < l.length)) = true) : rightB ⟨l⟩ = true := by
 unfold stmtBad at h; unfold rightB
 rw [(clausesM_iff l).2 hc]
 cases h1 : decide (1 ≤ l.length) with
 | false => rw [h1] at h; cases h
 | true =>
  cases h2 : decide (l.length ≤ 64) with
  | false => rw [h1, h2] at h; cases h
  | true =>
   cases h3 : lastM l with
   | false => rw [h1, h2, h3] at h; cases h
   | true => rfl
theorem cl_one {B : Nat} {w : World} {cs : List Value} {c : Clt} (h : IsCl B w cs c) : cs.length = 22 ∧ (cs.toArray.all (·.oneCell') = true) ∧ cs[0]? = some (.int .i64 c.kind) := by
 obtain ⟨kd, l1, l2, ex, vr, l5, un, l7, l8, l9, l10, l11, de⟩ := c
 obtain ⟨op, nm, xv, xns, xaz⟩ := ex
 obtain ⟨a1, c1, a2, c2, xe, a5, c5, a7, c7, a8, c8, a9, c9, a10, c10, a11, c11, rfl, -, -, -, -, -, hE, -⟩ := h
 obtain ⟨xk, xb, xi, xs, xl, xks, xla, xlc, xka, xkc, xna, xnc, xxa, xxc, rfl, rfl, -⟩ := hE.cells
 exact ⟨rfl, by simp [Value.oneCell'], rfl⟩
theorem mk_box' {C : Nat} {W0 : World} (u : Ext C W0) (hC : C ≤ W0.heap.size) (zs vals : List Value) (t : TypeId) (hl : vals.length = zs.length) :
    ∃ u2 : Ext C W0, (u.w.alloc (.cells zs.toArray t)).setCells u.w.heap.size 0 vals = u2.w ∧ Below u.w.heap.size u.w u2.w ∧ Block u2.w u.w.heap.size vals t ∧ u.w.heap.size < u2.w.heap.size ∧ (u.w.alloc (.cells zs.toArray t)).there u.w.heap.size 0 vals.length := by
 have hs : ∀ (vs cur : List Value) (o : Nat), o + vs.length = cur.length → setCs cur o vs = cur.take o ++ vs := by
  exact Sg244175
 exact mk_box u hC zs vals t (by rw [hs _ _ _ (by omega)]; rfl) (by omega)
end Go.Proofs.YtndhpdclpgemfaaGreat
