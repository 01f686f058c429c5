/- Print in plain words: a token's own text, and what is cut out of it. Conditions: none. -/
import Derived.Test.YtjibdaigclgmhaaGreatDoorLexPure
import Derived.Lib.Replace
import Derived.Lib.ItoaNum
import Derived.Lib.Join
namespace Go.Proofs.YtjibdaigclgmhaaGreatDoor.Lex
set_option linter.unusedVariables false
set_option linter.unusedSimpArgs false
def dbl : List UInt8 → List UInt8
  | [] => []
  | c :: r => if c = 39 then 39 :: 39 :: dbl r else c :: dbl r
theorem index_cons_hit (r : List UInt8) (c : UInt8) : Go.Lib.index (c :: r) [c] = 0 := by
  rw [Go.Lib.index]; simp [List.isPrefixOf]
theorem index_cons_miss {b c : UInt8} (h : b ≠ c) (r : List UInt8) (i : Nat) (hi : Go.Lib.index r [c] = i) : Go.Lib.index (b :: r) [c] = ((i + 1 : Nat) : Int) := by
  rw [Go.Lib.index, if_neg (by simp [List.isPrefixOf, Ne.symm h]), hi, if_neg (by simp)]; rfl
theorem replaceK_dbl : ∀ (s : List UInt8), Go.Lib.replaceK [39] [39, 39] (Go.Lib.count s [39]) s = dbl s
  | [] => by
    rw [Go.Lib.count_one]; first | done | rfl
  | c :: r => by
    by_cases hc : c = 39
    · subst hc
      rw [Go.Lib.count_cons_eq, Nat.add_comm, Go.Lib.replaceK_hit [39] [39, 39] _ _ 0 (index_cons_hit r 39)]
      simp only [List.take_zero, List.nil_append, Nat.zero_add, List.length_singleton, List.drop_succ_cons, List.drop_zero]
      rw [replaceK_dbl r]
      simp [dbl]
    · rw [Go.Lib.count_cons_ne c 39 r hc, dbl, if_neg hc, ← replaceK_dbl r]
      cases hk : Go.Lib.count r [39] with
      | zero => rfl
      | succ k =>
        obtain ⟨i, hi⟩ := Go.Lib.index_of_count (s := r) (old := [39]) (by omega)
        rw [Go.Lib.replaceK_hit _ _ _ _ _ hi, Go.Lib.replaceK_hit _ _ _ _ _ (index_cons_miss hc r i hi)]
        simp only [List.take_succ_cons, List.cons_append, List.length_singleton, List.drop_succ_cons]
theorem replaceAll_dbl (s : List UInt8) : Go.Lib.replaceAll s [39] [39, 39] = dbl s := by
  unfold Go.Lib.replaceAll Go.Lib.replace Go.Lib.replaceNum
  rw [if_neg (by decide), if_pos (.inl (by omega))]
  exact replaceK_dbl s
def markCh (k : Int) : List UInt8 :=
  if k = 8 then [40] else if k = 9 then [41] else if k = 10 then [91] else if k = 11 then [93] else if k = 12 then [124] else if k = 13 then [58] else if k = 15 then [94] else if k = 16 then [46] else if k = 17 then [59] else []
/-- a token's own text -/
def spellL (k : Int) (t : List UInt8) (n : Int) : List UInt8 :=
  if k = 1 ∨ k = 3 then t else if k = 2 then t ++ [58] else if k = 4 then Go.Lib.itoa n else if k = 5 then 35 :: t else if k = 6 then 39 :: dbl t ++ [39] else if k = 7 then [35, 40] else if k = 14 then [58, 61] else markCh k
def spellT (t : Tok) : List UInt8 := spellL t.kind t.text t.num
/-- may a token be so: its own text is cut into it -/
def may (t : Tok) : Bool := match lex (spellT t) with | .inl [x, y] => decide (x = ⟨t, 0⟩) | _ => false
theorem may_of_tok {t : Tok} (h : tok (spellT t) = some (t, (spellT t).length)) : may t = true := by
  unfold may
  rw [(lex_iff _ _).2 (lex_one h)]
  simp
theorem digit_ofNat {d : Nat} (h : d < 10) : isD (UInt8.ofNat (48 + d)) = true ∧ (UInt8.ofNat (48 + d)).toNat - 48 = d := by
  rcases (show d = 0 ∨ d = 1 ∨ d = 2 ∨ d = 3 ∨ d = 4 ∨ d = 5 ∨ d = 6 ∨ d = 7 ∨ d = 8 ∨ d = 9 by omega) with rfl | rfl | rfl | rfl | rfl | rfl | rfl | rfl | rfl | rfl <;> decide
theorem digVal_snoc (l : List UInt8) (c : UInt8) : digVal (l ++ [c]) = 10 * digVal l + (c.toNat - 48) := by
  unfold digVal; rw [List.foldl_append]; rfl
theorem decDigits_spec (u : Nat) : (∀ c ∈ Go.Lib.decDigits u, isD c = true) ∧ digVal (Go.Lib.decDigits u) = u ∧ Go.Lib.decDigits u ≠ [] := by
  induction u using Nat.strongRecOn with
  | _ u ih =>
    rw [Go.Lib.decDigits]
    by_cases h : u < 10
    · rw [dif_pos h]
      obtain ⟨h1, h2⟩ := digit_ofNat h
      refine ⟨fun c hc => ?_, ?_, by simp⟩
      · rw [List.mem_singleton] at hc; subst hc; exact h1
      · unfold digVal; simp only [List.foldl_cons, List.foldl_nil, Nat.mul_zero, Nat.zero_add]; exact h2
    · rw [dif_neg h]
      obtain ⟨g1, g2, g3⟩ := ih (u / 10) (by omega)
      obtain ⟨h1, h2⟩ := digit_ofNat (d := u % 10) (by omega)
      refine ⟨fun c hc => ?_, ?_, by simp⟩
      · rcases List.mem_append.1 hc with hc | hc
        · exact g1 c hc
        · rw [List.mem_singleton] at hc; subst hc; exact h1
      · rw [digVal_snoc, g2, h2]; omega
theorem takeWhile_full {p : UInt8 → Bool} : ∀ {l : List UInt8}, (∀ c ∈ l, p c = true) → l.takeWhile p = l
  | [], _ => rfl
  | c :: r, h => by rw [List.takeWhile_cons, if_pos (h c List.mem_cons_self), takeWhile_full (fun x hx => h x (List.mem_cons_of_mem _ hx))]
theorem digit_not_letter {c : UInt8} (h : isD c = true) : isL c = false := by
  have key : ∀ c : Fin 256, isD (UInt8.ofNat c.val) = true → isL (UInt8.ofNat c.val) = false := by decide +kernel
  have := key ⟨c.toNat, c.toNat_lt⟩ (by simpa using h)
  simpa using this
theorem tok_dec (v : Nat) (h : v ≤ 1073741824) : tok (Go.Lib.decDigits v) = some (⟨4, [], (v : Int)⟩, (Go.Lib.decDigits v).length) := by
  obtain ⟨h1, h2, h3⟩ := decDigits_spec v
  cases hd : Go.Lib.decDigits v with
  | nil => exact absurd hd h3
  | cons c r =>
    rw [hd] at h1 h2
    have hc := h1 c List.mem_cons_self
    have hl : digitsLen (c :: r) = (c :: r).length := by unfold digitsLen; rw [takeWhile_full h1]
    rw [tok, digit_not_letter hc, if_neg (by simp), if_pos hc, hl, List.take_length, h2, if_pos h]
theorem textOf_take : ∀ (s b : List UInt8) (n : Nat), textOf s = some (b, n) → s.take n = dbl b ++ [39]
  | [], b, n, h => by cases h
  | [c], b, n, h => by
    rw [textOf] at h
    split at h
    · rename_i hc; cases h; subst hc; rfl
    · cases h
  | c :: d :: r, b, n, h => by
    rw [textOf] at h
    by_cases hc : c = 39
    · rw [if_pos hc] at h
      by_cases hd : d = 39
      · rw [if_pos hd] at h
        cases ht : textOf r with
        | none => rw [ht] at h; cases h
        | some q =>
          obtain ⟨b', m⟩ := q
          rw [ht] at h
          cases h
          have := textOf_take r b' m ht
          rw [List.take_succ_cons, List.take_succ_cons, this, hc, hd, dbl, if_pos rfl]; rfl
      · rw [if_neg hd] at h; cases h; rw [hc]; rfl
    · rw [if_neg hc] at h
      cases ht : textOf (d :: r) with
      | none => rw [ht] at h; cases h
      | some q =>
        obtain ⟨b', m⟩ := q
        rw [ht] at h
        cases h
        have := textOf_take (d :: r) b' m ht
        rw [List.take_succ_cons, this, dbl, if_neg hc]; rfl
theorem markCh_kind {c : UInt8} (h : markKind c ≠ 0) : spellL (markKind c) [] 0 = [c] := by
  unfold markKind at h ⊢
  by_cases h1 : c = 40; · subst h1; rfl
  rw [if_neg h1] at h ⊢
  by_cases h2 : c = 41; · subst h2; rfl
  rw [if_neg h2] at h ⊢
  by_cases h3 : c = 91; · subst h3; rfl
  rw [if_neg h3] at h ⊢
  by_cases h4 : c = 93; · subst h4; rfl
  rw [if_neg h4] at h ⊢
  by_cases h5 : c = 124; · subst h5; rfl
  rw [if_neg h5] at h ⊢
  by_cases h6 : c = 58; · subst h6; rfl
  rw [if_neg h6] at h ⊢
  by_cases h7 : c = 94; · subst h7; rfl
  rw [if_neg h7] at h ⊢
  by_cases h8 : c = 46; · subst h8; rfl
  rw [if_neg h8] at h ⊢
  by_cases h9 : c = 59; · subst h9; rfl
  rw [if_neg h9] at h; exact absurd rfl h
/-- what is cut may be so -/
theorem tok_may {K : List UInt8} {t : Tok} {n : Nat} (h : tok K = some (t, n)) : may t = true := by
  have hle := tok_le K t n h
  have hself : tok (K.take n) = some (t, n) := by
    have := tok_cut K t n n [] h (Nat.le_refl _) hle.2 (tok_end K t n h) brk_nil
    rwa [List.append_nil] at this
  have hlen : (K.take n).length = n := by rw [List.length_take]; omega
  have key : spellT t = K.take n → may t = true := fun e => may_of_tok (by rw [e, hlen]; exact hself)
  cases K with
  | nil => cases h
  | cons c r =>
    rw [tok] at h
    by_cases h1 : isL c = true
    · rw [if_pos h1] at h
      by_cases h2 : colon ((c :: r).drop (nameLen (c :: r))) = true
      · rw [if_pos h2] at h
        cases h
        refine key ?_
        have h58 : (c :: r)[nameLen (c :: r)]? = some 58 := by
          unfold colon at h2
          simp only [Bool.and_eq_true, beq_iff_eq] at h2
          have := h2.1
          rwa [List.getElem?_drop, Nat.add_zero] at this
        show (c :: r).take (nameLen (c :: r)) ++ [58] = _
        rw [List.take_add_one, h58]; rfl
      · rw [if_neg h2] at h; cases h; exact key rfl
    rw [if_neg h1] at h
    by_cases h2 : isD c = true
    · rw [if_pos h2] at h
      by_cases h3 : digVal ((c :: r).take (digitsLen (c :: r))) ≤ 1073741824
      · rw [if_pos h3] at h
        cases h
        refine may_of_tok ?_
        have e : spellT ⟨4, [], (digVal ((c :: r).take (digitsLen (c :: r))) : Int)⟩ = Go.Lib.decDigits (digVal ((c :: r).take (digitsLen (c :: r)))) := by
          unfold spellT spellL
          simp only [show ¬((4:Int) = 1 ∨ (4:Int) = 3) by decide, show ¬((4:Int) = 2) by decide, if_false, if_true]
          unfold Go.Lib.itoa
          rw [if_neg (by simp)]; simp
        rw [e]
        exact tok_dec _ h3
      · rw [if_neg h3] at h; cases h
    rw [if_neg h2] at h
    by_cases h3 : c = 35
    · rw [if_pos h3] at h
      by_cases h4 : r[0]? = some 40
      · rw [if_pos h4] at h
        cases h
        refine key ?_
        cases r with
        | nil => cases h4
        | cons d r => simp at h4; subst h3 h4; rfl
      · rw [if_neg h4] at h
        by_cases h5 : 0 < symLen r
        · rw [if_pos h5] at h; cases h; exact key (by rw [h3]; rfl)
        · rw [if_neg h5] at h; cases h
    rw [if_neg h3] at h
    by_cases h4 : c = 39
    · rw [if_pos h4] at h
      cases hx : textOf r with
      | none => rw [hx] at h; cases h
      | some q =>
        obtain ⟨b, m⟩ := q
        rw [hx] at h
        cases h
        refine key ?_
        show 39 :: dbl b ++ [39] = (c :: r).take (m + 1)
        rw [List.take_succ_cons, textOf_take r b m hx, h4]; rfl
    rw [if_neg h4] at h
    by_cases h5 : isG c = true
    · rw [if_pos h5] at h; cases h; exact key rfl
    rw [if_neg h5] at h
    by_cases h6 : c = 58 ∧ r[0]? = some 61
    · rw [if_pos h6] at h
      cases h
      refine key ?_
      cases r with
      | nil => cases h6.2
      | cons d r => obtain ⟨e1, e2⟩ := h6; simp at e2; subst e1 e2; rfl
    rw [if_neg h6] at h
    by_cases h7 : markKind c = 0
    · rw [if_pos h7] at h; cases h
    · rw [if_neg h7] at h
      cases h
      exact key (markCh_kind h7)
theorem Lexes.may {s : List UInt8} {a : Nat} {l : List TokA} (h : Lexes s a l) : ∃ l0, l.map TokA.tok = l0 ++ [stopT] ∧ ∀ t ∈ l0, may t = true := by
  induction h with
  | stop g a hg => exact ⟨[], rfl, fun t h => by cases h⟩
  | tok g x t n l a hg ht _ ih =>
    obtain ⟨l0, e, hm⟩ := ih
    refine ⟨t :: l0, by rw [List.map_cons, e]; rfl, fun u hu => ?_⟩
    rcases List.mem_cons.1 hu with rfl | hu
    · exact tok_may ht
    · exact hm u hu
def joinW (l : List Tok) : List UInt8 := Go.Lib.join (l.map spellT) [32]
end Go.Proofs.YtjibdaigclgmhaaGreatDoor.Lex
