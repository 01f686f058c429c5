/- The plain law: what Print writes is read back as it was. The bulk of a play and the size of its text. ScriptRound's walk. Conditions: those that each theorem states. -/
import Derived.Test.YtkfjjmmpbfjhaaaGreatDoorScrY0
import Derived.Test.YtkfjjmmpbfjhaaaGreatDoorScrTU
import Derived.Test.YtkfjjmmpbfjhaaaGreatDoorScrX4
namespace Go.Proofs.YtkfjjmmpbfjhaaaGreatDoor.Tells
open Go.RowKit Go.Proofs.YtkfjjmmpbfjhaaaGreatDoor.Facts Go.Proofs.YtkfjjmmpbfjhaaaGreatDoor.PScriptActs Go.Proofs.YtkfjjmmpbfjhaaaGreatDoorW.PrintWords Go.Proofs.YtkfjjmmpbfjhaaaGreatDoorW.PrintLast Go.Proofs.YtkfjjmmpbfjhaaaGreatDoorW.PrintMore
set_option linter.unusedVariables false
set_option linter.unusedSimpArgs false
/-- neither a blank nor a line's end -/
def quiet (l : List UInt8) : Prop := ∀ c ∈ l, c ≠ 32 ∧ c ≠ 10
theorem join_two (a b : List UInt8) (r : List (List UInt8)) (c : UInt8) : Lib.join (a :: b :: r) [c] = a ++ c :: Lib.join (b :: r) [c] := by
  unfold Lib.join; simp [List.intercalate]
theorem cuts_one (b : UInt8) : ∀ (l acc : List UInt8), (∀ c ∈ l, c ≠ b) → cuts b l acc = [acc ++ l]
  | [], acc, _ => by simp [cuts]
  | c :: r, acc, h => by
    unfold cuts
    rw [if_neg (h c List.mem_cons_self), cuts_one b r _ (fun x hx => h x (List.mem_cons_of_mem _ hx)), List.append_assoc]
    rfl
theorem cuts_at (b : UInt8) : ∀ (l r acc : List UInt8), (∀ c ∈ l, c ≠ b) → cuts b (l ++ b :: r) acc = (acc ++ l) :: cuts b r []
  | [], r, acc, _ => by
    show cuts b (b :: r) acc = _
    unfold cuts
    rw [if_pos rfl, List.append_nil]
    cases r <;> rfl
  | c :: l, r, acc, h => by
    show cuts b (c :: (l ++ b :: r)) acc = _
    rw [cuts, if_neg (h c List.mem_cons_self), cuts_at b l r _ (fun x hx => h x (List.mem_cons_of_mem _ hx)), List.append_assoc]
    rfl
theorem cuts_join (b : UInt8) : ∀ ls : List (List UInt8), ls ≠ [] → (∀ l ∈ ls, ∀ c ∈ l, c ≠ b) → cuts b (Lib.join ls [b]) [] = ls
  | [], h, _ => absurd rfl h
  | [a], _, h => by rw [Lib.join_one, cuts_one b a [] (h a List.mem_cons_self)]; rfl
  | a :: x :: r, _, h => by
    rw [join_two, cuts_at b a _ [] (h a List.mem_cons_self), cuts_join b (x :: r) (by simp) (fun l hl => h l (List.mem_cons_of_mem _ hl))]
    rfl
theorem lines_at : ∀ (l r acc : List UInt8), (∀ c ∈ l, c ≠ 10) → linesOf (l ++ 10 :: r) acc = (acc ++ l) :: linesOf r []
  | [], r, acc, _ => by
    show linesOf (10 :: r) acc = _
    rw [linesOf, if_pos rfl, List.append_nil]
  | c :: l, r, acc, h => by
    show linesOf (c :: (l ++ 10 :: r)) acc = _
    rw [linesOf, if_neg (h c List.mem_cons_self), lines_at l r _ (fun x hx => h x (List.mem_cons_of_mem _ hx)), List.append_assoc]
    rfl
theorem lines_join : ∀ ls : List (List UInt8), ls ≠ [] → (∀ l ∈ ls, ∀ c ∈ l, c ≠ 10) → linesOf (Lib.join ls [10] ++ [10]) [] = ls
  | [], h, _ => absurd rfl h
  | [a], _, h => by rw [Lib.join_one, lines_at a [] [] (h a List.mem_cons_self)]; rfl
  | a :: x :: r, _, h => by
    rw [join_two, List.append_assoc, List.cons_append, lines_at a _ [] (h a List.mem_cons_self), lines_join (x :: r) (by simp) (fun l hl => h l (List.mem_cons_of_mem _ hl))]
    rfl
theorem enc1_quiet : ∀ c : Fin 256, ∀ x ∈ enc1 (UInt8.ofNat c.val), x ≠ 32 ∧ x ≠ 10 := by decide +kernel
theorem encw_quiet (l : List UInt8) : quiet (encw l) := by
  intro x hx
  unfold encw at hx
  obtain ⟨c, _, hc⟩ := List.mem_flatMap.1 hx
  have := enc1_quiet ⟨c.toNat, c.toNat_lt⟩ x
  rw [show UInt8.ofNat c.toNat = c by simp] at this
  exact this hc
theorem word_quiet (s : ByteArray) : quiet (bl (wordB s)) := by
  rw [bl_word]
  intro x hx
  rcases List.mem_cons.1 hx with rfl | hx
  · decide
  · exact encw_quiet _ x hx
theorem dig_quiet {c : UInt8} (h : isDig c = true) : c ≠ 32 ∧ c ≠ 10 := by
  unfold isDig at h
  simp at h
  refine ⟨fun e => ?_, fun e => ?_⟩ <;> (subst e; simp at h)
theorem num_bl (n : Int) : bl (itoaB n) = Lib.itoa n := by unfold itoaB bl; simp
theorem num_quiet (n : Int) : quiet (bl (itoaB n)) := by
  rw [num_bl]
  intro x hx
  unfold Lib.itoa at hx
  split at hx
  · rcases List.mem_cons.1 hx with rfl | hx
    · decide
    · exact dig_quiet ((dec_digits _).1 x hx)
  · exact dig_quiet ((dec_digits _).1 x hx)
theorem name_quiet : ∀ s ∈ nameL, quiet (bl s) := by
  have : ∀ s ∈ nameL, ∀ c ∈ bl s, c ≠ 32 ∧ c ≠ 10 := by decide +kernel
  exact this
theorem name_head : ∀ s ∈ nameL, ∃ c r, bl s = c :: r ∧ c ≠ 35 := by
  intro s hs
  simp only [nameL, List.mem_cons, List.not_mem_nil, or_false] at hs
  rcases hs with rfl | rfl | rfl | rfl | rfl | rfl | rfl | rfl | rfl | rfl | rfl | rfl <;> exact ⟨_, _, rfl, by decide⟩
theorem nameOf_mem (k : Int) (h1 : 1 ≤ k) (h2 : k ≤ 12) : nameOf k ∈ nameL := by
  have hl : nameL.length = 12 := rfl
  unfold nameOf
  rw [List.getD_eq_getElem?_getD, List.getElem?_eq_getElem (by omega)]
  exact List.getElem_mem _
theorem kind_name : ∀ i : Fin 12, kindR (nameL.getD i.val ⟨#[]⟩) = i.val + 1 := by decide +kernel
theorem kindR_nameOf (k : Int) (h1 : 1 ≤ k) (h2 : k ≤ 12) : (kindR (nameOf k) : Int) = k := by
  have := kind_name ⟨k.toNat - 1, by omega⟩
  unfold nameOf
  rw [this]
  show (((k.toNat - 1 + 1 : Nat)) : Int) = k
  omega
theorem behind_quiet (a : S31) : ∀ s ∈ behind a, quiet (bl s) := by
  have w1 := word_quiet a.f1
  have w2 := word_quiet a.f2
  have w4 := word_quiet a.f4
  have w5 := num_quiet a.f5
  have w6 := num_quiet a.f6
  have w3 : ∀ s ∈ a.f3.map wordB, quiet (bl s) := fun s hs => by
    obtain ⟨x, _, rfl⟩ := List.mem_map.1 hs
    exact word_quiet x
  unfold behind
  repeat' split
  all_goals intro s hs
  all_goals simp only [List.mem_cons, List.not_mem_nil, or_false] at hs
  · rcases hs with rfl | rfl | hs
    · exact w1
    · exact w2
    · exact w3 s hs
  · rcases hs with rfl | rfl
    · exact w1
    · exact w4
  · rcases hs with rfl | rfl
    · exact w1
    · exact w2
  · subst hs; exact w1
  · subst hs; exact w4
  · rcases hs with rfl | rfl
    · exact w5
    · exact w6
  · rcases hs with rfl | hs
    · exact w1
    · exact w3 s hs
  · subst hs; exact w5
  · subst hs; exact w4
theorem join_mem (b : UInt8) : ∀ (ls : List (List UInt8)) (x : UInt8), x ∈ Lib.join ls [b] → x = b ∨ ∃ l ∈ ls, x ∈ l
  | [], x, h => by rw [Lib.join_nil] at h; cases h
  | [a], x, h => by rw [Lib.join_one] at h; exact .inr ⟨a, List.mem_cons_self, h⟩
  | a :: y :: r, x, h => by
    rw [join_two] at h
    rcases List.mem_append.1 h with h | h
    · exact .inr ⟨a, List.mem_cons_self, h⟩
    · rcases List.mem_cons.1 h with h | h
      · exact .inl h
      · rcases join_mem b (y :: r) x h with h | ⟨l, hl, hx⟩
        · exact .inl h
        · exact .inr ⟨l, List.mem_cons_of_mem _ hl, hx⟩
/-- an act's line: its words -/
theorem line_words (a : S31) (h1 : 1 ≤ a.f0) (h2 : a.f0 ≤ 12) : wordsOf (lineL a) = nameOf a.f0 :: behind a := by
  unfold wordsOf lineL
  rw [cuts_join 32 _ (by simp) ?_]
  · rw [List.map_map]
    refine (List.map_congr_left (g := id) (fun s _ => mk_bl s)).trans (List.map_id _)
  · intro l hl c hc
    obtain ⟨s, hs, rfl⟩ := List.mem_map.1 hl
    rcases List.mem_cons.1 hs with rfl | hs
    · exact (name_quiet _ (nameOf_mem _ h1 h2) c hc).1
    · exact (behind_quiet a s hs c hc).1
theorem line_quiet (a : S31) (h1 : 1 ≤ a.f0) (h2 : a.f0 ≤ 12) : ∀ c ∈ lineL a, c ≠ 10 := by
  intro c hc
  rcases join_mem 32 _ c hc with rfl | ⟨l, hl, hx⟩
  · decide
  · obtain ⟨s, hs, rfl⟩ := List.mem_map.1 hl
    rcases List.mem_cons.1 hs with rfl | hs
    · exact (name_quiet _ (nameOf_mem _ h1 h2) c hx).2
    · exact (behind_quiet a s hs c hx).2
theorem line_head (a : S31) (h1 : 1 ≤ a.f0) (h2 : a.f0 ≤ 12) : ∃ c r, lineL a = c :: r ∧ c ≠ 35 := by
  obtain ⟨c, r, hc, hn⟩ := name_head _ (nameOf_mem _ h1 h2)
  have hc' : (nameOf a.f0).data.toList = c :: r := hc
  unfold lineL
  rw [List.map_cons, hc']
  cases (behind a).map (·.data.toList) with
  | nil => exact ⟨c, r, by rw [Lib.join_one], hn⟩
  | cons x xs => exact ⟨c, _, by rw [join_two, List.cons_append], hn⟩
theorem actC_inj {a b : S31} {v : Value} (h : actC a v = actC b v) (h3 : a.f3 = b.f3) : a = b := by
  obtain ⟨a0, a1, a2, a3, a4, a5, a6⟩ := a
  obtain ⟨b0, b1, b2, b3, b4, b5, b6⟩ := b
  unfold actC at h
  simp at h h3
  obtain ⟨h0, h1, h2, h4, h5, h6⟩ := h
  subst h0; subst h1; subst h2; subst h3; subst h4; subst h5; subst h6
  rfl
theorem same_is (a b : S31) (h : sameA a b = true) : a = b := by
  unfold sameA at h
  simp only [Bool.and_eq_true, decide_eq_true_eq] at h
  obtain ⟨h0, h1, h2, h4, h5, h6, h3⟩ := h
  obtain ⟨a0, a1, a2, a3, a4, a5, a6⟩ := a
  obtain ⟨b0, b1, b2, b3, b4, b5, b6⟩ := b
  simp only at h0 h1 h2 h3 h4 h5 h6
  subst h0; subst h1; subst h2; subst h3; subst h4; subst h5; subst h6
  rfl
/-- the words behind an act's name are read as the act -/
theorem read_back (a : S31) (h1 : 1 ≤ a.f0) (h2 : a.f0 ≤ 12) (h5 : inI a.f5) (h6 : inI a.f6) : codeR a.f0.toNat (behind a) = 0 ∧ actR a.f0.toNat (behind a) = only a := by
  have e5 := numW_itoa a.f5 h5
  have e6 := numW_itoa a.f6 h6
  have n5 := numN_of e5
  have n6 := numN_of e6
  rcases (show a.f0 = 1 ∨ a.f0 = 2 ∨ a.f0 = 3 ∨ a.f0 = 4 ∨ a.f0 = 5 ∨ a.f0 = 6 ∨ a.f0 = 7 ∨ a.f0 = 8 ∨ a.f0 = 9 ∨ a.f0 = 10 ∨ a.f0 = 11 ∨ a.f0 = 12 by omega) with hk | hk | hk | hk | hk | hk | hk | hk | hk | hk | hk | hk
  · rw [show a.f0.toNat = 1 by rw [hk]; rfl]
    have eb : behind a = [wordB a.f1, wordB a.f2] ++ a.f3.map wordB := by unfold behind; rw [hk]; rfl
    have eo : only a = ⟨1, a.f1, a.f2, a.f3, nil_, 0, 0⟩ := by unfold only; rw [hk]; rfl
    have ok1 : oksP [(true, 1), (true, 2)] [wordB a.f1, wordB a.f2] = true := by simp [oksP, okP, unwS_word, e5, e6]
    have et : (behind a).take 2 = [wordB a.f1, wordB a.f2] := by rw [eb]; rfl
    have ed : (behind a).drop 2 = a.f3.map wordB := by rw [eb]; rfl
    have hml : ([(true, 1), (true, 2)] : List Place).length ≤ (behind a).length := by rw [eb]; simp
    refine ⟨(star1.code (behind a)).2.2.2 hml (by show oksP [(true, 1), (true, 2)] ((behind a).take 2) = true; rw [et]; exact ok1) (by show okL ((behind a).drop 2) = true; rw [ed]; exact okL_words _), ?_⟩
    obtain ⟨g1, g2⟩ := star1.act (behind a) hml (.slice none 0 0)
    refine actC_inj (v := .slice none 0 0) (g1.symm.trans ?_) (g2.trans ?_)
    · show (putsP [(true, 1), (true, 2)] ((behind a).take 2) (cs0 1)).setIfInBounds 3 (.slice none 0 0) = _
      rw [et, eo]
      simp [putsP, putP, cs0, actC, unwT_word, n5, n6, nil_]
    · show unwL ((behind a).drop 2) = _
      rw [ed, unwL_words, eo]
  · rw [show a.f0.toNat = 2 by rw [hk]; rfl]
    have eb : behind a = [wordB a.f1, wordB a.f4] := by unfold behind; rw [hk]; rfl
    have eo : only a = ⟨2, a.f1, nil_, [], a.f4, 0, 0⟩ := by unfold only; rw [hk]; rfl
    have ok1 : oksP [(true, 1), (true, 4)] [wordB a.f1, wordB a.f4] = true := by simp [oksP, okP, unwS_word, e5, e6]
    rw [eb]
    refine ⟨(plain2.code [wordB a.f1, wordB a.f4]).2.1 rfl ok1, ?_⟩
    obtain ⟨g1, g2⟩ := plain2.act [wordB a.f1, wordB a.f4] rfl
    refine actC_inj (v := .slice none 0 0) (g1.symm.trans ?_) (g2.trans ?_)
    · rw [eo]
      simp [putsP, putP, cs0, actC, unwT_word, n5, n6, nil_]
    · rw [eo]
  · rw [show a.f0.toNat = 3 by rw [hk]; rfl]
    have eb : behind a = [wordB a.f1, wordB a.f2] := by unfold behind; rw [hk]; rfl
    have eo : only a = ⟨3, a.f1, a.f2, [], nil_, 0, 0⟩ := by unfold only; rw [hk]; rfl
    have ok1 : oksP [(true, 1), (true, 2)] [wordB a.f1, wordB a.f2] = true := by simp [oksP, okP, unwS_word, e5, e6]
    rw [eb]
    refine ⟨(plain3.code [wordB a.f1, wordB a.f2]).2.1 rfl ok1, ?_⟩
    obtain ⟨g1, g2⟩ := plain3.act [wordB a.f1, wordB a.f2] rfl
    refine actC_inj (v := .slice none 0 0) (g1.symm.trans ?_) (g2.trans ?_)
    · rw [eo]
      simp [putsP, putP, cs0, actC, unwT_word, n5, n6, nil_]
    · rw [eo]
  · rw [show a.f0.toNat = 4 by rw [hk]; rfl]
    have eb : behind a = [wordB a.f1] := by unfold behind; rw [hk]; rfl
    have eo : only a = ⟨4, a.f1, nil_, [], nil_, 0, 0⟩ := by unfold only; rw [hk]; rfl
    have ok1 : oksP [(true, 1)] [wordB a.f1] = true := by simp [oksP, okP, unwS_word, e5, e6]
    rw [eb]
    refine ⟨(plain4.code [wordB a.f1]).2.1 rfl ok1, ?_⟩
    obtain ⟨g1, g2⟩ := plain4.act [wordB a.f1] rfl
    refine actC_inj (v := .slice none 0 0) (g1.symm.trans ?_) (g2.trans ?_)
    · rw [eo]
      simp [putsP, putP, cs0, actC, unwT_word, n5, n6, nil_]
    · rw [eo]
  · rw [show a.f0.toNat = 5 by rw [hk]; rfl]
    have eb : behind a = [wordB a.f4] := by unfold behind; rw [hk]; rfl
    have eo : only a = ⟨5, nil_, nil_, [], a.f4, 0, 0⟩ := by unfold only; rw [hk]; rfl
    have ok1 : oksP [(true, 4)] [wordB a.f4] = true := by simp [oksP, okP, unwS_word, e5, e6]
    rw [eb]
    refine ⟨(plain5.code [wordB a.f4]).2.1 rfl ok1, ?_⟩
    obtain ⟨g1, g2⟩ := plain5.act [wordB a.f4] rfl
    refine actC_inj (v := .slice none 0 0) (g1.symm.trans ?_) (g2.trans ?_)
    · rw [eo]
      simp [putsP, putP, cs0, actC, unwT_word, n5, n6, nil_]
    · rw [eo]
  · rw [show a.f0.toNat = 6 by rw [hk]; rfl]
    have eb : behind a = [itoaB a.f5, itoaB a.f6] := by unfold behind; rw [hk]; rfl
    have eo : only a = ⟨6, nil_, nil_, [], nil_, a.f5, a.f6⟩ := by unfold only; rw [hk]; rfl
    have ok1 : oksP [(false, 5), (false, 6)] [itoaB a.f5, itoaB a.f6] = true := by simp [oksP, okP, unwS_word, e5, e6]
    rw [eb]
    refine ⟨(plain6.code [itoaB a.f5, itoaB a.f6]).2.1 rfl ok1, ?_⟩
    obtain ⟨g1, g2⟩ := plain6.act [itoaB a.f5, itoaB a.f6] rfl
    refine actC_inj (v := .slice none 0 0) (g1.symm.trans ?_) (g2.trans ?_)
    · rw [eo]
      simp [putsP, putP, cs0, actC, unwT_word, n5, n6, nil_]
    · rw [eo]
  · rw [show a.f0.toNat = 7 by rw [hk]; rfl]
    have eb : behind a = [wordB a.f1] ++ a.f3.map wordB := by unfold behind; rw [hk]; rfl
    have eo : only a = ⟨7, a.f1, nil_, a.f3, nil_, 0, 0⟩ := by unfold only; rw [hk]; rfl
    have ok1 : oksP [(true, 1)] [wordB a.f1] = true := by simp [oksP, okP, unwS_word, e5, e6]
    have et : (behind a).take 1 = [wordB a.f1] := by rw [eb]; rfl
    have ed : (behind a).drop 1 = a.f3.map wordB := by rw [eb]; rfl
    have hml : ([(true, 1)] : List Place).length ≤ (behind a).length := by rw [eb]; simp
    refine ⟨(star7.code (behind a)).2.2.2 hml (by show oksP [(true, 1)] ((behind a).take 1) = true; rw [et]; exact ok1) (by show okL ((behind a).drop 1) = true; rw [ed]; exact okL_words _), ?_⟩
    obtain ⟨g1, g2⟩ := star7.act (behind a) hml (.slice none 0 0)
    refine actC_inj (v := .slice none 0 0) (g1.symm.trans ?_) (g2.trans ?_)
    · show (putsP [(true, 1)] ((behind a).take 1) (cs0 7)).setIfInBounds 3 (.slice none 0 0) = _
      rw [et, eo]
      simp [putsP, putP, cs0, actC, unwT_word, n5, n6, nil_]
    · show unwL ((behind a).drop 1) = _
      rw [ed, unwL_words, eo]
  · rw [show a.f0.toNat = 8 by rw [hk]; rfl]
    have eb : behind a = [] := by unfold behind; rw [hk]; rfl
    have eo : only a = ⟨8, nil_, nil_, [], nil_, 0, 0⟩ := by unfold only; rw [hk]; rfl
    have ok1 : oksP [] [] = true := by simp [oksP, okP, unwS_word, e5, e6]
    rw [eb]
    refine ⟨(plain8.code []).2.1 rfl ok1, ?_⟩
    obtain ⟨g1, g2⟩ := plain8.act [] rfl
    refine actC_inj (v := .slice none 0 0) (g1.symm.trans ?_) (g2.trans ?_)
    · rw [eo]
      simp [putsP, putP, cs0, actC, unwT_word, n5, n6, nil_]
    · rw [eo]
  · rw [show a.f0.toNat = 9 by rw [hk]; rfl]
    have eb : behind a = [] := by unfold behind; rw [hk]; rfl
    have eo : only a = ⟨9, nil_, nil_, [], nil_, 0, 0⟩ := by unfold only; rw [hk]; rfl
    have ok1 : oksP [] [] = true := by simp [oksP, okP, unwS_word, e5, e6]
    rw [eb]
    refine ⟨(plain9.code []).2.1 rfl ok1, ?_⟩
    obtain ⟨g1, g2⟩ := plain9.act [] rfl
    refine actC_inj (v := .slice none 0 0) (g1.symm.trans ?_) (g2.trans ?_)
    · rw [eo]
      simp [putsP, putP, cs0, actC, unwT_word, n5, n6, nil_]
    · rw [eo]
  · rw [show a.f0.toNat = 10 by rw [hk]; rfl]
    have eb : behind a = [itoaB a.f5] := by unfold behind; rw [hk]; rfl
    have eo : only a = ⟨10, nil_, nil_, [], nil_, a.f5, 0⟩ := by unfold only; rw [hk]; rfl
    have ok1 : oksP [(false, 5)] [itoaB a.f5] = true := by simp [oksP, okP, unwS_word, e5, e6]
    rw [eb]
    refine ⟨(plain10.code [itoaB a.f5]).2.1 rfl ok1, ?_⟩
    obtain ⟨g1, g2⟩ := plain10.act [itoaB a.f5] rfl
    refine actC_inj (v := .slice none 0 0) (g1.symm.trans ?_) (g2.trans ?_)
    · rw [eo]
      simp [putsP, putP, cs0, actC, unwT_word, n5, n6, nil_]
    · rw [eo]
  · rw [show a.f0.toNat = 11 by rw [hk]; rfl]
    have eb : behind a = [] := by unfold behind; rw [hk]; rfl
    have eo : only a = ⟨11, nil_, nil_, [], nil_, 0, 0⟩ := by unfold only; rw [hk]; rfl
    have ok1 : oksP [] [] = true := by simp [oksP, okP, unwS_word, e5, e6]
    rw [eb]
    refine ⟨(plain11.code []).2.1 rfl ok1, ?_⟩
    obtain ⟨g1, g2⟩ := plain11.act [] rfl
    refine actC_inj (v := .slice none 0 0) (g1.symm.trans ?_) (g2.trans ?_)
    · rw [eo]
      simp [putsP, putP, cs0, actC, unwT_word, n5, n6, nil_]
    · rw [eo]
  · rw [show a.f0.toNat = 12 by rw [hk]; rfl]
    have eb : behind a = [wordB a.f4] := by unfold behind; rw [hk]; rfl
    have eo : only a = ⟨12, nil_, nil_, [], a.f4, 0, 0⟩ := by unfold only; rw [hk]; rfl
    have ok1 : oksP [(true, 4)] [wordB a.f4] = true := by simp [oksP, okP, unwS_word, e5, e6]
    rw [eb]
    refine ⟨(plain12.code [wordB a.f4]).2.1 rfl ok1, ?_⟩
    obtain ⟨g1, g2⟩ := plain12.act [wordB a.f4] rfl
    refine actC_inj (v := .slice none 0 0) (g1.symm.trans ?_) (g2.trans ?_)
    · rw [eo]
      simp [putsP, putP, cs0, actC, unwT_word, n5, n6, nil_]
    · rw [eo]
/-- an act that Print takes is read back as it was -/
theorem step_act (a : S31) (h5 : inI a.f5) (h6 : inI a.f6) (hp : (printA a).2 = 0) (st : StP) (hs : st.said ≠ 0) (hs2 : st.said ≠ 20000) : stepP (bl (printA a).1) st = (0, ⟨st.said + 1, st.p0, st.p1, st.acts ++ [a]⟩) ∧ ∀ c ∈ bl (printA a).1, c ≠ 10 := by
  unfold printA at hp ⊢
  by_cases hk : 1 ≤ a.f0 ∧ a.f0 ≤ 12
  · rw [if_pos hk] at hp ⊢
    by_cases hsm : sameA a (only a) = true
    · rw [if_pos hsm] at hp ⊢
      by_cases hl : 262144 < (lineL a).length
      · rw [if_pos hl] at hp; cases hp
      · rw [if_neg hl] at hp ⊢
        have eb : bl (⟨(lineL a).toArray⟩ : ByteArray) = lineL a := bl_mk _
        show stepP (bl (⟨(lineL a).toArray⟩ : ByteArray)) st = _ ∧ ∀ c ∈ bl (⟨(lineL a).toArray⟩ : ByteArray), c ≠ 10
        rw [eb]
        refine ⟨?_, line_quiet a hk.1 hk.2⟩
        obtain ⟨c, r, hc, hn⟩ := line_head a hk.1 hk.2
        obtain ⟨g1, g2⟩ := read_back a hk.1 hk.2 h5 h6
        have hkd : kindR (nameOf a.f0) = a.f0.toNat := by have := kindR_nameOf a.f0 hk.1 hk.2; omega
        have hne : ¬ (lineL a = [] ∨ (lineL a).head? = some 35) := by
          rw [hc]
          rintro (h | h)
          · cases h
          · injection h with h; exact hn h
        unfold stepP
        rw [if_neg hl, if_neg hne, if_neg hs2, if_neg hs, line_words a hk.1 hk.2]
        show (if kindR (nameOf a.f0) = 0 then _ else (codeR (kindR (nameOf a.f0)) (behind a), (⟨st.said + 1, st.p0, st.p1, st.acts ++ [actR (kindR (nameOf a.f0)) (behind a)]⟩ : StP))) = _
        rw [hkd, if_neg (by omega), g1, g2, ← same_is a (only a) hsm]
    · rw [if_neg hsm] at hp; cases hp
  · rw [if_neg hk] at hp; cases hp
theorem room_words (p0 p1 : Int) : wordsOf (roomL p0 p1) = [roomB, itoaB p0, itoaB p1] := by
  have e : roomL p0 p1 = Lib.join [bl roomB, bl (itoaB p0), bl (itoaB p1)] [32] := by
    rw [join_two, join_two, Lib.join_one]; rfl
  unfold wordsOf
  rw [e, cuts_join 32 _ (by simp) ?_]
  · show [mkB (bl roomB), mkB (bl (itoaB p0)), mkB (bl (itoaB p1))] = _
    rw [mk_bl, mk_bl, mk_bl]
  · intro l hl c hc
    simp only [List.mem_cons, List.not_mem_nil, or_false] at hl
    rcases hl with rfl | rfl | rfl
    · exact (show ∀ c ∈ bl roomB, c ≠ 32 by decide +kernel) c hc
    · exact (num_quiet p0 c hc).1
    · exact (num_quiet p1 c hc).1
theorem room_quiet (p0 p1 : Int) : ∀ c ∈ roomL p0 p1, c ≠ 10 := by
  intro c hc
  unfold roomL at hc
  rcases List.mem_append.1 hc with h | h
  · exact (show ∀ c ∈ ([114, 111, 111, 109, 32] : List UInt8), c ≠ 10 by decide) c h
  · rcases List.mem_append.1 h with h | h
    · exact (num_quiet p0 c h).2
    · rcases List.mem_cons.1 h with rfl | h
      · decide
      · exact (num_quiet p1 c h).2
theorem roomL_len (p0 p1 : Int) (h0 : inI p0) (h1 : inI p1) : (roomL p0 p1).length ≤ 48 := by
  have := num_len p0 h0
  have := num_len p1 h1
  unfold roomL
  simp only [List.length_append, List.length_cons, List.length_nil]
  omega
theorem step_room (p0 p1 : Int) (h0 : inI p0) (h1 : inI p1) : stepP (roomL p0 p1) ⟨0, 0, 0, []⟩ = (0, ⟨1, p0, p1, []⟩) := by
  have e0 := numW_itoa p0 h0
  have e1 := numW_itoa p1 h1
  have hl := roomL_len p0 p1 h0 h1
  unfold stepP
  rw [if_neg (by omega), if_neg (by unfold roomL; rintro (h | h) <;> cases h), if_neg (by decide), if_pos rfl, room_words]
  show (codeRoom [roomB, itoaB p0, itoaB p1], (⟨1, numN (bl (itoaB p0)), numN (bl (itoaB p1)), []⟩ : StP)) = _
  rw [numN_of e0, numN_of e1]
  unfold codeRoom
  rw [if_pos (show [roomB, itoaB p0, itoaB p1].getD 0 ByteArray.empty = roomB from rfl), if_pos (show [roomB, itoaB p0, itoaB p1].length = 3 from rfl), if_pos ⟨by show (numW (bl (itoaB p0))).isSome = true; rw [e0]; rfl, by show (numW (bl (itoaB p1))).isSome = true; rw [e1]; rfl⟩]
theorem go_acts : ∀ (acts : List S31) (i : Nat) (st : StP), (∀ a ∈ acts, inI a.f5 ∧ inI a.f6 ∧ (printA a).2 = 0) → st.said ≠ 0 → st.said + acts.length ≤ 20000 → goP (acts.map (fun a => bl (printA a).1)) i st = ((st.p0, st.p1, st.acts ++ acts), 0, 0)
  | [], i, st, _, h0, _ => by
    show (if st.said = 0 then _ else _) = _
    rw [if_neg h0, List.append_nil]
  | a :: r, i, st, h, h0, hl => by
    rw [List.length_cons] at hl
    obtain ⟨h5, h6, hp⟩ := h a List.mem_cons_self
    obtain ⟨hs, _⟩ := step_act a h5 h6 hp st h0 (by omega)
    show (if (stepP (bl (printA a).1) st).1 = 0 then goP _ (i + 1) (stepP (bl (printA a).1) st).2 else _) = _
    rw [hs, if_pos rfl, go_acts r (i + 1) _ (fun x hx => h x (List.mem_cons_of_mem _ hx)) (Nat.succ_ne_zero _) (by show st.said + 1 + r.length ≤ 20000; omega)]
    simp
theorem bad_nil : ∀ acts : List S31, badP acts = none → ∀ a ∈ acts, (printA a).2 = 0
  | [], _, a, h => by cases h
  | x :: r, hb, a, h => by
    by_cases hx : (printA x).2 = 0
    · rcases List.mem_cons.1 h with rfl | h
      · exact hx
      · refine bad_nil r ?_ a h
        unfold badP at hb
        rw [if_pos hx] at hb
        exact hb
    · unfold badP at hb
      rw [if_neg hx] at hb
      cases hb
/-- a play that Print takes is read back as it was -/
theorem parse_print (p0 p1 : Int) (acts : List S31) (h0 : inI p0) (h1 : inI p1) (ha : ∀ a ∈ acts, inI a.f5 ∧ inI a.f6) (hp : (printP p0 p1 acts).2 = 0) : parseP (bl (printP p0 p1 acts).1) = ((p0, p1, acts), 0, 0) := by
  unfold printP at hp ⊢
  cases hb : badP acts with
  | some e =>
    have hne : ∀ (l : List S31) e, badP l = some e → e ≠ 0 := by
      intro l
      induction l with
      | nil => intro e h; cases h
      | cons a r ih =>
        intro e h
        unfold badP at h
        by_cases hx : (printA a).2 = 0
        · rw [if_pos hx] at h; exact ih e h
        · rw [if_neg hx] at h; injection h with h; rw [← h]; exact hx
    rw [hb] at hp
    exact absurd hp (hne acts e hb)
  | none =>
    rw [hb] at hp
    by_cases hl : 20000 < acts.length + 1
    · simp only [if_pos hl] at hp; cases hp
    · simp only [if_neg hl]
      show parseP (bl (⟨(textP p0 p1 acts).toArray⟩ : ByteArray)) = _
      have eb : bl (⟨(textP p0 p1 acts).toArray⟩ : ByteArray) = textP p0 p1 acts := bl_mk _
      have hok := bad_nil acts hb
      have hall : ∀ a ∈ acts, inI a.f5 ∧ inI a.f6 ∧ (printA a).2 = 0 := fun a h => ⟨(ha a h).1, (ha a h).2, hok a h⟩
      have el : linesOf (textP p0 p1 acts) [] = roomL p0 p1 :: acts.map (fun a => bl (printA a).1) := by
        unfold textP
        rw [lines_join _ (by simp [linesP]) ?_]
        · unfold linesP
          rw [List.map_cons, List.map_map]
          rfl
        · intro l hl2 c hc
          obtain ⟨s, hs, rfl⟩ := List.mem_map.1 hl2
          rcases List.mem_cons.1 hs with rfl | hs
          · have : (roomS p0 p1).data.toList = roomL p0 p1 := by unfold roomS; simp
            rw [this] at hc
            exact room_quiet p0 p1 c hc
          · obtain ⟨a, ha2, rfl⟩ := List.mem_map.1 hs
            obtain ⟨h5, h6, h7⟩ := hall a ha2
            exact (step_act a h5 h6 h7 ⟨1, 0, 0, []⟩ (by decide) (by decide)).2 c hc
      rw [eb]
      unfold parseP
      rw [el]
      show (if (stepP (roomL p0 p1) ⟨0, 0, 0, []⟩).1 = 0 then goP _ (0 + 1) (stepP (roomL p0 p1) ⟨0, 0, 0, []⟩).2 else _) = _
      rw [step_room p0 p1 h0 h1, if_pos rfl, go_acts acts _ _ hall (Nat.succ_ne_zero _) (by show 1 + acts.length ≤ 20000; omega)]
      rfl
end Go.Proofs.YtkfjjmmpbfjhaaaGreatDoor.Tells
namespace Go.Proofs.YtkfjjmmpbfjhaaaGreatDoor.Tells
open Go.RowKit Go.Proofs.YtkfjjmmpbfjhaaaGreatDoor.Facts Go.Proofs.YtkfjjmmpbfjhaaaGreatDoor.PScriptActs Go.Proofs.YtkfjjmmpbfjhaaaGreatDoorW.PrintWords Go.Proofs.YtkfjjmmpbfjhaaaGreatDoorW.PrintLast Go.Proofs.YtkfjjmmpbfjhaaaGreatDoorW.PrintMore
set_option linter.unusedVariables false
set_option linter.unusedSimpArgs false
/-- an act's bulk -/
def wtA (a : S31) : Nat := a.f1.size + a.f2.size + a.f4.size + ((a.f3.map (·.size)).sum + a.f3.length) + 1
theorem line_le (a : S31) (h5 : inI a.f5) (h6 : inI a.f6) : (lineL a).length ≤ 3 * wtA a + 64 := by
  have h := join_len2 ((nameOf a.f0 :: behind a).map (·.data.toList))
  have hn := name_len a.f0
  have k1 := word_len a.f1
  have k2 := word_len a.f2
  have k4 := word_len a.f4
  have k3 := words_len a.f3
  have k5 := num_len a.f5 h5
  have k6 := num_len a.f6 h6
  refine Nat.le_trans h ?_
  unfold wtA
  rw [List.map_cons, List.map_cons, List.sum_cons]
  unfold behind
  repeat' split
  all_goals simp only [List.map_cons, List.map_nil, List.sum_cons, List.sum_nil] at k3 ⊢
  all_goals omega
theorem printA_le (a : S31) (h5 : inI a.f5) (h6 : inI a.f6) : (printA a).1.size ≤ 3 * wtA a + 64 := by
  have h := line_le a h5 h6
  unfold printA
  repeat' split
  · exact Nat.zero_le _
  · show (lineL a).toArray.size ≤ _
    simpa using h
  · exact Nat.zero_le _
  · exact Nat.zero_le _
theorem join_len10 : ∀ ls : List (List UInt8), (Lib.join ls [10]).length ≤ (ls.map (fun l => l.length + 1)).sum
  | [] => by simp [Lib.join_nil]
  | [a] => by rw [Lib.join_one]; simp
  | a :: b :: r => by
    have := join_len10 (b :: r)
    rw [join_two, List.map_cons, List.sum_cons, List.length_append, List.length_cons]
    omega
theorem acts_len : ∀ acts : List S31, (∀ a ∈ acts, inI a.f5 ∧ inI a.f6) → ((acts.map (fun a => (printA a).1)).map (·.data.toList) |>.map (fun l => l.length + 1)).sum ≤ 68 * (acts.map wtA).sum
  | [], _ => by simp
  | a :: r, h => by
    have h1 := printA_le a (h a List.mem_cons_self).1 (h a List.mem_cons_self).2
    have h2 := acts_len r (fun x hx => h x (List.mem_cons_of_mem _ hx))
    have h3 : (printA a).1.data.toList.length = (printA a).1.size := bl_len _
    have h4 : 1 ≤ wtA a := by unfold wtA; omega
    simp only [List.map_cons, List.sum_cons] at h2 ⊢
    omega
theorem text_le (p0 p1 : Int) (h0 : inI p0) (h1 : inI p1) (acts : List S31) (h : ∀ a ∈ acts, inI a.f5 ∧ inI a.f6) : (printP p0 p1 acts).1.size ≤ 68 * (acts.map wtA).sum + 60 := by
  have ha := acts_len acts h
  have hr := roomL_len p0 p1 h0 h1
  have ht : (textP p0 p1 acts).length ≤ 68 * (acts.map wtA).sum + 60 := by
    unfold textP linesP
    have hj := join_len10 ((roomS p0 p1 :: acts.map (fun a => (printA a).1)).map (·.data.toList))
    rw [List.map_cons, List.map_cons, List.sum_cons] at hj
    rw [List.length_append, List.map_cons]
    have e : (roomS p0 p1).data.toList = roomL p0 p1 := by unfold roomS; simp
    rw [e] at hj ⊢
    simp only [List.length_cons, List.length_nil]
    omega
  unfold printP
  split
  · exact Nat.zero_le _
  · split
    · exact Nat.zero_le _
    · show (textP p0 p1 acts).toArray.size ≤ _
      simpa using ht
theorem itoa_pos (n : Int) : 1 ≤ (itoaB n).size := by
  have e : (itoaB n).size = (Lib.itoa n).length := by unfold itoaB; show (Lib.itoa n).toArray.size = _; simp
  rw [e]
  unfold Lib.itoa
  split
  · simp
  · exact List.length_pos_iff.2 (dec_digits _).2
/-- a play without acts is printed -/
theorem print_bare (p0 p1 : Int) : ∃ s0, printP p0 p1 [] = (s0, 0) ∧ 9 ≤ s0.size := by
  refine ⟨⟨(textP p0 p1 []).toArray⟩, rfl, ?_⟩
  show 9 ≤ (textP p0 p1 []).toArray.size
  have e : (roomS p0 p1).data.toList = roomL p0 p1 := by unfold roomS; simp
  have h0 := itoa_pos p0
  have h1 := itoa_pos p1
  have g0 : (itoaB p0).data.toList.length = (itoaB p0).size := bl_len _
  have g1 : (itoaB p1).data.toList.length = (itoaB p1).size := bl_len _
  unfold textP linesP
  simp only [List.map_cons, List.map_nil, Lib.join_one, e]
  unfold roomL
  simp only [List.size_toArray, List.length_append, List.length_cons, List.length_nil]
  omega
theorem print_bad (p0 p1 : Int) (acts : List S31) (h : (printP p0 p1 acts).2 ≠ 0) : (printP p0 p1 acts).1 = ⟨#[]⟩ := by
  unfold printP at h ⊢
  split
  · rfl
  · rename_i hb
    rw [hb] at h
    split
    · rfl
    · rename_i hn
      simp only [if_neg hn] at h
      exact absurd rfl h
end Go.Proofs.YtkfjjmmpbfjhaaaGreatDoor.Tells
namespace Go.Proofs.YtkfjjmmpbfjhaaaGreatDoor.Tells
open Go.RowKit Go.Proofs.YtkfjjmmpbfjhaaaGreatDoor.Facts Go.Proofs.YtkfjjmmpbfjhaaaGreatDoor.PScriptActs Go.Proofs.YtkfjjmmpbfjhaaaGreatDoorW.PrintWords Go.Proofs.YtkfjjmmpbfjhaaaGreatDoorW.PrintLast Go.Proofs.YtkfjjmmpbfjhaaaGreatDoorW.PrintMore
attribute [local go_sem] max2_int min2_int max_two min_two max_three min_three max_four min_four
set_option linter.unusedVariables false
set_option linter.unusedSimpArgs false
/-- what Parse answers of a text that is a play -/
theorem parsed_play {s : ByteArray} {w w' : World} {e : Ending} {p0 p1 : Int} {acts : List S31} (h : Parsed s w e w') (hp : parseP (bl s) = ((p0, p1, acts), 0, 0)) :
    ∃ A c, e = .returned (.tuple #[.agg #[.int .i64 p0, .int .i64 p1, .slice A acts.length c], .nilIface]) ∧ Below w.heap.size w w' ∧ Kd.C k31 w' A acts.length acts ∧ acts.length ≤ c := by
  obtain ⟨v, er, he, hb, hS, h0, _⟩ := h
  rw [hp] at he hS h0
  obtain ⟨A, c, rfl, hc, hC⟩ := Kd.R_reads (Kd.S_R hS)
  rw [h0 rfl] at he
  exact ⟨A, c, he, hb, hC, hc⟩
/-- the two plays' blocks -/
structure RoundAt (W : World) (p0 p1 : Int) (A : Option Addr) (n c : Nat) (wr : World) : Prop where
  below : Below W.heap.size W wr
  one : wr.heap[W.heap.size]? = some (.cells #[.int .i64 p0, .int .i64 p1, .slice A n c] 24 (0, 0))
  two : wr.heap[W.heap.size + 1]? = some (.cells #[.int .i64 p0, .int .i64 p1, .slice none 0 0] 24 (0, 0))
theorem RoundAt.next {W : World} {p0 p1 : Int} {A : Option Addr} {n c : Nat} {wr w2 : World} (h : RoundAt W p0 p1 A n c wr) (hb : Below wr.heap.size wr w2) : RoundAt W p0 p1 A n c w2 :=
  ⟨below_then h.below h.below.size hb, (hb.block _ (blk_lt h.one)).trans h.one, (hb.block _ (blk_lt h.two)).trans h.two⟩
theorem sameP_refl (p0 p1 : Int) (acts : List S31) : sameP p0 p1 acts p0 p1 acts = true := by
  unfold sameP; simp
set_option maxHeartbeats 8000000 in
set_option maxRecDepth 100000 in
theorem round_law (p0 p1 : Int) (hp0 : inI p0) (hp1 : inI p1) (acts : List S31) (ha : ∀ a ∈ acts, Aok a) (hn : acts.length ≤ 1048576) (hz : (printP p0 p1 acts).1.size ≤ 1073741824) (A : Option Addr) (c : Nat) (W : World) (E : Env W) (M : Mx W) (hC : k31.C W A acts.length acts) (hc : acts.length ≤ c) :
    Calls Tryz.prog 5 #[.agg #[.int .i64 p0, .int .i64 p1, .slice A acts.length c]] W fun e w' => e = .returned (.bool true) ∧ Below W.heap.size W w' := by
  have HA := Aside0.mk ha
  have HE := Aside0.mk (And.intro E M)
  have HP := Aside0.mk (And.intro hp0 hp1)
  have HC := Aside0.mk (And.intro hC hc)
  have HR : Aside0 (∀ a ∈ acts, inI a.f5 ∧ inI a.f6) := ⟨fun a h => ⟨(ha a h).number, (ha a h).fuel⟩⟩
  have HF3 : Aside0 (∀ a ∈ acts, a.f3.length ≤ 1048576) := ⟨fun a h => (ha a h).count⟩
  have HZ := Aside0.mk hz
  obtain ⟨s0, hs0, hs9⟩ := print_bare p0 p1
  have H0 : Aside0 (printP p0 p1 [] = (s0, 0) ∧ s0.size ≤ 1073741824 ∧ parseP (bl s0) = ((p0, p1, []), 0, 0)) := ⟨hs0, by
    have := text_le p0 p1 hp0 hp1 [] (by simp)
    rw [hs0] at this
    simp at this
    exact Nat.le_trans this (by decide), by
    have := parse_print p0 p1 [] hp0 hp1 (by simp) (by rw [hs0])
    rw [hs0] at this
    exact this⟩
  have b9 : decide ((s0.size : Int) < 9) = false := decide_eq_false (by omega)
  clear ha E M hC hc hp0 hp1 hz hs0 hs9
  obtain ⟨n, hnl⟩ : ∃ n, n = acts.length := ⟨_, rfl⟩
  have HNL := Aside0.mk hnl
  rw [← hnl] at HC hn
  rw [← hnl]
  clear hnl
  have HB0 : Aside0 (∀ W0, W0 = (W.alloc (.cells #[.int .i64 p0, .int .i64 p1, .slice A n c] 24 (0, 0))).alloc (.cells #[.int .i64 p0, .int .i64 p1, .slice none 0 0] 24 (0, 0)) → RoundAt W p0 p1 A n c W0) := ⟨fun W0 h => by
    rw [h]
    have e := blk_new W (.cells #[.int .i64 p0, .int .i64 p1, .slice A n c] 24 (0, 0))
    refine ⟨below_alloc (below_alloc (Below.refl _ _) _) _, ((below_alloc (Below.refl _ _) _).block _ (blk_lt e)).trans e, ?_⟩
    have := blk_new (W.alloc (.cells #[.int .i64 p0, .int .i64 p1, .slice A n c] 24 (0, 0))) (.cells #[.int .i64 p0, .int .i64 p1, .slice none 0 0] 24 (0, 0))
    simpa using this⟩
  go_enter Tryz.func5, Tryz.ntmps5
  go_wp2_with fail
  have HB1 := Aside0.mk (HB0.out _ rfl)
  obtain ⟨W0, hW0⟩ : ∃ W0, W0 = (W.alloc (.cells #[.int .i64 p0, .int .i64 p1, .slice A n c] 24 (0, 0))).alloc (.cells #[.int .i64 p0, .int .i64 p1, .slice none 0 0] 24 (0, 0)) := ⟨_, rfl⟩
  rw [← hW0] at HB1
  rw [← hW0]
  clear hW0 HB0
  refine (print_calls p0 p1 HP.out.1 HP.out.2 [] (by simp) (by simp) none 0 W0 (HE.out.1.below HB1.out.below) (Kd.C_nil _ _) (Nat.le_refl _) (.tuple #[.string s0, .int .i64 0]) ⟨by rw [H0.out.1]⟩).mono ?_
  rintro e w1 ⟨rfl, hb1⟩
  have HB2 := Aside0.mk (HB1.out.next hb1)
  clear hb1
  go_wp2_with fail
  refine (parse_calls s0 H0.out.2.1 w1 (HE.out.1.below HB2.out.below) (HE.out.2.below HB2.out.below)).mono ?_
  rintro e w2 hq
  obtain ⟨A2, c2, rfl, hb2, hC2, hc2⟩ := parsed_play hq H0.out.2.2
  have HB3 := Aside0.mk (HB2.out.next hb2)
  have HC2 := Aside0.mk (And.intro hC2 hc2)
  clear hq hb2 hC2 hc2
  go_wp2_with fail
  obtain ⟨B, hB⟩ : ∃ B, B = w2.heap.size := ⟨_, rfl⟩
  obtain ⟨w3, hw3⟩ : ∃ w3, w3 = w2.alloc (.cells #[.int .i64 p0, .int .i64 p1, .slice A2 0 c2] 24 (0, 0)) := ⟨_, rfl⟩
  have HB4 : Aside0 (RoundAt W p0 p1 A n c w3 ∧ w3.heap[B]? = some (.cells #[.int .i64 p0, .int .i64 p1, .slice A2 0 c2] 24 (0, 0)) ∧ Kd.C k31 w3 A2 0 []) := ⟨by
    have hb : Below w2.heap.size w2 w3 := by rw [hw3]; exact below_alloc (Below.refl _ _) _
    exact ⟨HB3.out.next hb, by rw [hw3, hB]; exact blk_new w2 _, Kd.C_below HC2.out.1 hb⟩⟩
  have e3 : (w2.alloc (.cells #[.int .i64 p0, .int .i64 p1, .slice A2 0 c2] 24)) = w3 := hw3.symm
  rw [e3, ← hB]
  clear e3 hw3 hB
  refine (num_calls12 0 w3).mono ?_
  rintro e w4 ⟨rfl, hb4⟩
  have HB5 : Aside0 (RoundAt W p0 p1 A n c w4 ∧ w4.heap[B]? = some (.cells #[.int .i64 p0, .int .i64 p1, .slice A2 0 c2] 24 (0, 0)) ∧ Kd.C k31 w4 A2 0 []) := ⟨HB4.out.1.next hb4, (hb4.block _ (blk_lt HB4.out.2.1)).trans HB4.out.2.1, Kd.C_below HB4.out.2.2 hb4⟩
  clear hb4
  have k0 : w4.cell? ⟨W.heap.size + 1, 0, none⟩ = some (.int .i64 p0) := by rw [blk_cell HB5.out.1.two]; rfl
  have k1 : w4.cell? ⟨W.heap.size + 1, 1, none⟩ = some (.int .i64 p1) := by rw [blk_cell HB5.out.1.two]; rfl
  have k2 : w4.cell? ⟨W.heap.size + 1, 2, none⟩ = some (.slice none 0 0) := by rw [blk_cell HB5.out.1.two]; rfl
  have q0 : w4.cell? ⟨B, 0, none⟩ = some (.int .i64 p0) := by rw [blk_cell HB5.out.2.1]; rfl
  have q1 : w4.cell? ⟨B, 1, none⟩ = some (.int .i64 p1) := by rw [blk_cell HB5.out.2.1]; rfl
  have q2 : w4.cell? ⟨B, 2, none⟩ = some (.slice A2 0 c2) := by rw [blk_cell HB5.out.2.1]; rfl
  go_wp2_with fail
  refine (samePlay_calls p0 p1 p0 p1 [] [] none A2 0 c2 w4 (Kd.C_nil _ _) (Nat.le_refl _) HB5.out.2.2 (Nat.zero_le _) (by simp) (by simp)).mono ?_
  rintro e w5 ⟨rfl, hb5⟩
  rw [sameP_refl]
  have HB6 := Aside0.mk (HB5.out.1.next hb5)
  clear hb5 k0 k1 k2 q0 q1 q2
  have k0 : w5.cell? ⟨W.heap.size, 0, none⟩ = some (.int .i64 p0) := by rw [blk_cell HB6.out.one]; rfl
  have k1 : w5.cell? ⟨W.heap.size, 1, none⟩ = some (.int .i64 p1) := by rw [blk_cell HB6.out.one]; rfl
  have k2 : w5.cell? ⟨W.heap.size, 2, none⟩ = some (.slice A n c) := by rw [blk_cell HB6.out.one]; rfl
  go_wp2_with fail
  obtain ⟨s1, hs1⟩ : ∃ s1, (printP p0 p1 acts).1 = s1 := ⟨_, rfl⟩
  obtain ⟨f1, hf1⟩ : ∃ f1, (printP p0 p1 acts).2 = f1 := ⟨_, rfl⟩
  have hcall := print_calls p0 p1 HP.out.1 HP.out.2 acts HA.out (by rw [← HNL.out]; exact hn) A c w5 (HE.out.1.below HB6.out.below) (by rw [← HNL.out]; exact Kd.C_below HC.out.1 HB6.out.below) (by rw [← HNL.out]; exact HC.out.2) (.tuple #[.string s1, .int .i64 f1]) ⟨by rw [hs1, hf1]⟩
  rw [← HNL.out] at hcall
  refine hcall.mono ?_
  rintro e w6 ⟨rfl, hb6⟩
  clear hcall
  have HB7 := Aside0.mk (HB6.out.next hb6)
  have HS1 := Aside0.mk (And.intro hs1 hf1)
  clear hb6 k0 k1 k2 hs1 hf1
  go_wp2_with fail
  refine (num_calls12 f1 w6).mono ?_
  rintro e w7 ⟨rfl, hb7⟩
  have HB8 := Aside0.mk (HB7.out.next hb7)
  clear hb7
  by_cases hf : f1 = 0
  · have HPL : Aside0 (parseP (bl s1) = ((p0, p1, acts), 0, 0) ∧ s1.size ≤ 1073741824) := ⟨by
      have := parse_print p0 p1 acts HP.out.1 HP.out.2 HR.out (by rw [HS1.out.2, hf])
      rw [HS1.out.1] at this
      exact ⟨this, by rw [← HS1.out.1]; exact HZ.out⟩⟩
    subst hf
    go_wp2_with fail
    refine (parse_calls s1 HPL.out.2 w7 (HE.out.1.below HB8.out.below) (HE.out.2.below HB8.out.below)).mono ?_
    rintro e w8 hq
    obtain ⟨A8, c8, rfl, hb8, hC8, hc8⟩ := parsed_play hq HPL.out.1
    rw [← HNL.out] at hC8 hc8 ⊢
    have HB9 := Aside0.mk (HB8.out.next hb8)
    have HC8 := Aside0.mk (And.intro hC8 hc8)
    clear hq hb8 hC8 hc8
    have ka : ∀ o j v, w8.cell? ⟨W.heap.size, j, none⟩ = some v → (w8.alloc o).cell? ⟨W.heap.size, j, none⟩ = some v := fun o j v h => pw_cell_below (below_alloc (Below.refl _ _) _) h
    have k0 : ∀ o, (w8.alloc o).cell? ⟨W.heap.size, 0, none⟩ = some (.int .i64 p0) := fun o => ka o 0 _ (by rw [blk_cell HB9.out.one]; rfl)
    have k1 : ∀ o, (w8.alloc o).cell? ⟨W.heap.size, 1, none⟩ = some (.int .i64 p1) := fun o => ka o 1 _ (by rw [blk_cell HB9.out.one]; rfl)
    have k2 : ∀ o, (w8.alloc o).cell? ⟨W.heap.size, 2, none⟩ = some (.slice A n c) := fun o => ka o 2 _ (by rw [blk_cell HB9.out.one]; rfl)
    clear ka
    go_wp2_with fail
    obtain ⟨B2, hB⟩ : ∃ B2, B2 = w8.heap.size := ⟨_, rfl⟩
    obtain ⟨w9, hw9⟩ : ∃ w9, w9 = w8.alloc (.cells #[.int .i64 p0, .int .i64 p1, .slice A8 n c8] 24 (0, 0)) := ⟨_, rfl⟩
    have HB10 : Aside0 (RoundAt W p0 p1 A n c w9 ∧ w9.heap[B2]? = some (.cells #[.int .i64 p0, .int .i64 p1, .slice A8 n c8] 24 (0, 0)) ∧ Kd.C k31 w9 A8 n acts) := ⟨by
      have hb : Below w8.heap.size w8 w9 := by rw [hw9]; exact below_alloc (Below.refl _ _) _
      exact ⟨HB9.out.next hb, by rw [hw9, hB]; exact blk_new w8 _, Kd.C_below HC8.out.1 hb⟩⟩
    have e9 : (w8.alloc (.cells #[.int .i64 p0, .int .i64 p1, .slice A8 n c8] 24)) = w9 := hw9.symm
    rw [e9, ← hB]
    clear e9 hw9 hB k0 k1 k2
    have hcall := samePlay_calls p0 p1 p0 p1 acts acts A A8 c c8 w9 (by rw [← HNL.out]; exact Kd.C_below HC.out.1 HB10.out.1.below) (by rw [← HNL.out]; exact HC.out.2) (by rw [← HNL.out]; exact HB10.out.2.2) (by rw [← HNL.out]; exact HC8.out.2) (by rw [← HNL.out]; omega) HF3.out
    rw [← HNL.out, sameP_refl] at hcall
    refine hcall.mono ?_
    rintro e w10 ⟨rfl, hb10⟩
    clear hcall
    have HB11 : Aside0 (RoundAt W p0 p1 A n c w10 ∧ w10.heap[B2]? = some (.cells #[.int .i64 p0, .int .i64 p1, .slice A8 n c8] 24 (0, 0)) ∧ Kd.C k31 w10 A8 n acts) := ⟨HB10.out.1.next hb10, (hb10.block _ (blk_lt HB10.out.2.1)).trans HB10.out.2.1, Kd.C_below HB10.out.2.2 hb10⟩
    clear hb10
    have q0 : w10.cell? ⟨B2, 0, none⟩ = some (.int .i64 p0) := by rw [blk_cell HB11.out.2.1]; rfl
    have q1 : w10.cell? ⟨B2, 1, none⟩ = some (.int .i64 p1) := by rw [blk_cell HB11.out.2.1]; rfl
    have q2 : w10.cell? ⟨B2, 2, none⟩ = some (.slice A8 n c8) := by rw [blk_cell HB11.out.2.1]; rfl
    go_wp2_with fail
    have hcall := print_calls p0 p1 HP.out.1 HP.out.2 acts HA.out (by rw [← HNL.out]; exact hn) A8 c8 w10 (HE.out.1.below HB11.out.1.below) (by rw [← HNL.out]; exact HB11.out.2.2) (by rw [← HNL.out]; exact HC8.out.2) (.tuple #[.string s1, .int .i64 0]) ⟨by rw [HS1.out.1, HS1.out.2]⟩
    rw [← HNL.out] at hcall
    refine hcall.mono ?_
    rintro e w11 ⟨rfl, hb11⟩
    clear hcall
    have HB12 := Aside0.mk (HB11.out.1.next hb11)
    clear hb11 q0 q1 q2
    go_wp2_with fail
    refine (num_calls12 0 w11).mono ?_
    rintro e w12 ⟨rfl, hb12⟩
    have HB13 := Aside0.mk (HB12.out.next hb12)
    clear hb12
    go_wp2_with fail
    go_ret
    exact ⟨by simp, HB13.out.below⟩
  · have HBD : Aside0 (s1 = ⟨#[]⟩) := ⟨by
      have := print_bad p0 p1 acts (by rw [HS1.out.2]; exact hf)
      rw [HS1.out.1] at this
      exact this⟩
    have hkn : (f1 != 0) = true := by rw [bne_iff_ne]; exact hf
    have hkd : decide (f1 = 0) = false := decide_eq_false hf
    have hkp : (f1 = 0) = False := eq_false hf
    have hs0 := HBD.out
    subst hs0
    go_wp2_with fail
    go_ret
    exact ⟨by first | rfl | simp, HB8.out.below⟩
end Go.Proofs.YtkfjjmmpbfjhaaaGreatDoor.Tells
