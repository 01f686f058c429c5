/- The plain law of reading: bounds of what is read; lines ahead, behind, cut off. Texts with lines ahead, behind, cut off: what they are read as; cut, walked. errors.As over a line's error. Conditions: those that each theorem states. -/
import Derived.Test.YtkfjjmmpbfjhaaaGreatDoorScrX5
import Derived.Test.YtkfjjmmpbfjhaaaGreatDoorBuild
import Derived.WalkKit
import Derived.LaidEql
import Derived.Stop.Asserts
import Derived.RowKitTokens
namespace Go.Proofs.YtkfjjmmpbfjhaaaGreatDoor.Tells
open Go.RowKit Go.Proofs.YtkfjjmmpbfjhaaaGreatDoor.Facts Go.Proofs.YtkfjjmmpbfjhaaaGreatDoor.PScriptActs Go.Proofs.YtkfjjmmpbfjhaaaGreatDoorW.PrintWords Go.Proofs.YtkfjjmmpbfjhaaaGreatDoorW.PrintLast Go.Proofs.YtkfjjmmpbfjhaaaGreatDoorW.PrintMore
set_option linter.unusedVariables false
set_option linter.unusedSimpArgs false
theorem numN_in (l : List UInt8) : inI (numN l) := by
  unfold numN
  split
  · split
    · rename_i v h; exact Lib.atoiAll_bounds h
    · exact Lib.atoiSat_bounds l
    · exact ⟨by decide, by decide⟩
  · exact ⟨by decide, by decide⟩
theorem unw_len : ∀ (n : Nat) (l o : List UInt8), l.length ≤ n → unw l = some o → o.length ≤ l.length
  | n, [], o, _, h => by
    rw [unw.eq_def] at h
    simp at h
    subst h; simp
  | 0, c :: r, o, hn, h => by simp at hn
  | n + 1, c :: r, o, hn, h => by
    rw [List.length_cons] at hn
    rw [unw.eq_def] at h
    simp only at h
    split at h
    · cases h
    · split at h
      · split at h
        · split at h
          · rename_i a b r2 _
            obtain ⟨o2, h2, rfl⟩ := Option.map_eq_some_iff.1 h
            simp only [List.length_cons] at hn ⊢
            have := unw_len n r2 o2 (by omega) h2
            omega
          · cases h
        · cases h
      · split at h
        · obtain ⟨o2, h2, rfl⟩ := Option.map_eq_some_iff.1 h
          simp only [List.length_cons]
          have := unw_len n r o2 (by omega) h2
          omega
        · cases h
theorem unwT_size (w : ByteArray) : (unwT (bl w)).size ≤ w.size := by
  have hb := bl_len w
  unfold unwT
  cases h : unwS (bl w) with
  | none => exact Nat.zero_le _
  | some o =>
    show o.toArray.size ≤ _
    have : o.length ≤ (bl w).length := by
      unfold unwS at h
      split at h
      · rename_i r hr
        have := unw_len r.length r o (Nat.le_refl _) h
        rw [hr, List.length_cons]; omega
      · cases h
    simp only [List.size_toArray]
    omega
/-- an act's bytes -/
def szA (a : S31) : Nat := a.f1.size + a.f2.size + a.f4.size + ((a.f3.map (·.size)).sum + a.f3.length)
theorem putC_fine (c : Int) (w : ByteArray) (a : S31) : szA (putC c w a) ≤ szA a + (w.size + 1) ∧ (putC c w a).f0 = a.f0 ∧ (inI a.f5 ∧ inI a.f6 → inI (putC c w a).f5 ∧ inI (putC c w a).f6) := by
  have hu := unwT_size w
  have hn := numN_in (bl w)
  unfold putC szA
  repeat' split
  all_goals refine ⟨?_, rfl, fun h => ?_⟩
  all_goals first
    | ((try simp only [List.map_append, List.map_cons, List.map_nil, List.sum_append, List.sum_cons, List.sum_nil, List.length_append, List.length_cons, List.length_nil]); omega)
    | exact h
    | exact ⟨hn, h.2⟩
    | exact ⟨h.1, hn⟩
theorem putR_fine (sh : ByteArray) (n : Nat) : ∀ (ws : List ByteArray) (i : Nat) (a : S31), szA (putR sh n i ws a) ≤ szA a + (ws.map (fun w => w.size + 1)).sum ∧ (putR sh n i ws a).f0 = a.f0 ∧ (inI a.f5 ∧ inI a.f6 → inI (putR sh n i ws a).f5 ∧ inI (putR sh n i ws a).f6)
  | [], i, a => ⟨by simp [putR], rfl, fun h => h⟩
  | w :: ws, i, a => by
    obtain ⟨h1, h2, h3⟩ := putC_fine (chC sh n i) w a
    obtain ⟨k1, k2, k3⟩ := putR_fine sh n ws (i + 1) (putC (chC sh n i) w a)
    refine ⟨?_, k2.trans h2, fun h => k3 (h3 h)⟩
    show szA (putR sh n (i + 1) ws (putC _ w a)) ≤ _
    rw [List.map_cons, List.sum_cons]
    omega
theorem cuts_sum (b : UInt8) : ∀ l acc, ((cuts b l acc).map (fun x => x.length + 1)).sum = acc.length + l.length + 1
  | [], acc => by simp [cuts]
  | c :: r, acc => by
    unfold cuts
    split
    · rw [List.map_cons, List.sum_cons, cuts_sum b r []]; simp; omega
    · rw [cuts_sum b r]; simp; omega
theorem words_sum (l : List UInt8) : ((wordsOf l).map (fun w => w.size + 1)).sum = l.length + 1 := by
  have h := cuts_sum 32 l []
  unfold wordsOf
  rw [List.map_map]
  have e : ((fun w : ByteArray => w.size + 1) ∘ mkB) = fun x : List UInt8 => x.length + 1 := by
    funext x
    show (x.toArray).size + 1 = _
    simp
  rw [e, h]
  simp
theorem mem_le_sum {l : List ByteArray} {s : ByteArray} (h : s ∈ l) : s.size ≤ (l.map (·.size)).sum := by
  induction l with
  | nil => cases h
  | cons a r ih =>
    rw [List.map_cons, List.sum_cons]
    rcases List.mem_cons.1 h with rfl | h
    · omega
    · have := ih h; omega
/-- an act that is read of a line: its bounds -/
theorem act_fine (l : List UInt8) (hl : l.length ≤ 262144) : Aok (actR (kindR ((wordsOf l).getD 0 ByteArray.empty)) (wordsOf l).tail) ∧ wtA (actR (kindR ((wordsOf l).getD 0 ByteArray.empty)) (wordsOf l).tail) ≤ l.length + 1 := by
  have hk := kindR_le ((wordsOf l).getD 0 ByteArray.empty)
  obtain ⟨k, hkk⟩ : ∃ k, k = kindR ((wordsOf l).getD 0 ByteArray.empty) := ⟨_, rfl⟩
  rw [← hkk] at hk ⊢
  obtain ⟨h1, h2, h3⟩ := putR_fine (shR k) (nR k) (wordsOf l).tail 0 (act0 k)
  have hs := words_sum l
  have hp := wordsOf_pos l
  have ht : ((wordsOf l).tail.map (fun w => w.size + 1)).sum ≤ l.length := by
    cases hw : wordsOf l with
    | nil => rw [hw] at hp; cases hp
    | cons a r =>
      rw [hw, List.map_cons, List.sum_cons] at hs
      show (r.map _).sum ≤ _
      omega
  have h0 : szA (act0 k) = 0 := rfl
  have hz : szA (actR k (wordsOf l).tail) ≤ l.length := by unfold actR; omega
  have h5 := h3 ⟨⟨by show (-9223372036854775808 : Int) ≤ 0; decide, by show (0 : Int) ≤ 9223372036854775807; decide⟩, ⟨by show (-9223372036854775808 : Int) ≤ 0; decide, by show (0 : Int) ≤ 9223372036854775807; decide⟩⟩
  have hf0 : (actR k (wordsOf l).tail).f0 = (k : Int) := h2
  unfold szA at hz
  refine ⟨⟨by rw [hf0]; exact ⟨by omega, by omega⟩, by omega, by omega, fun s hs => ?_, by omega, by omega, h5.1, h5.2, by omega⟩, by unfold wtA; omega⟩
  have := mem_le_sum hs
  omega
/-- what holds of a play that is being read -/
structure Fine (st : StP) (n : Nat) : Prop where
  p0 : inI st.p0
  p1 : inI st.p1
  acts : ∀ a ∈ st.acts, Aok a
  count : st.acts.length ≤ st.said
  said : st.said ≤ 20000
  sum : (st.acts.map wtA).sum ≤ n
theorem step_fine (l : List UInt8) (st : StP) (n : Nat) (h : Fine st n) (h0 : (stepP l st).1 = 0) : Fine (stepP l st).2 (n + (l.length + 1)) := by
  unfold stepP at h0 ⊢
  by_cases c1 : 262144 < l.length
  · rw [if_pos c1] at h0; cases h0
  · rw [if_neg c1] at h0 ⊢
    by_cases c2 : l = [] ∨ l.head? = some 35
    · rw [if_pos c2]
      exact ⟨h.p0, h.p1, h.acts, h.count, h.said, Nat.le_trans h.sum (Nat.le_add_right _ _)⟩
    · rw [if_neg c2] at h0 ⊢
      by_cases c3 : st.said = 20000
      · rw [if_pos c3] at h0; cases h0
      · rw [if_neg c3] at h0 ⊢
        have hsd := h.said
        have hct := h.count
        have hsm := h.sum
        by_cases c4 : st.said = 0
        · rw [if_pos c4]
          exact ⟨numN_in _, numN_in _, h.acts, by show st.acts.length ≤ 1; omega, by show 1 ≤ 20000; decide, Nat.le_trans h.sum (Nat.le_add_right _ _)⟩
        · rw [if_neg c4] at h0 ⊢
          by_cases c5 : kindR ((wordsOf l).getD 0 ByteArray.empty) = 0
          · rw [if_pos c5] at h0; cases h0
          · rw [if_neg c5]
            obtain ⟨g1, g2⟩ := act_fine l (by omega)
            refine ⟨h.p0, h.p1, fun a ha => ?_, ?_, ?_, ?_⟩
            · rcases List.mem_append.1 ha with ha | ha
              · exact h.acts a ha
              · rw [List.mem_singleton.1 ha]; exact g1
            · show (st.acts ++ [_]).length ≤ st.said + 1
              rw [List.length_append]; simp; omega
            · show st.said + 1 ≤ 20000; omega
            · show ((st.acts ++ [_]).map wtA).sum ≤ _
              rw [List.map_append, List.sum_append, List.map_cons, List.map_nil, List.sum_cons, List.sum_nil]
              omega
theorem code_of (l : List UInt8) (st : StP) : (stepP l st).1 = 0 ∨ (240 ≤ (stepP l st).1 ∧ (stepP l st).1 ≤ 246) := by
  have hr : codeRoom (wordsOf l) = 0 ∨ (240 ≤ codeRoom (wordsOf l) ∧ codeRoom (wordsOf l) ≤ 246) := by
    unfold codeRoom
    split
    · split
      · split
        · exact .inl rfl
        · exact .inr (show (240 : Int) ≤ 244 ∧ (244 : Int) ≤ 246 by decide)
      · exact .inr (show (240 : Int) ≤ 243 ∧ (243 : Int) ≤ 246 by decide)
    · exact .inr (show (240 : Int) ≤ 240 ∧ (240 : Int) ≤ 246 by decide)
  have hc : ∀ k ws, codeR k ws = 0 ∨ (240 ≤ codeR k ws ∧ codeR k ws ≤ 246) := fun k ws => by
    unfold codeR
    split
    · exact .inr (show (240 : Int) ≤ 243 ∧ (243 : Int) ≤ 246 by decide)
    · split
      · exact .inl rfl
      · exact .inr (show (240 : Int) ≤ 244 ∧ (244 : Int) ≤ 246 by decide)
  unfold stepP
  repeat' split
  · exact .inr (show (240 : Int) ≤ 241 ∧ (241 : Int) ≤ 246 by decide)
  · exact .inl rfl
  · exact .inr (show (240 : Int) ≤ 246 ∧ (246 : Int) ≤ 246 by decide)
  · exact hr
  · exact .inr (show (240 : Int) ≤ 242 ∧ (242 : Int) ≤ 246 by decide)
  · exact hc _ _
/-- what a reading answers, in bounds -/
theorem go_fine : ∀ (ls : List (List UInt8)) (i : Nat) (st : StP) (n : Nat), Fine st n → inI (goP ls i st).1.1 ∧ inI (goP ls i st).1.2.1 ∧ (∀ a ∈ (goP ls i st).1.2.2, Aok a) ∧ (goP ls i st).1.2.2.length ≤ 20000 ∧ ((goP ls i st).1.2.2.map wtA).sum ≤ n + (ls.map (fun l => l.length + 1)).sum ∧
    (((goP ls i st).2.1 = 0 ∧ ((goP ls i st).2.2 = 0 ∨ (goP ls i st).2.2 = 240)) ∨ ((i : Int) + 1 ≤ (goP ls i st).2.1 ∧ (goP ls i st).2.1 ≤ (i : Int) + ls.length ∧ 240 ≤ (goP ls i st).2.2 ∧ (goP ls i st).2.2 ≤ 246))
  | [], i, st, n, h => by
    have hz : inI 0 := ⟨by decide, by decide⟩
    unfold goP
    split
    · exact ⟨hz, hz, fun a ha => (by cases ha), Nat.zero_le _, Nat.zero_le _, .inl ⟨rfl, .inr rfl⟩⟩
    · exact ⟨h.p0, h.p1, h.acts, Nat.le_trans h.count h.said, Nat.le_trans h.sum (Nat.le_add_right _ _), .inl ⟨rfl, .inl rfl⟩⟩
  | l :: ls, i, st, n, h => by
    have hz : inI 0 := ⟨by decide, by decide⟩
    have hcd := code_of l st
    unfold goP
    by_cases h0 : (stepP l st).1 = 0
    · rw [if_pos h0]
      obtain ⟨g1, g2, g3, g4, g5, g6⟩ := go_fine ls (i + 1) (stepP l st).2 (n + (l.length + 1)) (step_fine l st n h h0)
      refine ⟨g1, g2, g3, g4, ?_, ?_⟩
      · rw [List.map_cons, List.sum_cons]; omega
      · rcases g6 with g6 | ⟨k1, k2, k3, k4⟩
        · exact .inl g6
        · exact .inr ⟨by omega, by rw [List.length_cons]; omega, k3, k4⟩
    · rw [if_neg h0]
      refine ⟨hz, hz, fun a ha => (by cases ha), Nat.zero_le _, Nat.zero_le _, .inr ⟨Int.le_refl _, ?_, ?_⟩⟩
      · show (i : Int) + 1 ≤ (i : Int) + ((l :: ls).length : Int)
        rw [List.length_cons]; omega
      · rcases hcd with hc | hc
        · exact absurd hc h0
        · exact hc
/-- the lines ahead move the line, and nothing else -/
theorem go_shift (m : Nat) : ∀ (ls : List (List UInt8)) (i : Nat) (st : StP), goP ls (i + m) st = ((goP ls i st).1, if (goP ls i st).2.1 = 0 then 0 else (goP ls i st).2.1 + m, (goP ls i st).2.2)
  | [], i, st => by
    unfold goP
    split <;> rfl
  | l :: ls, i, st => by
    unfold goP
    by_cases h0 : (stepP l st).1 = 0
    · rw [if_pos h0, if_pos h0, show i + m + 1 = i + 1 + m by omega, go_shift m ls (i + 1)]
    · rw [if_neg h0, if_neg h0]
      show ((0, 0, []), ((i + m : Nat) : Int) + 1, (stepP l st).1) = ((0, 0, []), if (i : Int) + 1 = 0 then 0 else (i : Int) + 1 + m, (stepP l st).1)
      rw [if_neg (by omega)]
      congr 2
      omega
/-- lines behind that say nothing -/
theorem go_silent (ex : List (List UInt8)) (hx : ∀ x ∈ ex, ∀ st, stepP x st = (0, st)) : ∀ (ls : List (List UInt8)) (i : Nat) (st : StP), (goP ls i st).2.1 = 0 → goP (ls ++ ex) i st = goP ls i st
  | [], i, st, h => by
    have key : ∀ (ys : List (List UInt8)) i, (∀ x ∈ ys, ∀ st, stepP x st = (0, st)) → goP ys i st = goP [] 0 st := by
      intro ys
      induction ys with
      | nil => intro i _; rfl
      | cons y ys ih =>
        intro i hy
        show (if (stepP y st).1 = 0 then goP ys (i + 1) (stepP y st).2 else _) = _
        rw [hy y List.mem_cons_self st, if_pos rfl]
        exact ih (i + 1) (fun x hx => hy x (List.mem_cons_of_mem _ hx))
    exact key ex i hx
  | l :: ls, i, st, h => by
    unfold goP at h
    show (if (stepP l st).1 = 0 then goP (ls ++ ex) (i + 1) (stepP l st).2 else _) = (if (stepP l st).1 = 0 then goP ls (i + 1) (stepP l st).2 else _)
    by_cases h0 : (stepP l st).1 = 0
    · rw [if_pos h0] at h
      rw [if_pos h0, if_pos h0]
      exact go_silent ex hx ls (i + 1) _ h
    · rw [if_neg h0] at h
      have h' : (i : Int) + 1 = 0 := h
      omega
/-- the lines ahead of the first bad one -/
theorem go_cut : ∀ (ls : List (List UInt8)) (i : Nat) (st : StP) (m : Nat), (goP ls i st).2.1 = (i : Int) + m + 1 → (goP (ls.take m) i st).2.1 = 0
  | ls, i, st, 0, h => by
    rw [List.take_zero]
    unfold goP
    split <;> rfl
  | [], i, st, m + 1, h => by
    unfold goP at h
    split at h
    · have h' : (0 : Int) = (i : Int) + ((m + 1 : Nat) : Int) + 1 := h; omega
    · have h' : (0 : Int) = (i : Int) + ((m + 1 : Nat) : Int) + 1 := h; omega
  | l :: ls, i, st, m + 1, h => by
    unfold goP at h
    rw [List.take_succ_cons]
    show (if (stepP l st).1 = 0 then goP (ls.take m) (i + 1) (stepP l st).2 else _).2.1 = 0
    by_cases h0 : (stepP l st).1 = 0
    · rw [if_pos h0] at h
      rw [if_pos h0]
      exact go_cut ls (i + 1) _ m (by rw [h]; omega)
    · rw [if_neg h0] at h
      have h' : (i : Int) + 1 = (i : Int) + ((m + 1 : Nat) : Int) + 1 := h
      omega
end Go.Proofs.YtkfjjmmpbfjhaaaGreatDoor.Tells
namespace Go.Proofs.YtkfjjmmpbfjhaaaGreatDoor.Tells
open Go.RowKit Go.Proofs.YtkfjjmmpbfjhaaaGreatDoor.Facts Go.Proofs.YtkfjjmmpbfjhaaaGreatDoor.PScriptActs Go.Proofs.YtkfjjmmpbfjhaaaGreatDoorW.PrintWords Go.Proofs.YtkfjjmmpbfjhaaaGreatDoorW.PrintLast Go.Proofs.YtkfjjmmpbfjhaaaGreatDoorW.PrintMore
attribute [local go_sem] max2_int min2_int max_two min_two max_three min_three max_four min_four
set_option linter.unusedVariables false
set_option linter.unusedSimpArgs false
def aheadL : List UInt8 := [35, 32, 97, 32, 119, 111, 114, 100]
def endL : List UInt8 := [35, 32, 116, 104, 101, 32, 101, 110, 100]
theorem step_hash (l : List UInt8) (h : l.head? = some 35) (hl : l.length ≤ 262144) (st : StP) : stepP l st = (0, st) := by
  unfold stepP
  rw [if_neg (by omega), if_pos (.inr h)]
theorem step_empty (st : StP) : stepP [] st = (0, st) := rfl
theorem parse_moved (t : List UInt8) : parseP (aheadL ++ 10 :: 10 :: t) = ((parseP t).1, if (parseP t).2.1 = 0 then 0 else (parseP t).2.1 + 2, (parseP t).2.2) := by
  unfold parseP
  rw [lines_at aheadL (10 :: t) [] (by decide), show linesOf (10 :: t) [] = [] :: linesOf t [] from by rw [linesOf, if_pos rfl]]
  show (if (stepP aheadL ⟨0, 0, 0, []⟩).1 = 0 then goP ([] :: linesOf t []) 1 (stepP aheadL ⟨0, 0, 0, []⟩).2 else _) = _
  rw [step_hash aheadL rfl (by decide), if_pos rfl]
  show (if (stepP [] ⟨0, 0, 0, []⟩).1 = 0 then goP (linesOf t []) 2 (stepP [] ⟨0, 0, 0, []⟩).2 else _) = _
  rw [step_empty, if_pos rfl]
  exact go_shift 2 (linesOf t []) 0 _
theorem lines_app (u : List UInt8) : ∀ (t acc : List UInt8), linesOf (t ++ 10 :: u) acc = cuts 10 t acc ++ linesOf u []
  | [], acc => by
    show linesOf (10 :: u) acc = _
    rw [linesOf, if_pos rfl]; rfl
  | c :: r, acc => by
    show linesOf (c :: (r ++ 10 :: u)) acc = _
    rw [linesOf, cuts]
    split
    · rw [lines_app u r []]; rfl
    · rw [lines_app u r]
theorem cuts_lines (t : List UInt8) : ∃ ex : List (List UInt8), cuts 10 t [] = linesOf t [] ++ ex ∧ ∀ x ∈ ex, x = [] := by
  rw [lines_cuts]
  split
  · rename_i h
    refine ⟨[[]], ?_, fun x hx => List.mem_singleton.1 hx⟩
    have := List.dropLast_concat_getLast (cuts_ne 10 t [])
    rw [h] at this
    exact this.symm
  · exact ⟨[], (List.append_nil _).symm, fun x hx => by cases hx⟩
theorem parse_ended (t : List UInt8) (h : (parseP t).2.1 = 0) : parseP (t ++ 10 :: endL) = parseP t := by
  obtain ⟨ex, he, hx⟩ := cuts_lines t
  unfold parseP at h ⊢
  rw [lines_app, he, show linesOf endL [] = [endL] from rfl, List.append_assoc]
  refine go_silent (ex ++ [endL]) (fun x hx2 st => ?_) _ _ _ h
  rcases List.mem_append.1 hx2 with h2 | h2
  · rw [hx x h2]; rfl
  · rw [List.mem_singleton.1 h2]; exact step_hash endL rfl (by decide) st
theorem parse_collect : parseP [99, 111, 108, 108, 101, 99, 116] = ((0, 0, []), 1, 240) := by
  have h : codeRoom (wordsOf [99, 111, 108, 108, 101, 99, 116]) = 240 := by decide +kernel
  unfold parseP
  show (if (stepP [99, 111, 108, 108, 101, 99, 116] ⟨0, 0, 0, []⟩).1 = 0 then _ else ((0, 0, []), ((0 : Nat) : Int) + 1, (stepP [99, 111, 108, 108, 101, 99, 116] ⟨0, 0, 0, []⟩).1)) = _
  have h2 : (stepP [99, 111, 108, 108, 101, 99, 116] ⟨0, 0, 0, []⟩).1 = 240 := by
    unfold stepP
    rw [if_neg (by decide), if_neg (by decide), if_neg (by decide), if_pos rfl]
    exact h
  rw [h2, if_neg (by decide)]
  rfl
/-- lines, each with its end -/
def joinN (ls : List (List UInt8)) : List UInt8 := ls.flatMap fun l => l ++ [10]
theorem lines_joinN : ∀ ls : List (List UInt8), (∀ l ∈ ls, ∀ c ∈ l, c ≠ 10) → linesOf (joinN ls) [] = ls
  | [], _ => rfl
  | l :: ls, h => by
    have e : joinN (l :: ls) = l ++ 10 :: joinN ls := by unfold joinN; simp
    rw [e, lines_at l _ [] (h l List.mem_cons_self), lines_joinN ls (fun x hx => h x (List.mem_cons_of_mem _ hx))]
    rfl
theorem lines_free : ∀ (t acc : List UInt8), (∀ c ∈ acc, c ≠ 10) → ∀ l ∈ linesOf t acc, ∀ c ∈ l, c ≠ 10
  | [], acc, h, l, hl => by
    rw [linesOf] at hl
    split at hl
    · cases hl
    · rw [List.mem_singleton.1 hl]; exact h
  | c :: r, acc, h, l, hl => by
    rw [linesOf] at hl
    split at hl
    · rcases List.mem_cons.1 hl with rfl | hl
      · exact h
      · exact lines_free r [] (fun x hx => (by cases hx)) l hl
    · rename_i hc
      refine lines_free r _ (fun x hx => ?_) l hl
      rcases List.mem_append.1 hx with hx | hx
      · exact h x hx
      · rw [List.mem_singleton.1 hx]; exact hc
theorem lines_sum : ∀ (t acc : List UInt8), ((linesOf t acc).map (fun l => l.length + 1)).sum ≤ acc.length + t.length + 1
  | [], acc => by
    rw [linesOf]
    split
    · simp
    · simp
  | c :: r, acc => by
    rw [linesOf]
    split
    · have := lines_sum r []
      rw [List.map_cons, List.sum_cons]
      simp only [List.length_nil, List.length_cons] at this ⊢
      omega
    · have := lines_sum r (acc ++ [c])
      simp only [List.length_append, List.length_cons, List.length_nil] at this ⊢
      omega
theorem len_le_sum : ∀ ls : List (List UInt8), ls.length ≤ (ls.map (fun l => l.length + 1)).sum
  | [] => Nat.le_refl _
  | l :: ls => by have := len_le_sum ls; rw [List.map_cons, List.sum_cons, List.length_cons]; omega
theorem joinN_len : ∀ ls : List (List UInt8), (joinN ls).length = (ls.map (fun l => l.length + 1)).sum
  | [] => rfl
  | l :: ls => by
    have e : joinN (l :: ls) = (l ++ [10]) ++ joinN ls := by unfold joinN; simp
    rw [e, List.length_append, joinN_len ls, List.map_cons, List.sum_cons]
    simp
theorem take_sum (f : List UInt8 → Nat) : ∀ (ls : List (List UInt8)) (n : Nat), ((ls.take n).map f).sum ≤ (ls.map f).sum
  | [], n => by simp
  | l :: ls, 0 => by simp
  | l :: ls, n + 1 => by
    have := take_sum f ls n
    rw [List.take_succ_cons, List.map_cons, List.map_cons, List.sum_cons, List.sum_cons]
    omega
/-- the lines ahead of a line -/
def cutB (s : ByteArray) (n : Nat) : ByteArray := ⟨(joinN ((linesOf (bl s) []).take n)).toArray⟩
theorem cutB_bl (s : ByteArray) (n : Nat) : bl (cutB s n) = joinN ((linesOf (bl s) []).take n) := bl_mk _
theorem cutB_size (s : ByteArray) (n : Nat) : (cutB s n).size ≤ s.size + 1 := by
  have h1 := joinN_len ((linesOf (bl s) []).take n)
  have h2 := take_sum (fun l => l.length + 1) (linesOf (bl s) []) n
  have h3 := lines_sum (bl s) []
  have h4 := bl_len s
  show (joinN ((linesOf (bl s) []).take n)).toArray.size ≤ _
  simp only [List.size_toArray, List.length_nil] at h3 ⊢
  omega
/-- bounds of what a text is read as -/
theorem parse_fine (t : List UInt8) : inI (parseP t).1.1 ∧ inI (parseP t).1.2.1 ∧ (∀ a ∈ (parseP t).1.2.2, Aok a) ∧ (parseP t).1.2.2.length ≤ 20000 ∧ ((parseP t).1.2.2.map wtA).sum ≤ t.length + 1 ∧
    (((parseP t).2.1 = 0 ∧ ((parseP t).2.2 = 0 ∨ (parseP t).2.2 = 240)) ∨ (1 ≤ (parseP t).2.1 ∧ (parseP t).2.1 ≤ (t.length : Int) + 1 ∧ 240 ≤ (parseP t).2.2 ∧ (parseP t).2.2 ≤ 246)) := by
  have hz : inI 0 := ⟨by decide, by decide⟩
  obtain ⟨g1, g2, g3, g4, g5, g6⟩ := go_fine (linesOf t []) 0 ⟨0, 0, 0, []⟩ 0 ⟨hz, hz, fun a ha => (by cases ha), Nat.le_refl _, Nat.zero_le _, Nat.le_refl _⟩
  have h1 := lines_sum t []
  have h2 := len_le_sum (linesOf t [])
  simp only [List.length_nil] at h1
  refine ⟨g1, g2, g3, g4, ?_, ?_⟩
  · show ((goP (linesOf t []) 0 ⟨0, 0, 0, []⟩).1.2.2.map wtA).sum ≤ _
    omega
  · rcases g6 with g6 | ⟨k1, k2, k3, k4⟩
    · exact .inl g6
    · refine .inr ⟨?_, ?_, k3, k4⟩
      · show (1 : Int) ≤ (goP (linesOf t []) 0 ⟨0, 0, 0, []⟩).2.1; omega
      · show (goP (linesOf t []) 0 ⟨0, 0, 0, []⟩).2.1 ≤ _; omega
theorem parse_cut (s : ByteArray) (n : Nat) (h : (parseP (bl s)).2.1 = (n : Int) + 1) : (parseP (bl (cutB s n))).2.1 = 0 := by
  unfold parseP at h ⊢
  rw [cutB_bl, lines_joinN _ (fun l hl => lines_free (bl s) [] (fun x hx => (by cases hx)) l (List.mem_of_mem_take hl))]
  exact go_cut (linesOf (bl s) []) 0 ⟨0, 0, 0, []⟩ n (by rw [h]; omega)
theorem cutB_next (s x : ByteArray) (i : Nat) (h : (linesOf (bl s) [])[i]? = some (bl x)) : (cutB s i ++ x) ++ { data := #[10] } = cutB s (i + 1) := by
  have e : joinN ((linesOf (bl s) []).take (i + 1)) = joinN ((linesOf (bl s) []).take i) ++ (bl x ++ [10]) := by
    rw [List.take_add_one, h]
    unfold joinN
    simp
  apply ByteArray.ext
  rw [ByteArray.data_append, ByteArray.data_append]
  apply Array.toList_inj.1
  show _ = (joinN ((linesOf (bl s) []).take (i + 1))).toArray.toList
  rw [e]
  show ((joinN ((linesOf (bl s) []).take i)).toArray ++ x.data ++ #[10]).toList = _
  simp [bl]
set_option maxHeartbeats 4000000 in
set_option maxRecDepth 100000 in
theorem cut_calls (s : ByteArray) (hs : s.size ≤ 1048576) (n : Nat) (hn : n ≤ 1048577) (w : World) : Calls Tryz.prog 25 #[.string s, .int .i64 ((n : Int) + 1)] w fun e w' => e = .returned (.string (cutB s (min n (linesOf (bl s) []).length))) ∧ Below w.heap.size w w' := by
  go_enter Tryz.func25, Tryz.ntmps25
  go_wp2_with fail
  refine (lines_calls s hs _).mono ?_
  rintro e w1 ⟨v5, D, rfl, hD, hDl, hDn, hb1⟩
  have hDe : D = (linesOf (bl s) []).map mkB := of_bl hDl
  obtain ⟨A5, c5, rfl, hc5, hC5⟩ := Kd.R_reads hD
  have HD := Aside0.mk (And.intro hDe (And.intro hC5 hb1))
  have HDL : Aside0 (D.length = (linesOf (bl s) []).length) := ⟨by rw [hDe, List.length_map]⟩
  have HSZ : Aside0 (∀ i, (cutB s i).size ≤ 1048577) := ⟨fun i => by have := cutB_size s i; omega⟩
  clear hD hDl hDe hb1 hC5
  have hw17 : wrap64 ((n : Int) + 1 - 1) = (n : Int) := by unfold wrap64; omega
  go_wp2_with fail
  go_loopw [6, 7] (fun v6 v7 wr => ∃ i : Nat, v6 = .string (cutB s i) ∧ v7 = .int .i64 (i : Int) ∧ i ≤ D.length ∧ i ≤ n ∧ wr = w1) (fun _ i _ => D.length - (intOf i).toNat)
  case atStart => exact ⟨0, rfl, rfl, Nat.zero_le _, Nat.zero_le _, rfl⟩
  case round =>
    obtain ⟨i, rfl, rfl, hi, hin, rfl⟩ := hrel
    have hw8 : wrap64 ((i : Int) + 1) = (i : Int) + 1 := wrap_next i (by omega)
    by_cases hlt : i < D.length
    · have b1 : decide ((i : Int) < (D.length : Int)) = true := decide_eq_true (by omega)
      have p0 : (0 : Int) ≤ (i : Int) := by omega
      have p1 : (i : Int) < (D.length : Int) := by omega
      by_cases hltn : i < n
      · have b2 : decide ((i : Int) < (n : Int)) = true := decide_eq_true (by omega)
        obtain ⟨ad, rfl, hcell⟩ := Kd.at_string HD.out.2.1 (i : Int) p0 p1
        rw [Int.toNat_natCast] at hcell
        obtain ⟨x, hx⟩ : ∃ x, D[i]? = some x := ⟨_, List.getElem?_eq_getElem hlt⟩
        have hrd : rdOf ByteArray.empty D (i : Int) = x := by unfold rdOf; rw [Int.toNat_natCast, List.getD_eq_getElem?_getD, hx]; rfl
        rw [hrd] at hcell
        have hx2 : (linesOf (bl s) [])[i]? = some (bl x) := by
          rw [HD.out.1, List.getElem?_map] at hx
          cases hq : (linesOf (bl s) [])[i]? with
          | none => rw [hq] at hx; cases hx
          | some l => rw [hq] at hx; injection hx with hx; rw [← hx, bl_mk]
        have HNX : Aside0 ((cutB s i ++ x) ++ { data := #[10] } = cutB s (i + 1)) := ⟨cutB_next s x i hx2⟩
        have HMS : Aside0 (D.length - (intOf (Value.int IntKind.i64 ((i : Int) + 1))).toNat < D.length - (intOf (Value.int IntKind.i64 (i : Int))).toNat) := ⟨meas_step _ _ hlt⟩
        have hz1 : (cutB s i).size + x.size ≤ 1048577 := by
          have h1 := HSZ.out (i + 1)
          rw [← HNX.out] at h1
          simp only [ByteArray.size_append] at h1
          omega
        have HI1 : Aside0 (i + 1 ≤ D.length ∧ i + 1 ≤ n) := ⟨hlt, hltn⟩
        clear hx hrd hx2
        go_wp2_with fail
        go_roundw
        case rel => exact ⟨i + 1, by rw [HNX.out], rfl, HI1.out.1, HI1.out.2, by trivial⟩
        case measure => exact HMS.out
      · have b2 : decide ((i : Int) < (n : Int)) = false := decide_eq_false (by omega)
        have HMIN : Aside0 (min n (linesOf (bl s) []).length = i) := ⟨by have := HDL.out; omega⟩
        go_wp2_with fail
        go_ret
        exact ⟨by rw [HMIN.out]; rfl, HD.out.2.2⟩
    · have b1 : decide ((i : Int) < (D.length : Int)) = false := decide_eq_false (by omega)
      have HMIN : Aside0 (min n (linesOf (bl s) []).length = i) := ⟨by have := HDL.out; omega⟩
      go_wp2_with fail
      go_ret
      exact ⟨by rw [HMIN.out]; rfl, HD.out.2.2⟩
end Go.Proofs.YtkfjjmmpbfjhaaaGreatDoor.Tells
namespace Go.Proofs.YtkfjjmmpbfjhaaaGreatDoor.Tells
open Go.RowKit Go.Extern.Stop Go.Stop Go.Extern
theorem Tryz.valueOf27 (t : Addr) (w : World) : (ReflectliteValue.unpack (.iface 88 (.pointer (some t)))).run Tryz.prog w
    = .ok (.agg #[.pointer (some ⟨16, 88, none⟩), .pointer (some ⟨w.heap.size, 0, none⟩), .int .u64 150]) (w.alloc (.cells #[.pointer (some t)] 88)) := by kernel_rfl
theorem Tryz.type27 (a : Addr) (w : World) : (ReflectliteValue.methodAny (ReflectliteValue.valueError "reflectlite.Value.Type" 0) (fun t _ _ _ => ReflectliteType.toType t) #[.agg #[.pointer (some ⟨16, 88, none⟩), .pointer (some a), .int .u64 150]]).run Tryz.prog w
    = .ok (.iface 127 (.agg #[.pointer (some ⟨16, 88, none⟩)])) w := by kernel_rfl
theorem Tryz.methodKind (h : Value) (w : World) : (Go.method 333 127 (.agg #[h]) "Kind").run Tryz.prog w = .ok (165, h) w := by kernel_rfl
theorem Tryz.kind27 (w : World) : ((ReflectliteType.abiMethod fun t => (fun a : Nat => Value.int IntKind.u8 (a : Int)) <$> Rtype.kind t) #[.pointer (some ⟨16, 88, none⟩)]).run Tryz.prog w = .ok (.int .u8 22) w := by kernel_rfl
theorem Tryz.kind25 (w : World) : ((ReflectliteType.abiMethod fun t => (fun a : Nat => Value.int IntKind.u8 (a : Int)) <$> Rtype.kind t) #[.pointer (some ⟨16, 55, none⟩)]).run Tryz.prog w = .ok (.int .u8 22) w := by kernel_rfl

/-! ### THE ENTRIES THAT READ OR WRITE MEMORY: laws with a premise on the cell (after Derived/Lib/ReflectliteSlice.lean's manner: each unfolding a lemma of its own, by rfl) -/
theorem rlm (z : Sem Value) (f : TypeId → Addr → Nat → Nat → Sem Value) (v : Value) :
    ReflectliteValue.method z f #[v] = (do match ← ReflectliteValue.parts v with | none => z | some (t, a, fl) => f t a fl (fl % 32)) := rfl
theorem Tryz.parts27 (a : Addr) (w : World) : (ReflectliteValue.parts (.agg #[.pointer (some ⟨16, 88, none⟩), .pointer (some a), .int .u64 150])).run Tryz.prog w = .ok (some (88, a, 150)) w := by kernel_rfl
/-- (Value).IsNil at the Value of a **p.E that is not nil. -/
theorem Tryz.isNil27 (a p : Addr) (W : World) (ha : W.cell? a = some (.pointer (some p))) :
    (ReflectliteValue.method (ReflectliteValue.valueError "reflectlite.Value.IsNil" 0) ReflectliteValue.isNil #[.agg #[.pointer (some ⟨16, 88, none⟩), .pointer (some a), .int .u64 150]]).run Tryz.prog W = .ok (.bool false) W := by
  rw [rlm]
  simp only [Sem.run_bind, Tryz.parts27, Result.andThen]
  simp [ReflectliteValue.isNil, loadVar, isAgg, underlying, Tryz.underlying88, ha, Result.andThen]

theorem Tryz.methodElem (h : Value) (w : World) : (Go.method 333 127 (.agg #[h]) "Elem").run Tryz.prog w = .ok (175, .agg #[h]) w := by kernel_rfl
theorem Tryz.methodImplements (h : Value) (w : World) : (Go.method 333 127 (.agg #[h]) "Implements").run Tryz.prog w = .ok (176, .agg #[h]) w := by kernel_rfl
theorem Tryz.methodAssignableTo (h : Value) (w : World) : (Go.method 333 127 (.agg #[h]) "AssignableTo").run Tryz.prog w = .ok (173, .agg #[h]) w := by kernel_rfl
theorem Tryz.elem27 (w : World) : (ReflectliteType.method ReflectliteType.elem #[.agg #[.pointer (some ⟨16, 88, none⟩)]]).run Tryz.prog w = .ok (.iface 127 (.agg #[.pointer (some ⟨16, 55, none⟩)])) w := by kernel_rfl
theorem Tryz.implements25 (w : World) : (ReflectliteType.relation "Implements" ReflectliteType.implements_ #[.agg #[.pointer (some ⟨16, 55, none⟩)], .iface 127 (.agg #[.pointer (some ⟨16, 45, none⟩)])]).run Tryz.prog w = .ok (.bool true) w := by kernel_rfl
theorem Tryz.typeOf25 (v : Value) (w : World) : (ReflectliteType.typeOf #[.iface 55 v]).run Tryz.prog w = .ok (.iface 127 (.agg #[.pointer (some ⟨16, 55, none⟩)])) w := by kernel_rfl
theorem Tryz.assignable25 (w : World) : (ReflectliteType.relation "AssignableTo" ReflectliteType.assignableTo #[.agg #[.pointer (some ⟨16, 55, none⟩)], .iface 127 (.agg #[.pointer (some ⟨16, 55, none⟩)])]).run Tryz.prog w = .ok (.bool true) w := by kernel_rfl
theorem Tryz.valueOf25 (e : Addr) (w : World) : (ReflectliteValue.unpack (.iface 55 (.pointer (some e)))).run Tryz.prog w
    = .ok (.agg #[.pointer (some ⟨16, 55, none⟩), .pointer (some ⟨w.heap.size, 0, none⟩), .int .u64 150]) (w.alloc (.cells #[.pointer (some e)] 55)) := by kernel_rfl

theorem Tryz.elemOf88 (w : World) : (Rtype.elem? 88).run Tryz.prog w = .ok (some 55) w := by kernel_rfl
theorem Tryz.mk25 (p : Addr) (w : World) : (ReflectliteValue.mk 55 p ReflectliteValue.flagAddr).run Tryz.prog w = .ok (.agg #[.pointer (some ⟨16, 55, none⟩), .pointer (some p), .int .u64 406]) w := by kernel_rfl
/-- (Value).Elem at the Value of a **p.E that is not nil: the Value of the *p.E variable that it points to, addressable. -/
theorem Tryz.elemV27 (a p : Addr) (W : World) (ha : W.cell? a = some (.pointer (some p))) :
    (ReflectliteValue.method (ReflectliteValue.valueError "reflectlite.Value.Elem" 0) ReflectliteValue.elem #[.agg #[.pointer (some ⟨16, 88, none⟩), .pointer (some a), .int .u64 150]]).run Tryz.prog W
      = .ok (.agg #[.pointer (some ⟨16, 55, none⟩), .pointer (some p), .int .u64 406]) W := by
  rw [rlm]
  simp only [Sem.run_bind, Tryz.parts27, Result.andThen]
  simp [ReflectliteValue.elem, loadVar, isAgg, underlying, Tryz.underlying88, ha, Result.andThen, Tryz.elemOf88, Tryz.mk25]
theorem rls (v x : Value) : ReflectliteValue.set #[v, x] = (do
    let (some (dst, a, fl), some (src, b, _)) := (← ReflectliteValue.parts v, ← ReflectliteValue.parts x)
      | unsupported (.noEntry "extern/(internal/reflectlite.Value).Set.zeroValue")
    if fl / ReflectliteValue.flagAddr % 2 == 0 then unsupported (.noEntry "extern/(internal/reflectlite.Value).Set.unaddressable")
    let val ← loadVar src b
    if ← Rtype.directlyAssignable dst src then storeVar dst a val
    else if ← Rtype.implements dst src then
      if (← Rtype.kind src) == 20 then
        match val with
        | .nilIface => unsupported (.noEntry "extern/reflectlite: a nil value of one interface type handed on as a value of another")
        | _ => storeVar dst a val
      else storeVar dst a (.iface src val)
    else panicString ("reflectlite.Set: value of type " ++ (← Rtype.spelt src) ++ " is not assignable to type " ++ (← Rtype.spelt dst))
    pure (.tuple #[])) := rfl
theorem Tryz.parts25a (a : Addr) (w : World) : (ReflectliteValue.parts (.agg #[.pointer (some ⟨16, 55, none⟩), .pointer (some a), .int .u64 406])).run Tryz.prog w = .ok (some (55, a, 406)) w := by kernel_rfl
theorem Tryz.parts25 (a : Addr) (w : World) : (ReflectliteValue.parts (.agg #[.pointer (some ⟨16, 55, none⟩), .pointer (some a), .int .u64 150])).run Tryz.prog w = .ok (some (55, a, 150)) w := by kernel_rfl
theorem Tryz.direct25 (w : World) : (Rtype.directlyAssignable 55 55).run Tryz.prog w = .ok true w := by kernel_rfl
/-- (Value).Set: the *p.E variable at 'ta' gets what the Value's own variable 'b' holds. -/
theorem Tryz.set25 (ta b e : Addr) (old : Value) (W : World) (hb : W.cell? b = some (.pointer (some e))) (ht : W.cell? ta = some old) (hf : W.frozen? ta = false) :
    (ReflectliteValue.set #[.agg #[.pointer (some ⟨16, 55, none⟩), .pointer (some ta), .int .u64 406], .agg #[.pointer (some ⟨16, 55, none⟩), .pointer (some b), .int .u64 150]]).run Tryz.prog W
      = .ok (.tuple #[]) (W.setCell ta (.pointer (some e))) := by
  rw [rls]
  simp only [Sem.run_bind, Tryz.parts25a, Tryz.parts25, Result.andThen]
  simp [ReflectliteValue.flagAddr, loadVar, isAgg, underlying, Tryz.underlying55, hb, Result.andThen, Tryz.direct25, storeVar, Value.cells, storeCells, Addr.add]
  rw [run_store Tryz.prog W ta _ _ (by rfl)]
  simp [ht, hf]

set_option maxHeartbeats 4000000 in
set_option maxRecDepth 100000 in
theorem as_hit (e t : Addr) (old : Value) (w : World) (hg : w.cell? ⟨1, 0, none⟩ = some (.iface 127 (.agg #[.pointer (some ⟨16, 45, none⟩)]))) (ht0 : w.cell? t = some old) (hf0 : w.frozen? t = false) :
    Calls Tryz.prog 41 #[.iface 55 (.pointer (some e)), .iface 88 (.pointer (some t))] w fun ev w' => ev = .returned (.bool true) ∧ w' = ((((w.alloc (.cells #[.pointer (some t)] 88)).alloc (.cells #[.pointer (some ⟨16, 88, none⟩), .pointer (some ⟨w.heap.size, 0, none⟩), .int .u64 150] 119)).alloc (.cells #[.pointer (some ⟨16, 88, none⟩), .pointer (some ⟨w.heap.size, 0, none⟩), .int .u64 150] 119)).alloc (.cells #[.pointer (some e)] 55)).setCell t (.pointer (some e)) := by
  have h6 := @run_callFunc_extern Tryz.prog 80 _ (fun args => ReflectliteValue.unpack (args.getD 0 (.tuple #[]))) Tryz.func80 (by kernel_rfl) (by kernel_rfl) (by kernel_rfl) (by kernel_rfl)
  have h7 := @run_callFunc_extern Tryz.prog 81 _ (ReflectliteValue.methodAny (ReflectliteValue.valueError "reflectlite.Value.Type" 0) (fun t _ _ _ => ReflectliteType.toType t)) Tryz.func81 (by kernel_rfl) (by kernel_rfl) (by kernel_rfl) (by kernel_rfl)
  have h8 := @run_callFunc_extern Tryz.prog 82 _ (ReflectliteValue.method (ReflectliteValue.valueError "reflectlite.Value.IsNil" 0) ReflectliteValue.isNil) Tryz.func82 (by kernel_rfl) (by kernel_rfl) (by kernel_rfl) (by kernel_rfl)
  have h27 := @run_callFunc_extern Tryz.prog 165 _ (ReflectliteType.abiMethod fun t => do pure (.int .u8 (← Rtype.kind t))) Tryz.func165 (by kernel_rfl) (by kernel_rfl) (by kernel_rfl) (by kernel_rfl)
  have h37 := @run_callFunc_extern Tryz.prog 175 _ (ReflectliteType.method ReflectliteType.elem) Tryz.func175 (by kernel_rfl) (by kernel_rfl) (by kernel_rfl) (by kernel_rfl)
  have h38 := @run_callFunc_extern Tryz.prog 176 _ (ReflectliteType.relation "Implements" ReflectliteType.implements_) Tryz.func176 (by kernel_rfl) (by kernel_rfl) (by kernel_rfl) (by kernel_rfl)
  have h10 := @run_callFunc_extern Tryz.prog 42 _ ReflectliteType.typeOf Tryz.func42 (by kernel_rfl) (by kernel_rfl) (by kernel_rfl) (by kernel_rfl)
  have h35 := @run_callFunc_extern Tryz.prog 173 _ (ReflectliteType.relation "AssignableTo" ReflectliteType.assignableTo) Tryz.func173 (by kernel_rfl) (by kernel_rfl) (by kernel_rfl) (by kernel_rfl)
  have h11 := @run_callFunc_extern Tryz.prog 98 _ (ReflectliteValue.method (ReflectliteValue.valueError "reflectlite.Value.Elem" 0) ReflectliteValue.elem) Tryz.func98 (by kernel_rfl) (by kernel_rfl) (by kernel_rfl) (by kernel_rfl)
  have h12 := @run_callFunc_extern Tryz.prog 99 _ ReflectliteValue.set Tryz.func99 (by kernel_rfl) (by kernel_rfl) (by kernel_rfl) (by kernel_rfl)
  have tO := Tryz.typeOf25
  have mA := Tryz.methodAssignableTo
  have a25 := Tryz.assignable25
  have v25 := Tryz.valueOf25
  have f6 := Tryz.valueOf27
  have f7 := Tryz.type27
  have mK := Tryz.methodKind
  have mE := Tryz.methodElem
  have mI := Tryz.methodImplements
  have k27 := Tryz.kind27
  have k25 := Tryz.kind25
  have e27 := Tryz.elem27
  have i25 := Tryz.implements25
  have n8 := Tryz.isNil27 ⟨w.heap.size, 0, none⟩ t ((w.alloc (.cells #[.pointer (some t)] 88)).alloc (.cells #[.pointer (some ⟨16, 88, none⟩), .pointer (some ⟨w.heap.size, 0, none⟩), .int .u64 150] 119)) (by simp)
  have hlt : 1 < w.heap.size := by
    rcases Nat.lt_or_ge 1 w.heap.size with h | h
    · exact h
    · simp [World.cell?, Array.getElem?_eq_none h] at hg
  have hg2 : ((w.alloc (.cells #[.pointer (some t)] 88)).alloc (.cells #[.pointer (some ⟨16, 88, none⟩), .pointer (some ⟨w.heap.size, 0, none⟩), .int .u64 150] 119)).cell? ⟨1, 0, none⟩ = some (.iface 127 (.agg #[.pointer (some ⟨16, 45, none⟩)])) := by
    rw [World.cell?_alloc_lt _ _ ⟨1, 0, none⟩ (by simp; omega), World.cell?_alloc_lt _ _ ⟨1, 0, none⟩ hlt]; exact hg
  have htl : t.block < w.heap.size := by
    rcases Nat.lt_or_ge t.block w.heap.size with h | h
    · exact h
    · simp [World.cell?, Array.getElem?_eq_none h] at ht0
  have el := Tryz.elemV27 ⟨w.heap.size, 0, none⟩ t (((w.alloc (.cells #[.pointer (some t)] 88)).alloc (.cells #[.pointer (some ⟨16, 88, none⟩), .pointer (some ⟨w.heap.size, 0, none⟩), .int .u64 150] 119)).alloc (.cells #[.pointer (some ⟨16, 88, none⟩), .pointer (some ⟨w.heap.size, 0, none⟩), .int .u64 150] 119)) (by rw [World.cell?_alloc_lt _ _ ⟨w.heap.size, 0, none⟩ (by simp; omega)]; simp)
  have st := Tryz.set25 t ⟨w.heap.size + 1 + 1 + 1, 0, none⟩ e old ((((w.alloc (.cells #[.pointer (some t)] 88)).alloc (.cells #[.pointer (some ⟨16, 88, none⟩), .pointer (some ⟨w.heap.size, 0, none⟩), .int .u64 150] 119)).alloc (.cells #[.pointer (some ⟨16, 88, none⟩), .pointer (some ⟨w.heap.size, 0, none⟩), .int .u64 150] 119)).alloc (.cells #[.pointer (some e)] 55))
    (by rw [World.cell?_alloc_at _ _ _ _ (by simp)]; rfl)
    (by rw [World.cell?_alloc_lt _ _ t (by simp; omega), World.cell?_alloc_lt _ _ t (by simp; omega), World.cell?_alloc_lt _ _ t (by simp; omega), World.cell?_alloc_lt _ _ t htl]; exact ht0)
    (by rw [World.frozen?_alloc_old _ _ t (by simp; omega), World.frozen?_alloc_old _ _ t (by simp; omega), World.frozen?_alloc_old _ _ t (by simp; omega), World.frozen?_alloc_old _ _ t (Nat.ne_of_lt htl)]; exact hf0)
  go_enter Tryz.func41, Tryz.ntmps41
  go_wp2
  refine wp_loop_rounds 1 ?_
  rw [rounds_succ]
  go_wp2
  go_ret
  exact ⟨rfl, rfl⟩
end Go.Proofs.YtkfjjmmpbfjhaaaGreatDoor.Tells
