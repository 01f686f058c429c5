/- The reference's reader of an act's words in plain words (kilnref24.read, kind). Conditions: those that each theorem states. -/
import Derived.Test.YtkfjjmmpbfjhaaaGreatDoorScrV2
import Derived.Test.YtkfjjmmpbfjhaaaGreatDoorScrPE
namespace Go.Proofs.YtkfjjmmpbfjhaaaGreatDoor.Tells
open Go.RowKit Go.Proofs.YtkfjjmmpbfjhaaaGreatDoor.PScriptActs Go.Proofs.YtkfjjmmpbfjhaaaGreatDoorW.PrintWords
set_option linter.unusedVariables false
set_option linter.unusedSimpArgs false
/-- what a word's place asks of it -/
def okC (c : Int) (w : ByteArray) : Bool := if c = 35 ∨ c = 102 then (numW (bl w)).isSome else (unwS (bl w)).isSome
/-- where it is laid -/
def putC (c : Int) (w : ByteArray) (a : S31) : S31 :=
  if c = 110 then ⟨a.f0, unwT (bl w), a.f2, a.f3, a.f4, a.f5, a.f6⟩
  else if c = 111 then ⟨a.f0, a.f1, unwT (bl w), a.f3, a.f4, a.f5, a.f6⟩
  else if c = 116 then ⟨a.f0, a.f1, a.f2, a.f3, unwT (bl w), a.f5, a.f6⟩
  else if c = 42 then ⟨a.f0, a.f1, a.f2, a.f3 ++ [unwT (bl w)], a.f4, a.f5, a.f6⟩
  else if c = 35 then ⟨a.f0, a.f1, a.f2, a.f3, a.f4, numN (bl w), a.f6⟩
  else if c = 102 then ⟨a.f0, a.f1, a.f2, a.f3, a.f4, a.f5, numN (bl w)⟩
  else a
theorem putC_len (c : Int) (w : ByteArray) (a : S31) : (putC c w a).f3.length ≤ a.f3.length + 1 := by
  unfold putC
  repeat' split
  all_goals simp
theorem act_of (f0 : Int) (f1 f2 : ByteArray) (f3 : List ByteArray) (f4 : ByteArray) (f5 f6 c : Int) : ∃ r : S31, (some (f0, f1, f2, f3, f4, f5, f6, c) : Option (Int × ByteArray × ByteArray × List ByteArray × ByteArray × Int × Int × Int)) = some (r.f0, r.f1, r.f2, r.f3, r.f4, r.f5, r.f6, c) := ⟨⟨f0, f1, f2, f3, f4, f5, f6⟩, rfl⟩
theorem read_step (k : Nat) (l : List ByteArray) (sh : ByteArray) (n : Int) (i : Nat) (c : Int) (a : S31) (w X : ByteArray) (v : Int) (b : Bool) (hi : i < l.length) (hw : rdOf ByteArray.empty l (i : Int) = w)
    (hU : kilnref24_Unwritten.f k w = some (X, (unwS (bl w)).isSome)) (hX : (unwS (bl w)).isSome = true → X = unwT (bl w)) (hN : kilnref24_number.f k w = some (v, b)) (hb : b = (numW (bl w)).isSome) (hv : ∀ x, numW (bl w) = some x → v = x) (hl : a.f3.length < 8796093022208) :
    (okC c w = true → kilnref24_read.j4 (k + 1) l sh n (i : Int) c a.f0 a.f1 a.f2 a.f3 a.f4 a.f5 a.f6 = kilnref24_read.l0 k l sh n (wrap64 ((i : Int) + 1)) (putC c w a).f0 (putC c w a).f1 (putC c w a).f2 (putC c w a).f3 (putC c w a).f4 (putC c w a).f5 (putC c w a).f6) ∧
    (okC c w = false → ∃ r : S31, kilnref24_read.j4 (k + 1) l sh n (i : Int) c a.f0 a.f1 a.f2 a.f3 a.f4 a.f5 a.f6 = some (r.f0, r.f1, r.f2, r.f3, r.f4, r.f5, r.f6, 244)) := by
  have hvn : (numW (bl w)).isSome = true → v = numN (bl w) := by
    intro h
    cases hn : numW (bl w) with
    | none => rw [hn] at h; cases h
    | some x => rw [hv x hn, numN_of hn]
  rw [kilnref24_read.j4, if_pos (show (0 : Int) ≤ (i : Int) by omega), if_pos (show (i : Int) < (l.length : Int) by omega), hw, hU, Option.bind_some, hN, Option.bind_some]
  have h42 : ((some (a.f3 ++ [X] : List ByteArray)).bind fun y257 => (if (unwS (bl w)).isSome = true then (kilnref24_read.l0 k l sh n (wrap64 ((i : Int) + 1)) a.f0 a.f1 a.f2 y257 a.f4 a.f5 a.f6) else (some (a.f0, a.f1, a.f2, y257, a.f4, a.f5, a.f6, 244)))) = (if (unwS (bl w)).isSome = true then (kilnref24_read.l0 k l sh n (wrap64 ((i : Int) + 1)) a.f0 a.f1 a.f2 (a.f3 ++ [X]) a.f4 a.f5 a.f6) else (some (a.f0, a.f1, a.f2, a.f3 ++ [X], a.f4, a.f5, a.f6, 244))) := rfl
  subst hb
  constructor
  · intro hok
    unfold okC at hok
    unfold putC
    by_cases c1 : c = 110
    · subst c1
      rw [if_neg (by decide)] at hok
      simp only [if_true, hok, hX hok]
    by_cases c2 : c = 111
    · subst c2
      rw [if_neg (by decide)] at hok
      simp only [if_true, hok, hX hok, show ¬ ((111 : Int) = 110) by decide, if_false]
    by_cases c3 : c = 116
    · subst c3
      rw [if_neg (by decide)] at hok
      simp only [if_true, hok, hX hok, show ¬ ((116 : Int) = 110) by decide, show ¬ ((116 : Int) = 111) by decide, if_false]
    by_cases c4 : c = 42
    · subst c4
      rw [if_neg (by decide)] at hok
      rw [h42]
      simp only [if_true, hok, hX hok, hl, show ¬ ((42 : Int) = 110) by decide, show ¬ ((42 : Int) = 111) by decide, show ¬ ((42 : Int) = 116) by decide, if_false]
    by_cases c5 : c = 35
    · subst c5
      rw [if_pos (by decide)] at hok
      simp only [if_true, hok, hvn hok, show ¬ ((35 : Int) = 110) by decide, show ¬ ((35 : Int) = 111) by decide, show ¬ ((35 : Int) = 116) by decide, show ¬ ((35 : Int) = 42) by decide, if_false]
    by_cases c6 : c = 102
    · subst c6
      rw [if_pos (by decide)] at hok
      simp only [if_true, hok, hvn hok, show ¬ ((102 : Int) = 110) by decide, show ¬ ((102 : Int) = 111) by decide, show ¬ ((102 : Int) = 116) by decide, show ¬ ((102 : Int) = 42) by decide, show ¬ ((102 : Int) = 35) by decide, if_false]
    rw [if_neg (by rintro (h | h); exact c5 h; exact c6 h)] at hok
    simp only [c1, c2, c3, c4, c5, c6, if_false, hok, if_true]
  · intro hok
    unfold okC at hok
    by_cases c1 : c = 110
    · subst c1
      rw [if_neg (by decide)] at hok
      simp only [if_true, hok, if_false, Bool.false_eq_true]
      exact act_of _ _ _ _ _ _ _ _
    by_cases c2 : c = 111
    · subst c2
      rw [if_neg (by decide)] at hok
      simp only [if_true, hok, show ¬ ((111 : Int) = 110) by decide, if_false, Bool.false_eq_true]
      exact act_of _ _ _ _ _ _ _ _
    by_cases c3 : c = 116
    · subst c3
      rw [if_neg (by decide)] at hok
      simp only [if_true, hok, show ¬ ((116 : Int) = 110) by decide, show ¬ ((116 : Int) = 111) by decide, if_false, Bool.false_eq_true]
      exact act_of _ _ _ _ _ _ _ _
    by_cases c4 : c = 42
    · subst c4
      rw [if_neg (by decide)] at hok
      rw [h42]
      simp only [if_true, hok, hl, show ¬ ((42 : Int) = 110) by decide, show ¬ ((42 : Int) = 111) by decide, show ¬ ((42 : Int) = 116) by decide, if_false, Bool.false_eq_true]
      exact act_of _ _ _ _ _ _ _ _
    by_cases c5 : c = 35
    · subst c5
      rw [if_pos (by decide)] at hok
      simp only [if_true, hok, show ¬ ((35 : Int) = 110) by decide, show ¬ ((35 : Int) = 111) by decide, show ¬ ((35 : Int) = 116) by decide, show ¬ ((35 : Int) = 42) by decide, if_false, Bool.false_eq_true]
      exact act_of _ _ _ _ _ _ _ _
    by_cases c6 : c = 102
    · subst c6
      rw [if_pos (by decide)] at hok
      simp only [if_true, hok, show ¬ ((102 : Int) = 110) by decide, show ¬ ((102 : Int) = 111) by decide, show ¬ ((102 : Int) = 116) by decide, show ¬ ((102 : Int) = 42) by decide, show ¬ ((102 : Int) = 35) by decide, if_false, Bool.false_eq_true]
      exact act_of _ _ _ _ _ _ _ _
    rw [if_neg (by rintro (h | h); exact c5 h; exact c6 h)] at hok
    simp only [c1, c2, c3, c4, c5, c6, if_false, hok, if_true, Bool.false_eq_true]
    exact act_of _ _ _ _ _ _ _ _
/-- the place of the word i -/
def chC (sh : ByteArray) (n i : Nat) : Int := if i < n then bt sh (i : Int) else 42
def okR (sh : ByteArray) (n : Nat) : Nat → List ByteArray → Bool
  | _, [] => true
  | i, w :: ws => okC (chC sh n i) w && okR sh n (i + 1) ws
def putR (sh : ByteArray) (n : Nat) : Nat → List ByteArray → S31 → S31
  | _, [], a => a
  | i, w :: ws, a => putR sh n (i + 1) ws (putC (chC sh n i) w a)
theorem read_loop (sh : ByteArray) (n : Nat) (hn : n ≤ sh.size) (l : List ByteArray) (hw : ∀ w ∈ l, w.size ≤ 262144) (hl : l.length ≤ 1048576) : ∀ m i (a : S31), m + i = l.length → a.f3.length ≤ i →
    ∃ K, ∃ r : S31, ∃ c : Int, kilnref24_read.l0 K l sh (n : Int) (i : Int) a.f0 a.f1 a.f2 a.f3 a.f4 a.f5 a.f6 = some (r.f0, r.f1, r.f2, r.f3, r.f4, r.f5, r.f6, c) ∧ c = (if okR sh n i (l.drop i) = true then 0 else 244) ∧ (c = 0 → r = putR sh n i (l.drop i) a) := by
  intro m
  induction m with
  | zero =>
    intro i a hi ha
    have hd : l.drop i = [] := List.drop_eq_nil_of_le (by omega)
    refine ⟨1, a, 0, ?_, ?_, fun _ => ?_⟩
    · rw [kilnref24_read.l0, if_neg (show ¬ ((i : Int) < (l.length : Int)) by omega)]
    · rw [hd]; rfl
    · rw [hd]; rfl
  | succ m ih =>
    intro i a hi ha
    have hil : i < l.length := by omega
    obtain ⟨w, hwi⟩ : ∃ w, l[i]? = some w := ⟨l[i]'hil, List.getElem?_eq_getElem hil⟩
    have hd : l.drop i = w :: l.drop (i + 1) := by
      rw [List.drop_eq_getElem_cons hil]
      congr 1
      rw [List.getElem?_eq_getElem hil] at hwi
      injection hwi
    have hr : rdOf ByteArray.empty l (i : Int) = w := by
      unfold rdOf
      rw [List.getD_eq_getElem?_getD, show ((i : Int)).toNat = i by omega, hwi]; rfl
    have hws := hw w (List.mem_of_getElem? hwi)
    obtain ⟨X, hU, hX⟩ := unwritten_f w hws
    obtain ⟨v, b, hN, hb, hv⟩ := number_f w (by omega)
    have hwi1 : wrap64 ((i : Int) + 1) = ((i + 1 : Nat) : Int) := by rw [wrap_in _ (by omega) (by omega)]; omega
    have hl0 : ∀ k, kilnref24_read.l0 (k + 1) l sh (n : Int) (i : Int) a.f0 a.f1 a.f2 a.f3 a.f4 a.f5 a.f6 = kilnref24_read.j4 k l sh (n : Int) (i : Int) (chC sh n i) a.f0 a.f1 a.f2 a.f3 a.f4 a.f5 a.f6 := by
      intro k
      rw [kilnref24_read.l0, if_pos (show (i : Int) < (l.length : Int) by omega)]
      unfold chC
      by_cases hin : i < n
      · rw [if_pos (show (i : Int) < (n : Int) by omega), if_pos (show (0 : Int) ≤ (i : Int) by omega), if_pos (show (i : Int) < (sh.size : Int) by omega), if_pos hin]
      · rw [if_neg (show ¬ ((i : Int) < (n : Int)) by omega), if_neg hin]
    have hdR : okR sh n i (l.drop i) = (okC (chC sh n i) w && okR sh n (i + 1) (l.drop (i + 1))) := by rw [hd]; rfl
    have hpR : putR sh n i (l.drop i) a = putR sh n (i + 1) (l.drop (i + 1)) (putC (chC sh n i) w a) := by rw [hd]; rfl
    cases hok : okC (chC sh n i) w with
    | true =>
      obtain ⟨K, r, c, e1, e2, e3⟩ := ih (i + 1) (putC (chC sh n i) w a) (by omega) (by have := putC_len (chC sh n i) w a; omega)
      have hs := (read_step (max K (2 * w.size + 50)) l sh (n : Int) i (chC sh n i) a w X v b hil hr (at_rounds (fun k => kilnref24_Unwritten.mono _ k) (by omega) hU) hX (at_rounds (fun k => kilnref24_number.mono _ k) (by omega) hN) hb hv (by omega)).1 hok
      refine ⟨max K (2 * w.size + 50) + 1 + 1, r, c, ?_, ?_, ?_⟩
      · rw [hl0, hs, hwi1]
        exact at_rounds (fun k => (kilnref24_read.mono_l k).2.2.2.1 _ _ _ _ _ _ _ _ _ _ _) (by omega) e1
      · rw [hdR, hok, Bool.true_and]; exact e2
      · rw [hpR]; exact e3
    | false =>
      obtain ⟨r, hs⟩ := (read_step (2 * w.size + 50) l sh (n : Int) i (chC sh n i) a w X v b hil hr hU hX (at_rounds (fun k => kilnref24_number.mono _ k) (by omega) hN) hb hv (by omega)).2 hok
      refine ⟨2 * w.size + 50 + 1 + 1, r, 244, ?_, ?_, fun h => (by cases h)⟩
      · rw [hl0, hs]
      · rw [hdR, hok]; rfl
def shapeL : List ByteArray := (kilnref24_shapes.f).getD []
def shR (k : Nat) : ByteArray := rdOf ByteArray.empty shapeL (k : Int)
def starR (k : Nat) : Bool := decide (0 < (shR k).size) && (bt (shR k) (((shR k).size : Int) - 1) == 42)
def nR (k : Nat) : Nat := if starR k = true then (shR k).size - 1 else (shR k).size
/-- what the reader answers of an act's words -/
def codeR (k : Nat) (ws : List ByteArray) : Int :=
  if ws.length < nR k ∨ (starR k = false ∧ nR k < ws.length) then 243 else if okR (shR k) (nR k) 0 ws = true then 0 else 244
def actR (k : Nat) (ws : List ByteArray) : S31 := putR (shR k) (nR k) 0 ws (act0 k)
theorem shapes_small : ∀ k : Fin 13, (shR k.val).size ≤ 3 := by decide +kernel
theorem read_f (k : Nat) (hk : k < 13) (l : List ByteArray) (hw : ∀ w ∈ l, w.size ≤ 262144) (hl : l.length ≤ 1048576) :
    ∃ K, ∃ r : S31, kilnref24_read.f K (k : Int) l = some (r.f0, r.f1, r.f2, r.f3, r.f4, r.f5, r.f6, codeR k l) ∧ (codeR k l = 0 → r = actR k l) := by
  have hs3 : (shR k).size ≤ 3 := shapes_small ⟨k, hk⟩
  have hsf : kilnref24_shapes.f = some shapeL := rfl
  have hsl : shapeL.length = 13 := rfl
  have hn : nR k ≤ (shR k).size := by unfold nR; split <;> omega
  obtain ⟨K, r, c, e1, e2, e3⟩ := read_loop (shR k) (nR k) hn l hw hl l.length 0 (act0 k) (by omega) (by simp [act0])
  rw [List.drop_zero] at e2 e3
  have hj0 : ∀ K', kilnref24_read.f K' (k : Int) l = kilnref24_read.j0 K' l (shR k) ((shR k).size : Int) (starR k) (act0 k).f0 (act0 k).f1 (act0 k).f2 (act0 k).f4 (act0 k).f5 (act0 k).f6 := by
    intro K'
    unfold kilnref24_read.f
    rw [hsf, Option.bind_some, if_pos (show (0 : Int) ≤ (k : Int) by omega), if_pos (by rw [hsl]; omega)]
    show (if ((shR k).size : Int) > 0 then (if 0 ≤ (wrap64 (((shR k).size : Int) - 1)) then (if (wrap64 (((shR k).size : Int) - 1)) < ((shR k).size : Int) then (kilnref24_read.j0 K' l (shR k) ((shR k).size : Int) ((bt (shR k) (wrap64 (((shR k).size : Int) - 1))) == 42) (k : Int) (⟨#[]⟩ : ByteArray) (⟨#[]⟩ : ByteArray) (⟨#[]⟩ : ByteArray) 0 0) else (none)) else (none)) else (kilnref24_read.j0 K' l (shR k) ((shR k).size : Int) false (k : Int) (⟨#[]⟩ : ByteArray) (⟨#[]⟩ : ByteArray) (⟨#[]⟩ : ByteArray) 0 0)) = _
    by_cases h0 : 0 < (shR k).size
    · have hw1 : wrap64 (((shR k).size : Int) - 1) = ((shR k).size : Int) - 1 := wrap_in _ (by omega) (by omega)
      rw [if_pos (show ((shR k).size : Int) > 0 by omega), hw1, if_pos (by omega), if_pos (by omega)]
      have : starR k = (bt (shR k) (((shR k).size : Int) - 1) == 42) := by unfold starR; rw [decide_eq_true h0, Bool.true_and]
      rw [this]; rfl
    · rw [if_neg (show ¬ ((shR k).size : Int) > 0 by omega)]
      have : starR k = false := by unfold starR; rw [decide_eq_false h0, Bool.false_and]
      rw [this]; rfl
  have hj1 : ∀ K', kilnref24_read.f (K' + 1) (k : Int) l = kilnref24_read.j1 K' l (shR k) (nR k : Int) (starR k) (act0 k).f0 (act0 k).f1 (act0 k).f2 (act0 k).f4 (act0 k).f5 (act0 k).f6 := by
    intro K'
    rw [hj0, kilnref24_read.j0]
    by_cases hst : starR k = true
    · have h0 : 0 < (shR k).size := by
        unfold starR at hst
        rw [Bool.and_eq_true] at hst
        exact of_decide_eq_true hst.1
      rw [if_pos hst]
      have : wrap64 (((shR k).size : Int) - 1) = (nR k : Int) := by
        rw [wrap_in _ (by omega) (by omega)]; unfold nR; rw [if_pos hst]; omega
      rw [this]
    · rw [if_neg hst]
      have : (nR k : Int) = ((shR k).size : Int) := by unfold nR; rw [if_neg hst]
      rw [this]
  have hlt : ∀ K', kilnref24_read.j2 (K' + 1) l (shR k) (nR k : Int) true (act0 k).f0 (act0 k).f1 (act0 k).f2 (act0 k).f4 (act0 k).f5 (act0 k).f6 = some ((act0 k).f0, (act0 k).f1, (act0 k).f2, (act0 k).f3, (act0 k).f4, (act0 k).f5, (act0 k).f6, 243) := by
    intro K'
    rw [kilnref24_read.j2, if_pos rfl]; rfl
  have hgo : ∀ K', kilnref24_read.j2 (K' + 1) l (shR k) (nR k : Int) false (act0 k).f0 (act0 k).f1 (act0 k).f2 (act0 k).f4 (act0 k).f5 (act0 k).f6 = kilnref24_read.l0 K' l (shR k) (nR k : Int) ((0 : Nat) : Int) (act0 k).f0 (act0 k).f1 (act0 k).f2 (act0 k).f3 (act0 k).f4 (act0 k).f5 (act0 k).f6 := by
    intro K'
    rw [kilnref24_read.j2, if_neg (by simp)]; rfl
  have good : ¬ (l.length < nR k ∨ (starR k = false ∧ nR k < l.length)) → codeR k l = c ∧ actR k l = putR (shR k) (nR k) 0 l (act0 k) := by
    intro h
    unfold codeR
    rw [if_neg h]
    exact ⟨e2.symm, rfl⟩
  by_cases c1 : l.length < nR k
  · refine ⟨3, act0 k, ?_, fun h => ?_⟩
    · rw [hj1, kilnref24_read.j1, if_pos (by omega), hlt]
      unfold codeR
      rw [if_pos (.inl c1)]
    · unfold codeR at h; rw [if_pos (.inl c1)] at h; cases h
  · by_cases c2 : nR k < l.length
    · cases hst : starR k with
      | false =>
        refine ⟨3, act0 k, ?_, fun h => ?_⟩
        · rw [hj1, kilnref24_read.j1, if_neg (by omega), if_pos (by omega), hst]
          show kilnref24_read.j2 (0 + 1) l (shR k) (nR k : Int) true _ _ _ _ _ _ = _
          rw [hlt]
          unfold codeR
          rw [if_pos (.inr ⟨hst, c2⟩)]
        · unfold codeR at h; rw [if_pos (.inr ⟨hst, c2⟩)] at h; cases h
      | true =>
        obtain ⟨g1, g2⟩ := good (by rintro (h | ⟨h, _⟩); exact c1 h; rw [hst] at h; cases h)
        refine ⟨K + 1 + 1 + 1, r, ?_, fun h => by rw [g2]; exact e3 (g1 ▸ h)⟩
        rw [hj1, kilnref24_read.j1, if_neg (by omega), if_pos (by omega), hst]
        show kilnref24_read.j2 (K + 1) l (shR k) (nR k : Int) false _ _ _ _ _ _ = _
        rw [hgo, g1]
        exact e1
    · obtain ⟨g1, g2⟩ := good (by rintro (h | ⟨_, h⟩); exact c1 h; exact c2 h)
      refine ⟨K + 1 + 1 + 1, r, ?_, fun h => by rw [g2]; exact e3 (g1 ▸ h)⟩
      rw [hj1, kilnref24_read.j1, if_neg (by omega), if_neg (by omega), hgo, g1]
      exact e1
end Go.Proofs.YtkfjjmmpbfjhaaaGreatDoor.Tells
