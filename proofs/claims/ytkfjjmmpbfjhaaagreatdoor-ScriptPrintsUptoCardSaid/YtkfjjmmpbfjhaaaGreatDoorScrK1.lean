/- Words written are read back: byte words, numbers, in plain words. Conditions: those that each theorem states. -/
import Derived.Test.YtkfjjmmpbfjhaaaGreatDoorScrJ
namespace Go.Proofs.YtkfjjmmpbfjhaaaGreatDoor.Tells
open Go.RowKit Go.Proofs.YtkfjjmmpbfjhaaaGreatDoor.PScriptActs
set_option linter.unusedVariables false
set_option linter.unusedSimpArgs false
theorem bl_word (s : ByteArray) : bl (wordB s) = 61 :: encw (bl s) := by unfold wordB bl; simp
theorem unwS_word (s : ByteArray) : unwS (bl (wordB s)) = some (bl s) := by rw [bl_word]; exact unw_encw (bl s)
theorem unwT_word (s : ByteArray) : unwT (bl (wordB s)) = s := by
  unfold unwT
  rw [unwS_word]
theorem unwL_words (l : List ByteArray) : unwL (l.map wordB) = l := by
  unfold unwL
  rw [List.map_map]
  exact (List.map_congr_left (g := id) (fun s _ => unwT_word s)).trans (List.map_id _)
theorem okL_words (l : List ByteArray) : okL (l.map wordB) = true := by
  unfold okL
  rw [List.all_map, List.all_eq_true]
  intro s _
  show (unwS (bl (wordB s))).isSome = true
  rw [unwS_word]; rfl
theorem digit_is {d : Nat} (h : d < 10) : isDig (UInt8.ofNat (48 + d)) = true ∧ (UInt8.ofNat (48 + d)).toNat = 48 + d := by
  rcases (show d = 0 ∨ d = 1 ∨ d = 2 ∨ d = 3 ∨ d = 4 ∨ d = 5 ∨ d = 6 ∨ d = 7 ∨ d = 8 ∨ d = 9 by omega) with rfl | rfl | rfl | rfl | rfl | rfl | rfl | rfl | rfl | rfl <;> decide
theorem dec_digits (u : Nat) : (∀ c ∈ Lib.decDigits u, isDig c = true) ∧ Lib.decDigits u ≠ [] := by
  induction u using Nat.strongRecOn with
  | _ u ih =>
    rw [Lib.decDigits]
    by_cases h : u < 10
    · rw [dif_pos h]
      exact ⟨fun c hc => by rw [List.mem_singleton] at hc; subst hc; exact (digit_is h).1, by simp⟩
    · rw [dif_neg h]
      refine ⟨fun c hc => ?_, by simp⟩
      rcases List.mem_append.1 hc with hc | hc
      · exact (ih (u / 10) (by omega)).1 c hc
      · rw [List.mem_singleton] at hc; subst hc; exact (digit_is (by omega)).1
theorem parse_app : ∀ (l m : List UInt8) (acc v : Nat), Lib.parseUint10 acc l = .ok v → Lib.parseUint10 acc (l ++ m) = Lib.parseUint10 v m
  | [], m, acc, v, h => by
    rw [Lib.parseUint10] at h
    injection h with h
    rw [List.nil_append, h]
  | c :: r, m, acc, v, h => by
    rw [Lib.parseUint10] at h
    rw [List.cons_append, Lib.parseUint10]
    by_cases h1 : 48 ≤ c.toNat ∧ c.toNat ≤ 57
    · rw [if_pos h1] at h ⊢
      by_cases h2 : 1844674407370955162 ≤ acc
      · rw [if_pos h2] at h; cases h
      · rw [if_neg h2] at h ⊢
        by_cases h3 : 18446744073709551616 ≤ acc * 10 + (c.toNat - 48)
        · rw [if_pos h3] at h; cases h
        · rw [if_neg h3] at h ⊢
          exact parse_app r m _ v h
    · rw [if_neg h1] at h; cases h
theorem parse_dec (u : Nat) (hu : u < 18446744073709551616) : Lib.parseUint10 0 (Lib.decDigits u) = .ok u := by
  induction u using Nat.strongRecOn with
  | _ u ih =>
    rw [Lib.decDigits]
    by_cases h : u < 10
    · rw [dif_pos h]
      obtain ⟨_, h2⟩ := digit_is h
      rw [Lib.parseUint10, h2, if_pos (by omega), if_neg (by omega), if_neg (by omega), Lib.parseUint10]
      congr 1
      omega
    · rw [dif_neg h, parse_app _ _ _ _ (ih (u / 10) (by omega) (by omega))]
      obtain ⟨_, h2⟩ := digit_is (d := u % 10) (by omega)
      rw [Lib.parseUint10, h2, if_pos (by omega), if_neg (by omega), if_neg (by omega), Lib.parseUint10]
      congr 1
      omega
theorem trim_dec (l : List UInt8) (h : ∀ c ∈ l, isDig c = true) : Lib.trimPrefix l [45] = l := by
  unfold Lib.trimPrefix
  rw [if_neg]
  cases l with
  | nil => simp [Lib.hasPrefix, List.isPrefixOf]
  | cons c r =>
    have hc := h c List.mem_cons_self
    intro hp
    unfold Lib.hasPrefix at hp
    simp [List.isPrefixOf] at hp
    subst hp
    exact absurd hc (by decide)
theorem numW_itoa (n : Int) (h : inI n) : numW (bl (itoaB n)) = some n := by
  have e : bl (itoaB n) = Lib.itoa n := by unfold itoaB bl; simp
  rw [e]
  obtain ⟨h0, h1⟩ := h
  unfold numW
  by_cases hn : n < 0
  · have hi : Lib.itoa n = 45 :: Lib.decDigits n.natAbs := by unfold Lib.itoa; rw [if_pos hn]
    obtain ⟨hd, hne⟩ := dec_digits n.natAbs
    have ht : Lib.trimPrefix (Lib.itoa n) [45] = Lib.decDigits n.natAbs := by
      rw [hi]; unfold Lib.trimPrefix; rw [if_pos (by simp [Lib.hasPrefix, List.isPrefixOf])]; rfl
    have ha : Lib.atoiAll (Lib.itoa n) = .ok n := by
      rw [hi, Lib.atoiAll_minus]
      unfold Lib.parseMag
      rw [if_neg hne, parse_dec _ (by omega)]
      unfold Lib.signed
      simp only
      rw [if_neg (by omega)]
      congr 1
      omega
    rw [ht, if_pos (List.all_eq_true.2 hd), ha]
    simp only
    rw [if_pos trivial]
  · have hi : Lib.itoa n = Lib.decDigits n.toNat := by unfold Lib.itoa; rw [if_neg hn]
    obtain ⟨hd, hne⟩ := dec_digits n.toNat
    have ht : Lib.trimPrefix (Lib.itoa n) [45] = Lib.decDigits n.toNat := by rw [hi]; exact trim_dec _ hd
    have ha : Lib.atoiAll (Lib.itoa n) = .ok n := by
      rw [hi]
      cases hl : Lib.decDigits n.toNat with
      | nil => exact absurd hl hne
      | cons c r =>
        have hc : isDig c = true := hd c (by rw [hl]; exact List.mem_cons_self)
        unfold isDig at hc
        simp at hc
        rw [Lib.atoiAll_plain c r (by omega) (by omega), ← hl]
        unfold Lib.parseMag
        rw [if_neg hne, parse_dec _ (by omega)]
        unfold Lib.signless
        simp only
        rw [if_neg (by omega)]
        congr 1
        omega
    rw [ht, if_pos (List.all_eq_true.2 hd), ha]
    simp only
    rw [if_pos trivial]
end Go.Proofs.YtkfjjmmpbfjhaaaGreatDoor.Tells
