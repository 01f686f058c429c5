/- The reference's numbers in plain words: kilnref24.number takes just the words that Itoa writes. Conditions: those that each theorem states. -/
import Derived.Test.YtkfjjmmpbfjhaaaGreatDoorScrK1
import Derived.Test.YtkfjjmmpbfjhaaaGreatDoorScrPC
namespace Go.Proofs.YtkfjjmmpbfjhaaaGreatDoor.Tells
open Go.RowKit Go.Proofs.YtkfjjmmpbfjhaaaGreatDoor.PScriptActs Go.Proofs.YtkfjjmmpbfjhaaaGreatDoorW.PrintWords
set_option linter.unusedVariables false
set_option linter.unusedSimpArgs false
/-- what digits are worth -/
def valD : List UInt8 → Nat → Nat
  | [], a => a
  | c :: r, a => valD r (10 * a + (c.toNat - 48))
theorem valD_app : ∀ (l m : List UInt8) (a : Nat), valD (l ++ m) a = valD m (valD l a)
  | [], m, a => rfl
  | c :: r, m, a => by rw [List.cons_append, valD, valD, valD_app r m]
theorem valD_le : ∀ (l : List UInt8) (a : Nat), a ≤ valD l a
  | [], a => Nat.le_refl _
  | c :: r, a => Nat.le_trans (by omega) (valD_le r _)
theorem valD_dec (u : Nat) : valD (Lib.decDigits u) 0 = u := by
  induction u using Nat.strongRecOn with
  | _ u ih =>
    rw [Lib.decDigits]
    by_cases h : u < 10
    · rw [dif_pos h]
      have := (digit_is h).2
      show 10 * 0 + ((UInt8.ofNat (48 + u)).toNat - 48) = u
      omega
    · rw [dif_neg h, valD_app, ih (u / 10) (by omega)]
      have := (digit_is (d := u % 10) (by omega)).2
      show 10 * (u / 10) + ((UInt8.ofNat (48 + u % 10)).toNat - 48) = u
      omega
theorem dec_head (u : Nat) : ∀ c r, Lib.decDigits u = c :: r → c = 48 → u = 0 := by
  induction u using Nat.strongRecOn with
  | _ u ih =>
    intro c r h hc
    rw [Lib.decDigits] at h
    by_cases hu : u < 10
    · rw [dif_pos hu] at h
      injection h with h1 h2
      have := (digit_is hu).2
      rw [h1, hc] at this
      simp at this
      omega
    · rw [dif_neg hu] at h
      cases hl : Lib.decDigits (u / 10) with
      | nil => exact absurd hl (dec_digits _).2
      | cons d q =>
        rw [hl, List.cons_append] at h
        injection h with h1 h2
        have := ih (u / 10) (by omega) d q hl (h1.trans hc)
        omega
theorem dec_snoc (a : Nat) (c : UInt8) (ha : 0 < a) (hc : isDig c = true) : Lib.decDigits (10 * a + (c.toNat - 48)) = Lib.decDigits a ++ [c] := by
  unfold isDig at hc
  simp at hc
  rw [Lib.decDigits, dif_neg (by omega)]
  have h1 : (10 * a + (c.toNat - 48)) / 10 = a := by omega
  have h2 : (10 * a + (c.toNat - 48)) % 10 = c.toNat - 48 := by omega
  rw [h1, h2]
  congr 2
  have h3 : 48 + (c.toNat - 48) = c.toNat := by omega
  rw [h3]; simp
theorem dec_one (c : UInt8) (hc : isDig c = true) : Lib.decDigits (c.toNat - 48) = [c] := by
  unfold isDig at hc
  simp at hc
  rw [Lib.decDigits, dif_pos (by omega)]
  have h3 : 48 + (c.toNat - 48) = c.toNat := by omega
  rw [h3]; simp
theorem itoa_sign (v : Int) : Lib.itoa v = (if v < 0 then [45] else []) ++ Lib.decDigits v.natAbs := by
  unfold Lib.itoa
  by_cases h : v < 0
  · rw [if_pos h, if_pos h]; rfl
  · rw [if_neg h, if_neg h]
    have : v.toNat = v.natAbs := by omega
    rw [this]; rfl
theorem numW_ok {l : List UInt8} {v : Int} (h : numW l = some v) : Lib.itoa v = l := by
  unfold numW at h
  split at h
  · split at h
    · split at h
      · rename_i h2; injection h with h; rw [← h]; exact h2
      · cases h
    · cases h
  · cases h
theorem lim_d (d : Nat) (h : d < 10) : wrap64 (Int.tdiv (wrap64 ((-9223372036854775808) + (d : Int))) 10) = -(((9223372036854775808 - d) / 10 : Nat) : Int) := by
  have key : ∀ m : Fin 10, wrap64 (Int.tdiv (wrap64 ((-9223372036854775808) + (m.val : Int))) 10) = -(((9223372036854775808 - m.val) / 10 : Nat) : Int) := by decide +kernel
  exact key ⟨d, h⟩
theorem take_snoc (s : ByteArray) (j : Nat) (h : j < s.size) : (bl s).take (j + 1) = (bl s).take j ++ [s[j]'h] := by
  have hl : j < (bl s).length := by rw [bl_len]; exact h
  rw [List.take_succ_eq_append_getElem hl]
  rfl
theorem bt_is (s : ByteArray) (j : Nat) (h : j < s.size) : bt s (j : Int) = (((s[j]'h).toNat : Nat) : Int) := by
  unfold bt
  rw [dif_pos (show ((j : Int)).toNat < s.size by omega)]
  rfl
theorem lim_over (acc d : Nat) (hd : d < 10) (h : -(acc : Int) < -(((9223372036854775808 - d) / 10 : Nat) : Int)) : 9223372036854775808 < 10 * acc + d := by omega
theorem lim_in (acc d : Nat) (hd : d < 10) (h : ¬ -(acc : Int) < -(((9223372036854775808 - d) / 10 : Nat) : Int)) : 10 * acc + d ≤ 9223372036854775808 := by omega
theorem wrap_in (x : Int) (h : -9223372036854775808 ≤ x) (h2 : x ≤ 9223372036854775807) : wrap64 x = x := by unfold wrap64; omega
theorem num_step (acc d : Nat) (hd : d < 10) (h : 10 * acc + d ≤ 9223372036854775808) : wrap64 (wrap64 (10 * -(acc : Int)) - (d : Int)) = -((10 * acc + d : Nat) : Int) := by
  rw [wrap_in (10 * -(acc : Int)) (by omega) (by omega), wrap_in _ (by omega) (by omega)]
  omega
theorem num_loop (neg : Bool) (s : ByteArray) (hs : s.size ≤ 1048576) (hz : ∀ h : 0 < s.size, s[0]'h = 48 → s.size = 1) :
    ∀ n j acc : Nat, n + j = s.size → acc ≤ 9223372036854775808 → acc = valD ((bl s).take j) 0 → (j = 0 ∨ Lib.decDigits acc = (bl s).take j) → (acc = 0 → j = 0 ∨ j = s.size) →
    ∃ v b, kilnref24_number.l0 (n + 1) neg s (-(acc : Int)) (j : Int) = some (v, b) ∧ (b = true → 1 ≤ s.size → Lib.decDigits v.natAbs = bl s ∧ inI v ∧ v = if neg = true then -(v.natAbs : Int) else (v.natAbs : Int)) ∧ (b = false → ∀ u, Lib.decDigits u = bl s → 9223372036854775808 < u ∨ (neg = false ∧ u = 9223372036854775808)) := by
  intro n
  induction n with
  | zero =>
    intro j acc hj ha hv hd h0
    have hjs : ¬ ((j : Int) < (s.size : Int)) := by omega
    have htk : (bl s).take j = bl s := List.take_of_length_le (by rw [bl_len]; omega)
    rw [htk] at hv hd
    rw [kilnref24_number.l0, if_neg hjs]
    cases neg with
    | true =>
      rw [if_pos rfl]
      refine ⟨_, _, rfl, fun _ h1 => ?_, fun h => (by cases h)⟩
      have hd' := hd.resolve_left (by omega)
      have e : (-(acc : Int)).natAbs = acc := by omega
      rw [e]
      exact ⟨hd', ⟨by omega, by omega⟩, by rw [if_pos rfl]⟩
    | false =>
      rw [if_neg (by simp)]
      by_cases hm : (-(acc : Int)) = -9223372036854775808
      · rw [if_pos hm]
        refine ⟨_, _, rfl, fun h => (by cases h), fun _ u hu => .inr ⟨rfl, ?_⟩⟩
        have := valD_dec u
        rw [hu] at this
        omega
      · rw [if_neg hm]
        have hw : wrap64 (- -(acc : Int)) = (acc : Int) := by unfold wrap64; omega
        rw [hw]
        refine ⟨_, _, rfl, fun _ h1 => ?_, fun h => (by cases h)⟩
        have hd' := hd.resolve_left (by omega)
        have e : ((acc : Int)).natAbs = acc := by omega
        rw [e]
        exact ⟨hd', ⟨by omega, by omega⟩, by rw [if_neg (by simp)]⟩
  | succ n ih =>
    intro j acc hj ha hv hd h0
    have hjs : j < s.size := by omega
    have hji : ((j : Int) < (s.size : Int)) := by omega
    have hts := take_snoc s j hjs
    have hb := bt_is s j hjs
    generalize hc : s[j]'hjs = c at hts hb
    have hlt := c.toNat_lt
    rw [kilnref24_number.l0, if_pos hji, if_pos (show (0 : Int) ≤ (j : Int) by omega), hb]
    have w1 : wrap64 (wrap64 ((c.toNat : Nat) : Int) - 48) = (c.toNat : Int) - 48 := by
      have : wrap64 ((c.toNat : Nat) : Int) = (c.toNat : Int) := by unfold wrap64; omega
      rw [this]; unfold wrap64; omega
    rw [w1]
    have hnd : ∀ u, Lib.decDigits u = bl s → isDig c = true := by
      intro u hu
      refine (dec_digits u).1 c ?_
      rw [hu]
      have : c ∈ (bl s).take (j + 1) := by rw [hts]; simp
      exact List.mem_of_mem_take this
    by_cases c1 : (c.toNat : Int) - 48 < 0
    · rw [if_pos c1]
      refine ⟨_, _, rfl, fun h => (by cases h), fun _ u hu => ?_⟩
      have := hnd u hu
      unfold isDig at this; simp at this; omega
    rw [if_neg c1]
    by_cases c2 : (c.toNat : Int) - 48 > 9
    · rw [if_pos c2]
      refine ⟨_, _, rfl, fun h => (by cases h), fun _ u hu => ?_⟩
      have := hnd u hu
      unfold isDig at this; simp at this; omega
    rw [if_neg c2]
    have hdg : isDig c = true := by unfold isDig; simp; omega
    have hv2 : valD ((bl s).take (j + 1)) 0 = 10 * acc + (c.toNat - 48) := by
      rw [hts, valD_app, ← hv]; rfl
    have hde : (c.toNat : Int) - 48 = ((c.toNat - 48 : Nat) : Int) := by omega
    rw [hde, lim_d (c.toNat - 48) (by omega)]
    by_cases c3 : -(acc : Int) < -(((9223372036854775808 - (c.toNat - 48)) / 10 : Nat) : Int)
    · rw [if_pos c3]
      refine ⟨_, _, rfl, fun h => (by cases h), fun _ u hu => .inl ?_⟩
      have h1 := valD_dec u
      rw [hu, ← List.take_append_drop (j + 1) (bl s), valD_app, hv2] at h1
      have h2 := valD_le ((bl s).drop (j + 1)) (10 * acc + (c.toNat - 48))
      rw [h1] at h2
      exact Nat.lt_of_lt_of_le (lim_over acc _ (by omega) c3) h2
    · rw [if_neg c3]
      have hin := lim_in acc (c.toNat - 48) (by omega) c3
      clear c3
      have w2 := num_step acc (c.toNat - 48) (by omega) hin
      have w3 : wrap64 ((j : Int) + 1) = ((j + 1 : Nat) : Int) := by unfold wrap64; omega
      rw [w2, w3]
      refine ih (j + 1) (10 * acc + (c.toNat - 48)) (by omega) hin hv2.symm (.inr ?_) (fun h => .inr ?_)
      · rw [hts]
        by_cases hj0 : j = 0
        · subst hj0
          have : acc = 0 := by rw [hv]; rfl
          subst this
          rw [List.take_zero, List.nil_append, Nat.mul_zero, Nat.zero_add]
          exact dec_one c hdg
        · have hd' := hd.resolve_left hj0
          have hpos : 0 < acc := by
            rcases Nat.eq_zero_or_pos acc with h | h
            · rcases h0 h with h | h
              · exact absurd h hj0
              · exact absurd h (Nat.ne_of_lt hjs)
            · exact h
          rw [dec_snoc acc c hpos hdg, hd']
      · have ha0 : acc = 0 := by clear hin hv ha ih; omega
        have hj0 : j = 0 := by
          rcases h0 ha0 with h | h
          · exact h
          · exact absurd h (Nat.ne_of_lt hjs)
        subst hj0
        have hc48 : c = 48 := by
          apply UInt8.toNat_inj.1
          unfold isDig at hdg; simp at hdg
          show c.toNat = 48
          omega
        have := hz hjs (hc.trans hc48)
        omega
theorem sign_split {neg : Bool} {l : List UInt8} {x : Int} (h : Lib.itoa x = (if neg = true then [45] else []) ++ l) (hl : neg = false → ∀ r, l ≠ 45 :: r) : (neg = true ↔ x < 0) ∧ Lib.decDigits x.natAbs = l := by
  rw [itoa_sign] at h
  by_cases hx : x < 0
  · rw [if_pos hx] at h
    cases neg with
    | true =>
      rw [if_pos rfl] at h
      injection h with _ h
      exact ⟨⟨fun _ => hx, fun _ => rfl⟩, h⟩
    | false =>
      rw [if_neg (by simp)] at h
      exact absurd h.symm (hl rfl _)
  · rw [if_neg hx] at h
    cases neg with
    | true =>
      rw [if_pos rfl] at h
      have h1 : Lib.decDigits x.natAbs = 45 :: l := h
      have := (dec_digits x.natAbs).1 45 (by rw [h1]; simp)
      exact absurd this (by decide)
    | false =>
      rw [if_neg (by simp)] at h
      exact ⟨⟨fun h => (by cases h), fun h => absurd h hx⟩, h⟩
theorem num_tail (s : ByteArray) (neg : Bool) (x5 : ByteArray) (hs : x5.size ≤ 1048576) (hpre : bl s = (if neg = true then [45] else []) ++ bl x5) (hn : neg = false → ∀ r, bl x5 ≠ 45 :: r) :
    ∃ v b, kilnref24_number.j1 (x5.size + 3) s neg x5 = some (v, b) ∧ (b = true → Lib.itoa v = bl s ∧ inI v) ∧ (b = false → ∀ x, inI x → Lib.itoa x ≠ bl s) := by
  have hsz : s.size = (if neg = true then 1 else 0) + x5.size := by
    rw [← bl_len, hpre, List.length_append, bl_len]
    cases neg <;> rfl
  rw [kilnref24_number.j1]
  by_cases h0 : (x5.size : Int) = 0
  · rw [if_pos h0, kilnref24_number.j2, if_pos rfl]
    refine ⟨_, _, rfl, fun h => (by cases h), fun _ x hx he => ?_⟩
    have h2 := (sign_split (he.trans hpre) hn).2
    have h3 : bl x5 = [] := List.eq_nil_of_length_eq_zero (by rw [bl_len]; omega)
    exact (dec_digits _).2 (h2.trans h3)
  rw [if_neg h0, if_pos (show 0 < (x5.size : Int) by omega)]
  have hp : 0 < x5.size := by omega
  have hb := bt_is x5 0 hp
  have hd0 : bl x5 = x5[0]'hp :: (bl x5).drop 1 := by have := bl_drop x5 0 hp; rwa [List.drop_zero] at this
  have go : (bt x5 0 = 48 → s.size = 1) → ∃ v b, kilnref24_number.l0 (x5.size + 1) neg x5 0 0 = some (v, b) ∧ (b = true → Lib.itoa v = bl s ∧ inI v) ∧ (b = false → ∀ x, inI x → Lib.itoa x ≠ bl s) := by
    intro hz
    obtain ⟨v, b, h1, h2, h3⟩ := num_loop neg x5 hs (fun h e => by
      have : bt x5 0 = 48 := by rw [show (0 : Int) = ((0 : Nat) : Int) from rfl, hb, e]; rfl
      have := hz this
      cases neg <;> simp at hsz <;> omega) x5.size 0 0 rfl (by omega) rfl (.inl rfl) (fun _ => .inl rfl)
    refine ⟨v, b, h1, fun hb1 => ?_, fun hb1 x hx he => ?_⟩
    · obtain ⟨e1, e2, e3⟩ := h2 hb1 hp
      refine ⟨?_, e2⟩
      rw [itoa_sign, hpre, e1]
      congr 1
      cases neg with
      | true =>
        rw [if_pos rfl] at e3
        rw [if_pos rfl, if_pos]
        rcases Nat.eq_zero_or_pos v.natAbs with h | h
        · exfalso
          rw [h] at e1
          have e4 : Lib.decDigits 0 = [48] := by rw [Lib.decDigits]; rfl
          rw [e4, hd0] at e1
          injection e1 with e5 _
          have : bt x5 0 = 48 := by rw [show (0 : Int) = ((0 : Nat) : Int) from rfl, hb, ← e5]; rfl
          have := hz this
          simp at hsz; omega
        · omega
      | false =>
        rw [if_neg (by simp)] at e3
        rw [if_neg (Int.not_lt.2 (Int.le_trans (Int.natCast_nonneg _) (Int.le_of_eq e3.symm))), if_neg (by simp)]
    · obtain ⟨e1, e2⟩ := sign_split (he.trans hpre) hn
      obtain ⟨i0, i1⟩ := hx
      rcases h3 hb1 _ e2 with h | ⟨h, h'⟩
      · omega
      · subst h
        simp at e1
        omega
  by_cases h48 : bt x5 0 = 48
  · rw [if_pos h48, kilnref24_number.j2]
    by_cases h1 : (s.size : Int) > 1
    · rw [if_pos (decide_eq_true h1)]
      refine ⟨_, _, rfl, fun h => (by cases h), fun _ x hx he => ?_⟩
      obtain ⟨e1, e2⟩ := sign_split (he.trans hpre) hn
      have hc : x5[0]'hp = 48 := by
        apply UInt8.toNat_inj.1
        rw [show (0 : Int) = ((0 : Nat) : Int) from rfl, hb] at h48
        show (x5[0]'hp).toNat = 48
        omega
      have hz := dec_head _ _ _ (e2.trans hd0) hc
      rw [hz] at e2
      have e4 : Lib.decDigits 0 = [48] := by rw [Lib.decDigits]; rfl
      rw [e4] at e2
      have : x5.size = 1 := by rw [← bl_len, ← e2]; rfl
      cases neg with
      | true => have := e1.1 rfl; omega
      | false => simp at hsz; omega
    · rw [if_neg (by simpa using h1)]
      exact go fun _ => by omega
  · rw [if_neg h48, kilnref24_number.j2, if_neg (by simp)]
    exact go fun h => absurd h h48
theorem numW_in {l : List UInt8} {v : Int} (h : numW l = some v) : inI v := by
  unfold numW at h
  split at h
  · split at h
    · rename_i ha
      split at h
      · injection h with h; rw [← h]; exact Lib.atoiAll_bounds ha
      · cases h
    · cases h
  · cases h
theorem number_f (s : ByteArray) (hs : s.size ≤ 1048576) : ∃ v b, kilnref24_number.f (s.size + 10) s = some (v, b) ∧ b = (numW (bl s)).isSome ∧ (∀ x, numW (bl s) = some x → v = x) := by
  have key : ∃ v b, kilnref24_number.f (s.size + 10) s = some (v, b) ∧ (b = true → Lib.itoa v = bl s ∧ inI v) ∧ (b = false → ∀ x, inI x → Lib.itoa x ≠ bl s) := by
    unfold kilnref24_number.f
    by_cases hp : (s.size : Int) > 0
    · rw [if_pos hp, if_pos hp]
      have hp' : 0 < s.size := by omega
      have hb := bt_is s 0 hp'
      have hd0 : bl s = s[0]'hp' :: (bl s).drop 1 := by have := bl_drop s 0 hp'; rwa [List.drop_zero] at this
      by_cases h45 : bt s 0 = 45
      · have hc : s[0]'hp' = 45 := by
          apply UInt8.toNat_inj.1
          rw [show (0 : Int) = ((0 : Nat) : Int) from rfl, hb] at h45
          show (s[0]'hp').toNat = 45
          omega
        have he : (bt s 0 == 45) = true := by rw [h45]; rfl
        rw [he, kilnref24_number.j0, if_pos rfl, if_pos (show 1 ≤ (s.size : Int) by omega)]
        have hx : (s.extract 1 s.size).size = s.size - 1 := by simp
        have hbl : bl (s.extract 1 s.size) = (bl s).drop 1 := by
          unfold bl
          rw [extract_list s 1 s.size (Nat.le_refl _), List.take_of_length_le (by rw [List.length_drop, show s.data.toList.length = s.size from bl_len s]; omega)]
        obtain ⟨v, b, h1, h2⟩ := num_tail s true (s.extract 1 s.size) (by omega) (by rw [hbl]; exact hd0.trans (by rw [hc]; rfl)) (fun h => (by cases h))
        refine ⟨v, b, at_rounds (fun k => (kilnref24_number.mono_l k).2.1 _ _ _) (by omega) h1, h2⟩
      · have he : (bt s 0 == 45) = false := by rw [beq_eq_false_iff_ne]; exact h45
        rw [he, kilnref24_number.j0, if_neg (by simp)]
        obtain ⟨v, b, h1, h2⟩ := num_tail s false s hs rfl (fun _ r hr => by
          rw [hd0] at hr
          injection hr with hr _
          apply h45
          rw [show (0 : Int) = ((0 : Nat) : Int) from rfl, hb, hr]; rfl)
        exact ⟨v, b, at_rounds (fun k => (kilnref24_number.mono_l k).2.1 _ _ _) (by omega) h1, h2⟩
    · rw [if_neg hp, kilnref24_number.j0, if_neg (by simp)]
      have h0 : bl s = [] := List.eq_nil_of_length_eq_zero (by rw [bl_len]; omega)
      obtain ⟨v, b, h1, h2⟩ := num_tail s false s hs rfl (fun _ r hr => by rw [h0] at hr; cases hr)
      exact ⟨v, b, at_rounds (fun k => (kilnref24_number.mono_l k).2.1 _ _ _) (by omega) h1, h2⟩
  obtain ⟨v, b, h1, h2, h3⟩ := key
  refine ⟨v, b, h1, ?_, ?_⟩
  · cases b with
    | true =>
      obtain ⟨e, i⟩ := h2 rfl
      have := numW_itoa v i
      have e2 : bl (itoaB v) = Lib.itoa v := by unfold itoaB bl; simp
      rw [e2, e] at this
      rw [this]; rfl
    | false =>
      cases hn : numW (bl s) with
      | none => rfl
      | some x => exact absurd (numW_ok hn) (h3 rfl x (numW_in hn))
  · intro x hx
    cases b with
    | true =>
      obtain ⟨e, i⟩ := h2 rfl
      have := numW_itoa v i
      have e2 : bl (itoaB v) = Lib.itoa v := by unfold itoaB bl; simp
      rw [e2, e, hx] at this
      injection this with this; exact this.symm
    | false => exact absurd (numW_ok hx) (h3 rfl x (numW_in hx))
end Go.Proofs.YtkfjjmmpbfjhaaaGreatDoor.Tells
