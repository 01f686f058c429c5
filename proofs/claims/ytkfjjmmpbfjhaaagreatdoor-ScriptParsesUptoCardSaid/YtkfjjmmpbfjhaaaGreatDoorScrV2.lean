/- The reference's byte words in plain words: kilnref24.Unwritten takes just the words that Written writes. Conditions: those that each theorem states. -/
import Derived.Test.YtkfjjmmpbfjhaaaGreatDoorScrV1
import Derived.Test.YtkfjjmmpbfjhaaaGreatDoorScrPD
namespace Go.Proofs.YtkfjjmmpbfjhaaaGreatDoor.Tells
open Go.RowKit Go.Proofs.YtkfjjmmpbfjhaaaGreatDoor.PScriptActs Go.Proofs.YtkfjjmmpbfjhaaaGreatDoorW.PrintWords
set_option linter.unusedVariables false
set_option linter.unusedSimpArgs false
theorem hexc_hexv : ∀ a : Fin 256, hexv (UInt8.ofNat a.val) < 16 → hexc (hexv (UInt8.ofNat a.val)) = UInt8.ofNat a.val := by decide +kernel
theorem hexc_of (a : UInt8) (h : hexv a < 16) : hexc (hexv a) = a := by
  have := hexc_hexv ⟨a.toNat, a.toNat_lt⟩
  simp only [UInt8.ofNat_toNat] at this
  exact this h
theorem enc_hex (a b : UInt8) (ha : hexv a < 16) (hb : hexv b < 16) (h : plainI (hexv a * 16 + hexv b) = false) : enc1 (UInt8.ofNat (hexv a * 16 + hexv b)) = [37, a, b] := by
  have e : (UInt8.ofNat (hexv a * 16 + hexv b)).toNat = hexv a * 16 + hexv b := by
    rw [UInt8.toNat_ofNat']
    omega
  unfold enc1
  rw [e, h, if_neg (by simp)]
  have e1 : (hexv a * 16 + hexv b) / 16 = hexv a := by omega
  have e2 : (hexv a * 16 + hexv b) % 16 = hexv b := by omega
  rw [e1, e2, hexc_of a ha, hexc_of b hb]
/-- what is read was written so -/
theorem enc_unw : ∀ n (l o : List UInt8), l.length ≤ n → unw l = some o → encw o = l := by
  intro n
  induction n with
  | zero =>
    intro l o hl h
    have : l = [] := List.eq_nil_of_length_eq_zero (by omega)
    subst this
    rw [unw] at h
    injection h with h
    subst h; rfl
  | succ n ih =>
    intro l o hl h
    cases l with
    | nil => rw [unw] at h; injection h with h; subst h; rfl
    | cons c r =>
      by_cases h1 : 128 ≤ c.toNat
      · rw [unw_none_high c r h1] at h; cases h
      by_cases h37 : c = 37
      · subst h37
        rcases r with _ | ⟨a, _ | ⟨b, r⟩⟩
        · rw [unw_none_short [] (by simp)] at h; cases h
        · rw [unw_none_short [a] (by simp)] at h; cases h
        · by_cases hh : hexv a < 16 ∧ hexv b < 16 ∧ plainI (hexv a * 16 + hexv b) = false
          · rw [unw_hex a b r hh] at h
            cases hr : unw r with
            | none => rw [hr] at h; cases h
            | some o' =>
              rw [hr] at h
              injection h with h
              subst h
              unfold encw
              rw [List.flatMap_cons, enc_hex a b hh.1 hh.2.1 hh.2.2]
              have := ih r o' (by simp at hl; omega) hr
              unfold encw at this
              rw [this]; rfl
          · rw [unw_none_hex a b r hh] at h; cases h
      · by_cases hp : plainI c.toNat = true
        · rw [unw_plain c r (by omega) h37 hp] at h
          cases hr : unw r with
          | none => rw [hr] at h; cases h
          | some o' =>
            rw [hr] at h
            injection h with h
            subst h
            have := ih r o' (by simp at hl; omega) hr
            unfold encw at this ⊢
            have e1 : enc1 c = [c] := by unfold enc1; rw [if_pos hp]
            rw [List.flatMap_cons, this, e1]; rfl
        · rw [unw_none_odd c r (by omega) h37 (by simpa using hp)] at h; cases h
theorem unwS_iff (l o : List UInt8) : unwS l = some o ↔ l = 61 :: encw o := by
  constructor
  · intro h
    rcases l with _ | ⟨c, r⟩
    · rw [unwS.eq_def] at h; cases h
    · by_cases hc : c = 61
      · subst hc
        have h' : unw r = some o := h
        rw [enc_unw r.length r o (Nat.le_refl _) h']
      · unfold unwS at h
        split at h
        · rename_i e; injection e with e _; exact absurd e hc
        · cases h
  · intro h
    subst h
    exact unw_encw o
theorem digit_f : ∀ c : Fin 256, kilnref24_digit.f 18 ((c.val : Nat) : Int) = some (if hexv (UInt8.ofNat c.val) < 16 then (hexv (UInt8.ofNat c.val) : Int) else -1) := by decide +kernel
theorem digit_at (c : UInt8) (k : Nat) (hk : 18 ≤ k) : kilnref24_digit.f k ((c.toNat : Nat) : Int) = some (if hexv c < 16 then (hexv c : Int) else -1) := by
  have := digit_f ⟨c.toNat, c.toNat_lt⟩
  simp only [UInt8.ofNat_toNat] at this
  exact at_rounds (fun k => kilnref24_digit.mono _ k) hk this
def numsB (L : List UInt8) : List Int := L.map fun c => ((c.toNat : Nat) : Int)
theorem str_numsB (L : List UInt8) : strOfNums (numsB L) = ⟨L.toArray⟩ := by
  unfold strOfNums numsB
  rw [List.map_map]
  congr 1
  congr 1
  refine (List.map_congr_left (g := id) (fun c _ => ?_)).trans (List.map_id _)
  show UInt8.ofNat (((c.toNat : Nat) : Int)).toNat = c
  simp
theorem enc_37 {o : List UInt8} {r : List UInt8} (h : encw o = 37 :: r) : ∃ d o', o = d :: o' ∧ plainI d.toNat = false ∧ r = hexc (d.toNat / 16) :: hexc (d.toNat % 16) :: encw o' := by
  cases o with
  | nil => cases h
  | cons d o' =>
    have h' : enc1 d ++ encw o' = 37 :: r := h
    unfold enc1 at h'
    by_cases hp : plainI d.toNat = true
    · rw [if_pos hp] at h'
      injection h' with h1 _
      rw [h1] at hp
      rw [show (37 : UInt8).toNat = 37 from rfl, plain37] at hp
      cases hp
    · rw [if_neg hp] at h'
      injection h' with _ h2
      exact ⟨d, o', rfl, by simpa using hp, h2.symm⟩
theorem enc_not37 {o : List UInt8} {c : UInt8} {r : List UInt8} (h : encw o = c :: r) (hc : c ≠ 37) : ∃ o', o = c :: o' ∧ r = encw o' := by
  cases o with
  | nil => cases h
  | cons d o' =>
    have h' : enc1 d ++ encw o' = c :: r := h
    unfold enc1 at h'
    by_cases hp : plainI d.toNat = true
    · rw [if_pos hp] at h'
      injection h' with h1 h2
      subst h1
      exact ⟨o', rfl, h2.symm⟩
    · rw [if_neg hp] at h'
      injection h' with h1 _
      exact absurd h1.symm hc
theorem enc_nil {o : List UInt8} (h : encw o = []) : o = [] := by
  cases o with
  | nil => rfl
  | cons d o' =>
    have h' : enc1 d ++ encw o' = [] := h
    have := (enc1_len d).1
    rw [(List.append_eq_nil_iff.1 h').1] at this
    exact absurd this (by decide)
theorem hexv_of (n : Nat) (h : n < 16) : hexv (hexc n) = n := hexv_hexc ⟨n, h⟩
theorem numsB_snoc (L : List UInt8) (c : UInt8) : numsB L ++ [((c.toNat : Nat) : Int)] = numsB (L ++ [c]) := by unfold numsB; simp
theorem numsB_len (L : List UInt8) : (numsB L).length = L.length := by unfold numsB; simp
theorem two_hex (a b : Nat) (ha : a < 16) (hb : b < 16) : (wrap64 (wrap64 ((a : Int) * 16) + (b : Int))) % 256 = (((UInt8.ofNat (a * 16 + b)).toNat : Nat) : Int) := by
  rw [wrap_in ((a : Int) * 16) (by omega) (by omega), wrap_in _ (by omega) (by omega), UInt8.toNat_ofNat']
  omega
theorem unwr_loop (s : ByteArray) (hs : s.size ≤ 262144) : ∀ n j (L : List UInt8), s.size ≤ n + j → j ≤ s.size → 1 ≤ j → L.length < j → (∀ o, bl s = 61 :: encw o → ∃ o', o = L ++ o' ∧ (bl s).drop j = encw o') →
    ∃ X b, kilnref24_Unwritten.l0 (2 * n + 40) s (numsB L) (j : Int) = some (X, b) ∧ (b = true → ∃ o, bl s = 61 :: encw o ∧ X = ⟨o.toArray⟩) ∧ (b = false → ∀ o, bl s ≠ 61 :: encw o) := by
  have fin : ∀ n j (L : List UInt8), s.size ≤ j → j ≤ s.size → L.length < j → (∀ o, bl s = 61 :: encw o → ∃ o', o = L ++ o' ∧ (bl s).drop j = encw o') →
    ∃ X b, kilnref24_Unwritten.l0 (2 * n + 40) s (numsB L) (j : Int) = some (X, b) ∧ (b = true → ∃ o, bl s = 61 :: encw o ∧ X = ⟨o.toArray⟩) ∧ (b = false → ∀ o, bl s ≠ 61 :: encw o) := by
    intro n j L h1 h2 h3 H
    have hj : ¬ ((j : Int) < (s.size : Int)) := by omega
    have hz : (⟨L.toArray⟩ : ByteArray).size = L.length := by show L.toArray.size = _; simp
    have hw : kilnref24_Written.f (2 * n + 39) ⟨L.toArray⟩ = some (wordB ⟨L.toArray⟩) := by unfold kilnref24_Written.f; rw [if_pos (by rw [hz]; omega)]
    rw [kilnref24_Unwritten.l0, if_neg hj, str_numsB, hw, Option.bind_some]
    refine ⟨_, _, rfl, fun hb => ⟨L, ?_, rfl⟩, fun hb o ho => ?_⟩
    · have hb' := eq_of_beq hb
      rw [ByteArray.toList_eq, ByteArray.toList_eq] at hb'
      have e := bl_word ⟨L.toArray⟩
      exact hb'.symm.trans e
    · obtain ⟨o', rfl, ho'⟩ := H o ho
      rw [List.drop_eq_nil_of_le (by rw [bl_len]; omega)] at ho'
      have := enc_nil ho'.symm
      subst this
      rw [List.append_nil] at ho
      have hb' := ne_of_beq_false hb
      rw [ByteArray.toList_eq, ByteArray.toList_eq] at hb'
      exact hb' ((bl_word ⟨L.toArray⟩).trans ho.symm)
  intro n
  induction n with
  | zero => exact fun j L h1 h2 h3 h4 H => fin 0 j L (by omega) h2 h4 H
  | succ n ih =>
    intro j L h1 h2 h3 h4 H
    by_cases hj : j < s.size
    case neg => exact fin (n + 1) j L (by omega) h2 h4 H
    have hji : (j : Int) < (s.size : Int) := by omega
    have hb := bt_is s j hj
    have hd := bl_drop s j hj
    generalize hc : s[j]'hj = c at hb hd
    have hw2 : wrap64 ((j : Int) + 2) = ((j + 2 : Nat) : Int) := by rw [wrap_in _ (by omega) (by omega)]; omega
    have hw1 : wrap64 ((j : Int) + 1) = ((j + 1 : Nat) : Int) := by rw [wrap_in _ (by omega) (by omega)]; omega
    have hw3 : wrap64 (((j + 2 : Nat) : Int) + 1) = ((j + 3 : Nat) : Int) := by rw [wrap_in _ (by omega) (by omega)]; omega
    have bad : ∀ k, (∀ o, bl s ≠ 61 :: encw o) → ∃ X b, kilnref24_Unwritten.j2 (k + 1) s (numsB L) (j : Int) true = some (X, b) ∧ (b = true → ∃ o, bl s = 61 :: encw o ∧ X = ⟨o.toArray⟩) ∧ (b = false → ∀ o, bl s ≠ 61 :: encw o) := by
      intro k hno
      rw [kilnref24_Unwritten.j2, if_pos rfl]
      exact ⟨_, _, rfl, fun h => (by cases h), fun _ => hno⟩
    rw [show 2 * (n + 1) + 40 = (2 * n + 40) + 1 + 1 from rfl, kilnref24_Unwritten.l0, if_pos hji, if_pos (show (0 : Int) ≤ (j : Int) by omega), hb]
    by_cases h37 : c = 37
    · subst h37
      have H2 : ∀ o, bl s = 61 :: encw o → ∃ d o', o = L ++ d :: o' ∧ plainI d.toNat = false ∧ (bl s).drop (j + 1) = hexc (d.toNat / 16) :: hexc (d.toNat % 16) :: encw o' := by
        intro o ho
        obtain ⟨o', rfl, ho'⟩ := H o ho
        obtain ⟨d, o'', rfl, hp, hr⟩ := enc_37 (ho'.symm.trans hd)
        exact ⟨d, o'', rfl, hp, hr⟩
      rw [if_pos (show (((37 : UInt8).toNat : Nat) : Int) = 37 from rfl), hw2, hw1]
      by_cases c2 : ((j + 2 : Nat) : Int) ≥ (s.size : Int)
      · rw [if_pos c2]
        refine bad _ fun o ho => ?_
        obtain ⟨d, o', _, _, hr⟩ := H2 o ho
        have := congrArg List.length hr
        rw [List.length_drop, bl_len] at this
        simp at this
        omega
      · rw [if_neg c2, if_pos (show (0 : Int) ≤ ((j + 1 : Nat) : Int) by omega), if_pos (show ((j + 1 : Nat) : Int) < (s.size : Int) by omega)]
        have hj1 : j + 1 < s.size := by omega
        have hj2 : j + 2 < s.size := by omega
        have hba := bt_is s (j + 1) hj1
        have hbb := bt_is s (j + 2) hj2
        have hda := bl_drop s (j + 1) hj1
        have hdb := bl_drop s (j + 2) hj2
        generalize s[j + 1]'hj1 = a at hba hda
        generalize s[j + 2]'hj2 = b at hbb hdb
        have H3 : ∀ o, bl s = 61 :: encw o → ∃ d o', o = L ++ d :: o' ∧ hexv a = d.toNat / 16 ∧ hexv b = d.toNat % 16 ∧ (bl s).drop (j + 3) = encw o' := by
          intro o ho
          obtain ⟨d, o', e, hp, hr⟩ := H2 o ho
          have hlt := d.toNat_lt
          rw [hda] at hr
          injection hr with e1 hr
          rw [show j + 1 + 1 = j + 2 from rfl, hdb] at hr
          injection hr with e2 hr
          exact ⟨d, o', e, by rw [e1]; exact hexv_of _ (by omega), by rw [e2]; exact hexv_of _ (by omega), hr⟩
        rw [hba, digit_at a _ (by omega), Option.bind_some]
        by_cases ha : hexv a < 16
        · rw [if_pos ha, if_neg (show ¬ ((hexv a : Int) < 0) by omega), if_pos (show (0 : Int) ≤ ((j + 2 : Nat) : Int) by omega), if_pos (show ((j + 2 : Nat) : Int) < (s.size : Int) by omega), hbb, digit_at b _ (by omega), Option.bind_some]
          by_cases hb16 : hexv b < 16
          · rw [if_pos hb16, show decide ((hexv b : Int) < 0) = false from decide_eq_false (by omega), kilnref24_Unwritten.j2, if_neg (by simp), hw1, hw2, hw3, if_pos (show (0 : Int) ≤ ((j + 1 : Nat) : Int) by omega), if_pos (show ((j + 1 : Nat) : Int) < (s.size : Int) by omega), hba, digit_at a _ (by omega), Option.bind_some, if_pos (show (0 : Int) ≤ ((j + 2 : Nat) : Int) by omega), if_pos (show ((j + 2 : Nat) : Int) < (s.size : Int) by omega), hbb, digit_at b _ (by omega), Option.bind_some, if_pos ha, if_pos hb16, if_pos (by rw [numsB_len]; omega), two_hex _ _ ha hb16, numsB_snoc]
            refine ih (j + 3) (L ++ [UInt8.ofNat (hexv a * 16 + hexv b)]) (by omega) (by omega) (by omega) (by rw [List.length_append]; simp; omega) fun o ho => ?_
            obtain ⟨d, o', e, e1, e2, e3⟩ := H3 o ho
            refine ⟨o', ?_, e3⟩
            have : UInt8.ofNat (hexv a * 16 + hexv b) = d := by
              rw [e1, e2, show d.toNat / 16 * 16 + d.toNat % 16 = d.toNat by omega]; simp
            rw [this, e]; simp
          · rw [if_neg hb16, show decide ((-1 : Int) < 0) = true from rfl]
            refine bad _ fun o ho => ?_
            obtain ⟨d, o', e, e1, e2, e3⟩ := H3 o ho
            have := d.toNat_lt
            omega
        · rw [if_neg ha, if_pos (show ((-1 : Int) < 0) by omega)]
          refine bad _ fun o ho => ?_
          obtain ⟨d, o', e, e1, e2, e3⟩ := H3 o ho
          have := d.toNat_lt
          omega
    · have hcn : ¬ ((c.toNat : Nat) : Int) = 37 := by
        intro h
        apply h37
        apply UInt8.toNat_inj.1
        show c.toNat = 37
        omega
      rw [if_neg hcn, if_pos (by rw [numsB_len]; omega), hw1, numsB_snoc]
      obtain ⟨X, b, e1, e2⟩ := ih (j + 1) (L ++ [c]) (by omega) (by omega) (by omega) (by rw [List.length_append]; simp; omega) fun o ho => by
        obtain ⟨o', rfl, ho'⟩ := H o ho
        obtain ⟨o'', rfl, hr⟩ := enc_not37 (ho'.symm.trans hd) h37
        exact ⟨o'', by simp, hr⟩
      exact ⟨X, b, at_rounds (fun k => (kilnref24_Unwritten.mono_l k).2.1 _ _ _) (Nat.le_succ _) e1, e2⟩
theorem unwritten_f (s : ByteArray) (hs : s.size ≤ 262144) : ∃ X, kilnref24_Unwritten.f (2 * s.size + 50) s = some (X, (unwS (bl s)).isSome) ∧ ((unwS (bl s)).isSome = true → X = unwT (bl s)) := by
  have key : ∃ X b, kilnref24_Unwritten.f (2 * s.size + 50) s = some (X, b) ∧ (b = true → ∃ o, bl s = 61 :: encw o ∧ X = ⟨o.toArray⟩) ∧ (b = false → ∀ o, bl s ≠ 61 :: encw o) := by
    unfold kilnref24_Unwritten.f
    by_cases h0 : s.toList = []
    · rw [if_pos h0, kilnref24_Unwritten.j0, if_pos rfl]
      refine ⟨_, _, rfl, fun h => (by cases h), fun _ o ho => ?_⟩
      rw [ByteArray.toList_eq] at h0
      rw [show bl s = [] from h0] at ho
      cases ho
    · rw [if_neg h0]
      have hp : 0 < s.size := by
        rcases Nat.eq_zero_or_pos s.size with h | h
        · rw [ByteArray.toList_eq] at h0
          exact absurd (List.eq_nil_of_length_eq_zero ((bl_len s).trans h)) h0
        · exact h
      rw [if_pos (show (0 : Int) < (s.size : Int) by omega)]
      have hb := bt_is s 0 hp
      have hd0 : bl s = s[0]'hp :: (bl s).drop 1 := by have := bl_drop s 0 hp; rwa [List.drop_zero] at this
      by_cases h61 : bt s 0 = 61
      · have hc : s[0]'hp = 61 := by
          apply UInt8.toNat_inj.1
          rw [show (0 : Int) = ((0 : Nat) : Int) from rfl, hb] at h61
          show (s[0]'hp).toNat = 61
          omega
        rw [show (bt s 0 != 61) = false by rw [h61]; rfl, kilnref24_Unwritten.j0, if_neg (by simp)]
        obtain ⟨X, b, e1, e2⟩ := unwr_loop s hs s.size 1 [] (by omega) (by omega) (Nat.le_refl _) (by simp) (fun o ho => ⟨o, rfl, by rw [ho]; rfl⟩)
        exact ⟨X, b, at_rounds (fun k => (kilnref24_Unwritten.mono_l k).2.1 _ _ _) (by omega) e1, e2⟩
      · rw [show (bt s 0 != 61) = true from bne_iff_ne.2 h61, kilnref24_Unwritten.j0, if_pos rfl]
        refine ⟨_, _, rfl, fun h => (by cases h), fun _ o ho => ?_⟩
        rw [hd0] at ho
        injection ho with ho _
        apply h61
        rw [show (0 : Int) = ((0 : Nat) : Int) from rfl, hb, ho]; rfl
  obtain ⟨X, b, e1, e2, e3⟩ := key
  cases b with
  | true =>
    obtain ⟨o, ho, hX⟩ := e2 rfl
    have hu := (unwS_iff (bl s) o).2 ho
    refine ⟨X, by rw [hu]; exact e1, fun _ => ?_⟩
    unfold unwT
    rw [hu, hX]
  | false =>
    cases hu : unwS (bl s) with
    | none => exact ⟨X, e1, fun h => (by cases h)⟩
    | some o => exact absurd ((unwS_iff (bl s) o).1 hu) (e3 rfl o)
end Go.Proofs.YtkfjjmmpbfjhaaaGreatDoor.Tells
