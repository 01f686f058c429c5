/- The law WordOnce, walked: every word is the word of just one thing, so the call returns true, at a table of kinds as its initialiser lays it. Conditions: the table word.kinds is laid. -/
import Derived.Test.YtcnjdgafemgaeaaDoorPWordOncex1
import Derived.Test.YtcnjdgafemgaeaaDoorRows
import Derived.LaidMore
import Derived.Stop.Joined
import Derived.Lib.LaidTab
namespace Go.Proofs.YtcnjdgafemgaeaaDoor.Kinds
open Go.RowKit Go.Proofs.YtcnjdgafemgaeaaDoor.PWordOnce Go.Proofs.YtcnjdgafemgaeaaDoorW.PrintWords Go.Proofs.YtcnjdgafemgaeaaDoorW.PrintLast Go.Proofs.YtcnjdgafemgaeaaDoorW.PrintMore
attribute [local go_sem] max2_int min2_int max_two min_two max_three min_three max_four min_four
set_option linter.unusedVariables false
set_option linter.unusedSimpArgs false

theorem p64 : ((2 ^ 64 : Nat) : Int) = 18446744073709551616 := rfl
/-- the two lowest bits -/
theorem and3 (x : Int) : bits .and .i64 x 3 = x % 4 := by
  have h : bits .and .i64 x 3 = IntKind.i64.wrap (((BitVec.ofInt 64 x) &&& (BitVec.ofInt 64 3)).toNat : Int) := rfl
  rw [h, BitVec.toNat_and, BitVec.toNat_ofInt, BitVec.toNat_ofInt, p64]
  have e : ((3 : Int) % 18446744073709551616).toNat = 2 ^ 2 - 1 := rfl
  rw [e, Nat.and_two_pow_sub_one_eq_mod, show (2 : Nat) ^ 2 = 4 from rfl, IntKind.wrap_i64]
  omega

/-- which kind of word a number is -/
def kindOf (x : Int) : Int :=
  if x % 2 = 1 then (if -1073741824 ≤ x / 2 ∧ x / 2 ≤ 1073741823 then 1 else 0)
  else if x % 4 = 2 then (if 0 ≤ x ∧ x / 4 < 4096 then 2 else 0)
  else (if 0 < x ∧ x / 4 ≤ 65536 then 3 else 0)

/-- the table of kinds as its initialiser lays it -/
structure Table (w : World) : Prop where
  c0 : w.cell? ⟨0, 0, none⟩ = some (.int .i64 3)
  c1 : w.cell? ⟨0, 1, none⟩ = some (.int .i64 1)
  c2 : w.cell? ⟨0, 2, none⟩ = some (.int .i64 2)
  c3 : w.cell? ⟨0, 3, none⟩ = some (.int .i64 1)

theorem kind1 (x : Int) (w : World) (b : bits .and .i64 x 3 = 1) (t : w.cell? ⟨0, 1, none⟩ = some (.int .i64 1)) (r : Bool) (hr : Aside0 (word_in.f (x / 2) = some r)) :
    Calls Tryd.prog 14 #[.int .i64 x] w fun e w' => e = .returned (.int .i64 (if r then 1 else 0)) ∧ Drawn0 w w' := by
  cases r
  all_goals
    go_enter Tryd.func14, Tryd.ntmps14
    go_wp2_with (go_at_call 26; (with_reducible refine (word_in.calls _ _ _ hr.out).mono ?_); rintro e w' ⟨rfl, ⟨nd, rfl⟩⟩)
    go_ret
    exact ⟨by first | rfl | (simp; done) | (simp [*]; done), by repeat (first | exact Drawn0.refl _ | apply Drawn0.step)⟩
theorem kind3 (x : Int) (w : World) (b : bits .and .i64 x 3 = 3) (t : w.cell? ⟨0, 3, none⟩ = some (.int .i64 1)) (r : Bool) (hr : Aside0 (word_in.f (x / 2) = some r)) :
    Calls Tryd.prog 14 #[.int .i64 x] w fun e w' => e = .returned (.int .i64 (if r then 1 else 0)) ∧ Drawn0 w w' := by
  cases r
  all_goals
    go_enter Tryd.func14, Tryd.ntmps14
    go_wp2_with (go_at_call 26; (with_reducible refine (word_in.calls _ _ _ hr.out).mono ?_); rintro e w' ⟨rfl, ⟨nd, rfl⟩⟩)
    go_ret
    exact ⟨by first | rfl | (simp; done) | (simp [*]; done), by repeat (first | exact Drawn0.refl _ | apply Drawn0.step)⟩
theorem kind2 (x : Int) (w : World) (b : bits .and .i64 x 3 = 2) (t : w.cell? ⟨0, 2, none⟩ = some (.int .i64 2)) :
    Calls Tryd.prog 14 #[.int .i64 x] w fun e w' => e = .returned (.int .i64 (if 0 ≤ x ∧ x / 4 < 4096 then 2 else 0)) ∧ Drawn0 w w' := by
  by_cases h0 : x < 0
  · have d0 : decide (x < 0) = true := decide_eq_true h0
    go_enter Tryd.func14, Tryd.ntmps14
    go_wp2
    go_ret
    exact ⟨by first | rfl | (simp; done) | (rw [if_neg (by omega)]; rfl), by repeat (first | exact Drawn0.refl _ | apply Drawn0.step)⟩
  · have d0 : decide (x < 0) = false := decide_eq_false h0
    by_cases h1 : 4096 ≤ x / 4
    · have d1 : decide (4096 ≤ x / 4) = true := decide_eq_true h1
      go_enter Tryd.func14, Tryd.ntmps14
      go_wp2
      go_ret
      exact ⟨by first | rfl | (simp; done) | (rw [if_neg (by omega)]; rfl), by repeat (first | exact Drawn0.refl _ | apply Drawn0.step)⟩
    · have d1 : decide (4096 ≤ x / 4) = false := decide_eq_false h1
      go_enter Tryd.func14, Tryd.ntmps14
      go_wp2
      go_ret
      exact ⟨by first | rfl | (simp; done) | (rw [if_pos (by omega)]; rfl), by repeat (first | exact Drawn0.refl _ | apply Drawn0.step)⟩
theorem kind0 (x : Int) (w : World) (b : bits .and .i64 x 3 = 0) (t : w.cell? ⟨0, 0, none⟩ = some (.int .i64 3)) :
    Calls Tryd.prog 14 #[.int .i64 x] w fun e w' => e = .returned (.int .i64 (if 0 < x ∧ x / 4 ≤ 65536 then 3 else 0)) ∧ Drawn0 w w' := by
  by_cases h0 : x ≤ 0
  · have d0 : decide (x ≤ 0) = true := decide_eq_true h0
    go_enter Tryd.func14, Tryd.ntmps14
    go_wp2
    go_ret
    exact ⟨by first | rfl | (simp; done) | (rw [if_neg (by omega)]; rfl), by repeat (first | exact Drawn0.refl _ | apply Drawn0.step)⟩
  · have d0 : decide (x ≤ 0) = false := decide_eq_false h0
    by_cases h1 : 65536 < x / 4
    · have d1 : decide (65536 < x / 4) = true := decide_eq_true h1
      go_enter Tryd.func14, Tryd.ntmps14
      go_wp2
      go_ret
      exact ⟨by first | rfl | (simp; done) | (rw [if_neg (by omega)]; rfl), by repeat (first | exact Drawn0.refl _ | apply Drawn0.step)⟩
    · have d1 : decide (65536 < x / 4) = false := decide_eq_false h1
      go_enter Tryd.func14, Tryd.ntmps14
      go_wp2
      go_ret
      exact ⟨by first | rfl | (simp; done) | (rw [if_pos (by omega)]; rfl), by repeat (first | exact Drawn0.refl _ | apply Drawn0.step)⟩
theorem inIs (n : Int) : word_in.f n = some (decide (-1073741824 ≤ n ∧ n ≤ 1073741823)) := by
  unfold word_in.f; by_cases h : n ≥ -1073741824 <;> simp [h] <;> omega
theorem kind_calls (x : Int) (w : World) (T : Table w) : Calls Tryd.prog 14 #[.int .i64 x] w fun e w' => e = .returned (.int .i64 (kindOf x)) ∧ Drawn0 w w' := by
  have h4 : x % 4 = 0 ∨ x % 4 = 1 ∨ x % 4 = 2 ∨ x % 4 = 3 := by omega
  have hb := and3 x
  rcases h4 with h | h | h | h <;> rw [h] at hb
  · refine (kind0 x w hb T.c0).mono fun e w' h' => ?_
    have e : kindOf x = (if 0 < x ∧ x / 4 ≤ 65536 then 3 else 0) := by unfold kindOf; rw [if_neg (by omega), if_neg (by omega)]
    rw [e]; exact h'
  · refine (kind1 x w hb T.c1 _ ⟨inIs _⟩).mono fun e w' h' => ?_
    have e : kindOf x = (if decide (-1073741824 ≤ x / 2 ∧ x / 2 ≤ 1073741823) = true then 1 else 0) := by unfold kindOf; rw [if_pos (by omega)]; simp
    rw [e]; exact h'
  · refine (kind2 x w hb T.c2).mono fun e w' h' => ?_
    have e : kindOf x = (if 0 ≤ x ∧ x / 4 < 4096 then 2 else 0) := by unfold kindOf; rw [if_neg (by omega), if_pos (by omega)]
    rw [e]; exact h'
  · refine (kind3 x w hb T.c3 _ ⟨inIs _⟩).mono fun e w' h' => ?_
    have e : kindOf x = (if decide (-1073741824 ≤ x / 2 ∧ x / 2 ≤ 1073741823) = true then 1 else 0) := by unfold kindOf; rw [if_pos (by omega)]; simp
    rw [e]; exact h'
theorem num_yes (x : Int) (w : World) (T : Table w) (k : Int) (hk : Aside0 (kindOf x = k)) (h1 : (k == 1) = true) (h2 : (k != 1) = false) :
    Calls Tryd.prog 11 #[.int .i64 x] w fun e w' => e = .returned (.tuple #[.int .i64 (x / 2), .int .i64 0]) ∧ Drawn0 w w' := by
  go_enter Tryd.func11, Tryd.ntmps11
  go_wp2_with fail
  refine (kind_calls x _ (by first | exact T | exact ⟨T.c0, T.c1, T.c2, T.c3⟩)).mono ?_; rw [hk.out]; rintro e w' ⟨rfl, ⟨nd, rfl⟩⟩
  go_wp2
  go_ret2
  exact ⟨by first | rfl | (simp; done) | (simp [*]; done), by repeat (first | exact Drawn0.refl _ | apply Drawn0.step)⟩
theorem num_no (x : Int) (w : World) (T : Table w) (k : Int) (hk : Aside0 (kindOf x = k)) (h1 : (k == 1) = false) (h2 : (k != 1) = true) :
    Calls Tryd.prog 11 #[.int .i64 x] w fun e w' => e = .returned (.tuple #[.int .i64 0, .int .i64 10]) ∧ Drawn0 w w' := by
  go_enter Tryd.func11, Tryd.ntmps11
  go_wp2_with fail
  refine (kind_calls x _ (by first | exact T | exact ⟨T.c0, T.c1, T.c2, T.c3⟩)).mono ?_; rw [hk.out]; rintro e w' ⟨rfl, ⟨nd, rfl⟩⟩
  go_wp2
  go_ret2
  exact ⟨by first | rfl | (simp; done) | (simp [*]; done), by repeat (first | exact Drawn0.refl _ | apply Drawn0.step)⟩
/-- what num tells of any number -/
theorem num_calls (x : Int) (w : World) (T : Table w) (i e0 : Int) (h : Aside0 ((if kindOf x = 1 then x / 2 else 0) = i ∧ (if kindOf x = 1 then 0 else 10) = e0)) :
    Calls Tryd.prog 11 #[.int .i64 x] w fun e w' => e = .returned (.tuple #[.int .i64 i, .int .i64 e0]) ∧ Drawn0 w w' := by
  obtain ⟨h1, h2⟩ := h.out
  clear h
  by_cases c : kindOf x = 1
  · rw [if_pos c] at h1 h2
    subst h1 h2
    exact num_yes x w T _ ⟨rfl⟩ (beq_iff_eq.mpr c) (bne_eq_false_iff_eq.mpr c)
  · rw [if_neg c] at h1 h2
    subst h1 h2
    exact num_no x w T _ ⟨rfl⟩ (beq_eq_false_iff_ne.mpr c) (bne_iff_ne.mpr c)
theorem sym_yes (x : Int) (w : World) (T : Table w) (k : Int) (hk : Aside0 (kindOf x = k)) (h1 : (k == 2) = true) (h2 : (k != 2) = false) :
    Calls Tryd.prog 12 #[.int .i64 x] w fun e w' => e = .returned (.tuple #[.int .i64 (x / 4), .int .i64 0]) ∧ Drawn0 w w' := by
  go_enter Tryd.func12, Tryd.ntmps12
  go_wp2_with fail
  refine (kind_calls x _ (by first | exact T | exact ⟨T.c0, T.c1, T.c2, T.c3⟩)).mono ?_; rw [hk.out]; rintro e w' ⟨rfl, ⟨nd, rfl⟩⟩
  go_wp2
  go_ret2
  exact ⟨by first | rfl | (simp; done) | (simp [*]; done), by repeat (first | exact Drawn0.refl _ | apply Drawn0.step)⟩
theorem sym_no (x : Int) (w : World) (T : Table w) (k : Int) (hk : Aside0 (kindOf x = k)) (h1 : (k == 2) = false) (h2 : (k != 2) = true) :
    Calls Tryd.prog 12 #[.int .i64 x] w fun e w' => e = .returned (.tuple #[.int .i64 0, .int .i64 10]) ∧ Drawn0 w w' := by
  go_enter Tryd.func12, Tryd.ntmps12
  go_wp2_with fail
  refine (kind_calls x _ (by first | exact T | exact ⟨T.c0, T.c1, T.c2, T.c3⟩)).mono ?_; rw [hk.out]; rintro e w' ⟨rfl, ⟨nd, rfl⟩⟩
  go_wp2
  go_ret2
  exact ⟨by first | rfl | (simp; done) | (simp [*]; done), by repeat (first | exact Drawn0.refl _ | apply Drawn0.step)⟩
/-- what sym tells of any number -/
theorem sym_calls (x : Int) (w : World) (T : Table w) (i e0 : Int) (h : Aside0 ((if kindOf x = 2 then x / 4 else 0) = i ∧ (if kindOf x = 2 then 0 else 10) = e0)) :
    Calls Tryd.prog 12 #[.int .i64 x] w fun e w' => e = .returned (.tuple #[.int .i64 i, .int .i64 e0]) ∧ Drawn0 w w' := by
  obtain ⟨h1, h2⟩ := h.out
  clear h
  by_cases c : kindOf x = 2
  · rw [if_pos c] at h1 h2
    subst h1 h2
    exact sym_yes x w T _ ⟨rfl⟩ (beq_iff_eq.mpr c) (bne_eq_false_iff_eq.mpr c)
  · rw [if_neg c] at h1 h2
    subst h1 h2
    exact sym_no x w T _ ⟨rfl⟩ (beq_eq_false_iff_ne.mpr c) (bne_iff_ne.mpr c)
theorem oop_yes (x : Int) (w : World) (T : Table w) (k : Int) (hk : Aside0 (kindOf x = k)) (h1 : (k == 3) = true) (h2 : (k != 3) = false) :
    Calls Tryd.prog 13 #[.int .i64 x] w fun e w' => e = .returned (.tuple #[.int .i64 (x / 4), .int .i64 0]) ∧ Drawn0 w w' := by
  go_enter Tryd.func13, Tryd.ntmps13
  go_wp2_with fail
  refine (kind_calls x _ (by first | exact T | exact ⟨T.c0, T.c1, T.c2, T.c3⟩)).mono ?_; rw [hk.out]; rintro e w' ⟨rfl, ⟨nd, rfl⟩⟩
  go_wp2
  go_ret2
  exact ⟨by first | rfl | (simp; done) | (simp [*]; done), by repeat (first | exact Drawn0.refl _ | apply Drawn0.step)⟩
theorem oop_no (x : Int) (w : World) (T : Table w) (k : Int) (hk : Aside0 (kindOf x = k)) (h1 : (k == 3) = false) (h2 : (k != 3) = true) :
    Calls Tryd.prog 13 #[.int .i64 x] w fun e w' => e = .returned (.tuple #[.int .i64 0, .int .i64 10]) ∧ Drawn0 w w' := by
  go_enter Tryd.func13, Tryd.ntmps13
  go_wp2_with fail
  refine (kind_calls x _ (by first | exact T | exact ⟨T.c0, T.c1, T.c2, T.c3⟩)).mono ?_; rw [hk.out]; rintro e w' ⟨rfl, ⟨nd, rfl⟩⟩
  go_wp2
  go_ret2
  exact ⟨by first | rfl | (simp; done) | (simp [*]; done), by repeat (first | exact Drawn0.refl _ | apply Drawn0.step)⟩
/-- what oop tells of any number -/
theorem oop_calls (x : Int) (w : World) (T : Table w) (i e0 : Int) (h : Aside0 ((if kindOf x = 3 then x / 4 else 0) = i ∧ (if kindOf x = 3 then 0 else 10) = e0)) :
    Calls Tryd.prog 13 #[.int .i64 x] w fun e w' => e = .returned (.tuple #[.int .i64 i, .int .i64 e0]) ∧ Drawn0 w w' := by
  obtain ⟨h1, h2⟩ := h.out
  clear h
  by_cases c : kindOf x = 3
  · rw [if_pos c] at h1 h2
    subst h1 h2
    exact oop_yes x w T _ ⟨rfl⟩ (beq_iff_eq.mpr c) (bne_eq_false_iff_eq.mpr c)
  · rw [if_neg c] at h1 h2
    subst h1 h2
    exact oop_no x w T _ ⟨rfl⟩ (beq_eq_false_iff_ne.mpr c) (bne_iff_ne.mpr c)
/-! the law -/
theorem orOne (n : Int) (h0 : -1073741824 ≤ n) (h1 : n ≤ 1073741823) : word_Int.f n = some (2 * n + 1, 0) := by
  unfold word_Int.f
  rw [inIs, decide_eq_true (⟨h0, h1⟩ : -1073741824 ≤ n ∧ n ≤ 1073741823)]
  simp only [Option.bind_some, if_true]
  have e : wrap64 (n * 2) = n * 2 := by unfold wrap64; omega
  rw [e]
  have hb : bits .or .i64 (n * 2) 1 = n * 2 + 1 := by
    have h : bits .or .i64 (n * 2) 1 = IntKind.i64.wrap (((BitVec.ofInt 64 (n * 2)) ||| (BitVec.ofInt 64 1)).toNat : Int) := rfl
    rw [h, BitVec.toNat_or, BitVec.toNat_ofInt, BitVec.toNat_ofInt, p64]
    obtain ⟨m, hm⟩ : ∃ m : Nat, (n * 2 % 18446744073709551616).toNat = 2 ^ 1 * m := ⟨(n * 2 % 18446744073709551616).toNat / 2, by rw [show (2 : Nat) ^ 1 = 2 from rfl]; omega⟩
    rw [hm, show ((1 : Int) % 18446744073709551616).toNat = 1 from rfl, ← Nat.two_pow_add_eq_or_of_lt (by decide) m, ← hm, IntKind.wrap_i64]
    omega
  rw [hb]
  congr 2; omega
theorem orTwo (n : Int) (h0 : 0 ≤ n) (h1 : n ≤ 4095) : word_Symbol.f n = some (4 * n + 2, 0) := by
  unfold word_Symbol.f
  rw [if_neg (by omega), if_neg (by omega)]
  have e : wrap64 (n * 4) = n * 4 := by unfold wrap64; omega
  rw [e]
  have hb : bits .or .i64 (n * 4) 2 = n * 4 + 2 := by
    have h : bits .or .i64 (n * 4) 2 = IntKind.i64.wrap (((BitVec.ofInt 64 (n * 4)) ||| (BitVec.ofInt 64 2)).toNat : Int) := rfl
    rw [h, BitVec.toNat_or, BitVec.toNat_ofInt, BitVec.toNat_ofInt, p64]
    obtain ⟨m, hm⟩ : ∃ m : Nat, (n * 4 % 18446744073709551616).toNat = 2 ^ 2 * m := ⟨(n * 4 % 18446744073709551616).toNat / 4, by rw [show (2 : Nat) ^ 2 = 4 from rfl]; omega⟩
    rw [hm, show ((2 : Int) % 18446744073709551616).toNat = 2 from rfl, ← Nat.two_pow_add_eq_or_of_lt (by decide) m, ← hm, IntKind.wrap_i64]
    omega
  rw [hb]
  congr 2; omega
theorem upTwo (n : Int) (h0 : 1 ≤ n) (h1 : n ≤ 65536) : word_Object.f n = some (4 * n, 0) := by
  unfold word_Object.f
  rw [if_neg (by omega), if_neg (by omega)]
  congr 2; unfold wrap64; omega
theorem clippedIs (k : Nat) (n lo hi m : Int) (hm : m = hi - lo + 1) (h0 : 0 < m) (hl : -2147483648 ≤ lo) (hh : hi ≤ 2147483648) (hl' : lo ≤ 2147483648) : ∃ r, kilnlaw1_clipped.f (k + 1) n lo hi = some r ∧ lo ≤ r ∧ r ≤ hi := by
  unfold kilnlaw1_clipped.f
  have e : wrap64 (wrap64 (hi - lo) + 1) = m := by unfold wrap64; omega
  have f2 : 0 ≤ n → 0 ≤ n.tmod m := Int.tmod_nonneg _
  have f3 : n ≤ 0 → n.tmod m ≤ 0 := fun h => by
    have := Int.tmod_nonneg (a := -n) m (by omega)
    rw [Int.neg_tmod] at this; omega
  have f4 := Int.lt_tmod_of_pos n (b := m) (by omega)
  have f5 := Int.tmod_lt_of_pos n (b := m) (by omega)
  generalize hm' : n.tmod m = t at *
  by_cases h : n ≥ lo
  · by_cases g : n ≤ hi
    · exact ⟨n, by simp [h, g, kilnlaw1_clipped.j0], h, g⟩
    · simp only [h, g, if_true, decide_false, kilnlaw1_clipped.j0, Bool.false_eq_true, if_false, e, hm']
      rw [if_neg (by omega)]
      by_cases c : t < 0
      · rw [if_pos c]; exact ⟨_, rfl, by unfold wrap64; omega, by unfold wrap64; omega⟩
      · rw [if_neg c]; exact ⟨_, rfl, by unfold wrap64; omega, by unfold wrap64; omega⟩
  · simp only [h, if_false, kilnlaw1_clipped.j0, Bool.false_eq_true, e, hm']
    rw [if_neg (by omega)]
    by_cases c : t < 0
    · rw [if_pos c]; exact ⟨_, rfl, by unfold wrap64; omega, by unfold wrap64; omega⟩
    · rw [if_neg c]; exact ⟨_, rfl, by unfold wrap64; omega, by unfold wrap64; omega⟩

set_option maxHeartbeats 4000000 in
set_option maxRecDepth 100000 in
/-- the law, where the fourth number is of kind 1 -/
theorem once_1 (x0 y0 z0 v n s k a b c i : Int) (w : World) (T : Table w) (hx : Aside0 (kilnlaw1_ranged.f 1 x0 = some n)) (hy : Aside0 (kilnlaw1_clipped.f 1 y0 0 4095 = some s)) (hz : Aside0 (kilnlaw1_clipped.f 1 z0 1 65536 = some k))
    (ha : Aside0 (word_Int.f n = some (a, 0))) (hb : Aside0 (word_Symbol.f s = some (b, 0))) (hc : Aside0 (word_Object.f k = some (c, 0)))
    (ab : (a == b) = false) (ac : (a == c) = false) (bc : (b == c) = false)
    (hn : Aside0 ((if kindOf a = 1 then a / 2 else 0) = n ∧ (if kindOf a = 1 then 0 else 10) = (0 : Int))) (hs : Aside0 ((if kindOf b = 2 then b / 4 else 0) = s ∧ (if kindOf b = 2 then 0 else 10) = (0 : Int))) (hk : Aside0 ((if kindOf c = 3 then c / 4 else 0) = k ∧ (if kindOf c = 3 then 0 else 10) = (0 : Int)))
    (ka : Aside0 (kindOf a = 1)) (kb : Aside0 (kindOf b = 2)) (kc : Aside0 (kindOf c = 3)) (kv : Aside0 (kindOf v = 1))
    (nn : (n != n) = false) (ss : (s != s) = false) (kk : (k != k) = false) (vv : (v == v) = true)
    (hi : Aside0 ((if kindOf v = 1 then v / 2 else 0) = i ∧ (if kindOf v = 1 then 0 else 10) = (0 : Int))) (hj : Aside0 ((if kindOf v = 2 then v / 4 else 0) = 0 ∧ (if kindOf v = 2 then 0 else 10) = (10 : Int))) (ho : Aside0 ((if kindOf v = 3 then v / 4 else 0) = 0 ∧ (if kindOf v = 3 then 0 else 10) = (10 : Int)))
    (hp : Aside0 (word_Int.f i = some (v, 0))) (hq : Aside0 (word_Symbol.f 0 = some (2, 0))) (hr : Aside0 (word_Object.f 0 = some (0, 1))) :
    Calls Tryd.prog 3 #[.int .i64 x0, .int .i64 y0, .int .i64 z0, .int .i64 v] w fun e w' => e = .returned (.bool true) ∧ Below w.heap.size w w' := by
  go_enter Tryd.func3, Tryd.ntmps3
  go_wp2_with fail
  refine (kilnlaw1_ranged.calls 1 x0 n _ hx.out).mono ?_; rintro e w' ⟨rfl, ⟨nd, rfl⟩⟩
  go_wp2_with fail
  refine (kilnlaw1_clipped.calls 1 y0 0 4095 s _ hy.out).mono ?_; rintro e w' ⟨rfl, ⟨nd, rfl⟩⟩
  go_wp2_with fail
  refine (kilnlaw1_clipped.calls 1 z0 1 65536 k _ hz.out).mono ?_; rintro e w' ⟨rfl, ⟨nd, rfl⟩⟩
  go_wp2_with fail
  refine (word_Int.calls n a 0 _ ha.out).mono ?_; rintro e w' ⟨rfl, ⟨nd, rfl⟩⟩
  go_wp2_with fail
  refine (word_Symbol.calls s b 0 _ hb.out).mono ?_; rintro e w' ⟨rfl, ⟨nd, rfl⟩⟩
  go_wp2_with fail
  refine (word_Object.calls k c 0 _ hc.out).mono ?_; rintro e w' ⟨rfl, ⟨nd, rfl⟩⟩
  go_wp2_with (go_at_call 10; (with_reducible refine (kilnlaw1_num.calls _ _ _ rfl).mono ?_); rintro e w' ⟨rfl, ⟨nd, rfl⟩⟩)
  refine (num_calls a _ (by first | exact T | exact ⟨T.c0, T.c1, T.c2, T.c3⟩) n 0 hn).mono ?_; rintro e w' ⟨rfl, ⟨nd, rfl⟩⟩
  go_wp2_with fail
  refine (sym_calls b _ (by first | exact T | exact ⟨T.c0, T.c1, T.c2, T.c3⟩) s 0 hs).mono ?_; rintro e w' ⟨rfl, ⟨nd, rfl⟩⟩
  go_wp2_with fail
  refine (oop_calls c _ (by first | exact T | exact ⟨T.c0, T.c1, T.c2, T.c3⟩) k 0 hk).mono ?_; rintro e w' ⟨rfl, ⟨nd, rfl⟩⟩
  go_wp2_with (go_at_call 10; (with_reducible refine (kilnlaw1_num.calls _ _ _ rfl).mono ?_); rintro e w' ⟨rfl, ⟨nd, rfl⟩⟩)
  refine (kind_calls a _ (by first | exact T | exact ⟨T.c0, T.c1, T.c2, T.c3⟩)).mono ?_; rw [ka.out]; rintro e w' ⟨rfl, ⟨nd, rfl⟩⟩
  go_wp2_with fail
  refine (kind_calls b _ (by first | exact T | exact ⟨T.c0, T.c1, T.c2, T.c3⟩)).mono ?_; rw [kb.out]; rintro e w' ⟨rfl, ⟨nd, rfl⟩⟩
  go_wp2_with fail
  refine (kind_calls c _ (by first | exact T | exact ⟨T.c0, T.c1, T.c2, T.c3⟩)).mono ?_; rw [kc.out]; rintro e w' ⟨rfl, ⟨nd, rfl⟩⟩
  go_wp2_with fail
  refine (num_calls v _ (by first | exact T | exact ⟨T.c0, T.c1, T.c2, T.c3⟩) i 0 hi).mono ?_; rintro e w' ⟨rfl, ⟨nd, rfl⟩⟩
  go_wp2_with fail
  refine (sym_calls v _ (by first | exact T | exact ⟨T.c0, T.c1, T.c2, T.c3⟩) 0 10 hj).mono ?_; rintro e w' ⟨rfl, ⟨nd, rfl⟩⟩
  go_wp2_with fail
  refine (oop_calls v _ (by first | exact T | exact ⟨T.c0, T.c1, T.c2, T.c3⟩) 0 10 ho).mono ?_; rintro e w' ⟨rfl, ⟨nd, rfl⟩⟩
  go_wp2_with fail
  refine (word_Int.calls i v 0 _ hp.out).mono ?_; rintro e w' ⟨rfl, ⟨nd, rfl⟩⟩
  go_wp2_with fail
  refine (word_Symbol.calls 0 2 0 _ hq.out).mono ?_; rintro e w' ⟨rfl, ⟨nd, rfl⟩⟩
  go_wp2_with fail
  refine (word_Object.calls 0 0 1 _ hr.out).mono ?_; rintro e w' ⟨rfl, ⟨nd, rfl⟩⟩
  go_wp2_with fail
  refine (kind_calls v _ (by first | exact T | exact ⟨T.c0, T.c1, T.c2, T.c3⟩)).mono ?_; rw [kv.out]; rintro e w' ⟨rfl, ⟨nd, rfl⟩⟩
  go_wp2_with (go_at_call 10; (with_reducible refine (kilnlaw1_num.calls _ _ _ rfl).mono ?_); rintro e w' ⟨rfl, ⟨nd, rfl⟩⟩)
  go_ret
  exact ⟨by first | rfl | (simp; done) | (simp [*]; done), by repeat (first | exact Below.refl _ _ | apply pw_below_drewN)⟩

set_option maxHeartbeats 4000000 in
set_option maxRecDepth 100000 in
/-- the law, where the fourth number is of kind 2 -/
theorem once_2 (x0 y0 z0 v n s k a b c j : Int) (w : World) (T : Table w) (hx : Aside0 (kilnlaw1_ranged.f 1 x0 = some n)) (hy : Aside0 (kilnlaw1_clipped.f 1 y0 0 4095 = some s)) (hz : Aside0 (kilnlaw1_clipped.f 1 z0 1 65536 = some k))
    (ha : Aside0 (word_Int.f n = some (a, 0))) (hb : Aside0 (word_Symbol.f s = some (b, 0))) (hc : Aside0 (word_Object.f k = some (c, 0)))
    (ab : (a == b) = false) (ac : (a == c) = false) (bc : (b == c) = false)
    (hn : Aside0 ((if kindOf a = 1 then a / 2 else 0) = n ∧ (if kindOf a = 1 then 0 else 10) = (0 : Int))) (hs : Aside0 ((if kindOf b = 2 then b / 4 else 0) = s ∧ (if kindOf b = 2 then 0 else 10) = (0 : Int))) (hk : Aside0 ((if kindOf c = 3 then c / 4 else 0) = k ∧ (if kindOf c = 3 then 0 else 10) = (0 : Int)))
    (ka : Aside0 (kindOf a = 1)) (kb : Aside0 (kindOf b = 2)) (kc : Aside0 (kindOf c = 3)) (kv : Aside0 (kindOf v = 2))
    (nn : (n != n) = false) (ss : (s != s) = false) (kk : (k != k) = false) (vv : (v == v) = true)
    (hi : Aside0 ((if kindOf v = 1 then v / 2 else 0) = 0 ∧ (if kindOf v = 1 then 0 else 10) = (10 : Int))) (hj : Aside0 ((if kindOf v = 2 then v / 4 else 0) = j ∧ (if kindOf v = 2 then 0 else 10) = (0 : Int))) (ho : Aside0 ((if kindOf v = 3 then v / 4 else 0) = 0 ∧ (if kindOf v = 3 then 0 else 10) = (10 : Int)))
    (hp : Aside0 (word_Int.f 0 = some (1, 0))) (hq : Aside0 (word_Symbol.f j = some (v, 0))) (hr : Aside0 (word_Object.f 0 = some (0, 1))) :
    Calls Tryd.prog 3 #[.int .i64 x0, .int .i64 y0, .int .i64 z0, .int .i64 v] w fun e w' => e = .returned (.bool true) ∧ Below w.heap.size w w' := by
  go_enter Tryd.func3, Tryd.ntmps3
  go_wp2_with fail
  refine (kilnlaw1_ranged.calls 1 x0 n _ hx.out).mono ?_; rintro e w' ⟨rfl, ⟨nd, rfl⟩⟩
  go_wp2_with fail
  refine (kilnlaw1_clipped.calls 1 y0 0 4095 s _ hy.out).mono ?_; rintro e w' ⟨rfl, ⟨nd, rfl⟩⟩
  go_wp2_with fail
  refine (kilnlaw1_clipped.calls 1 z0 1 65536 k _ hz.out).mono ?_; rintro e w' ⟨rfl, ⟨nd, rfl⟩⟩
  go_wp2_with fail
  refine (word_Int.calls n a 0 _ ha.out).mono ?_; rintro e w' ⟨rfl, ⟨nd, rfl⟩⟩
  go_wp2_with fail
  refine (word_Symbol.calls s b 0 _ hb.out).mono ?_; rintro e w' ⟨rfl, ⟨nd, rfl⟩⟩
  go_wp2_with fail
  refine (word_Object.calls k c 0 _ hc.out).mono ?_; rintro e w' ⟨rfl, ⟨nd, rfl⟩⟩
  go_wp2_with (go_at_call 10; (with_reducible refine (kilnlaw1_num.calls _ _ _ rfl).mono ?_); rintro e w' ⟨rfl, ⟨nd, rfl⟩⟩)
  refine (num_calls a _ (by first | exact T | exact ⟨T.c0, T.c1, T.c2, T.c3⟩) n 0 hn).mono ?_; rintro e w' ⟨rfl, ⟨nd, rfl⟩⟩
  go_wp2_with fail
  refine (sym_calls b _ (by first | exact T | exact ⟨T.c0, T.c1, T.c2, T.c3⟩) s 0 hs).mono ?_; rintro e w' ⟨rfl, ⟨nd, rfl⟩⟩
  go_wp2_with fail
  refine (oop_calls c _ (by first | exact T | exact ⟨T.c0, T.c1, T.c2, T.c3⟩) k 0 hk).mono ?_; rintro e w' ⟨rfl, ⟨nd, rfl⟩⟩
  go_wp2_with (go_at_call 10; (with_reducible refine (kilnlaw1_num.calls _ _ _ rfl).mono ?_); rintro e w' ⟨rfl, ⟨nd, rfl⟩⟩)
  refine (kind_calls a _ (by first | exact T | exact ⟨T.c0, T.c1, T.c2, T.c3⟩)).mono ?_; rw [ka.out]; rintro e w' ⟨rfl, ⟨nd, rfl⟩⟩
  go_wp2_with fail
  refine (kind_calls b _ (by first | exact T | exact ⟨T.c0, T.c1, T.c2, T.c3⟩)).mono ?_; rw [kb.out]; rintro e w' ⟨rfl, ⟨nd, rfl⟩⟩
  go_wp2_with fail
  refine (kind_calls c _ (by first | exact T | exact ⟨T.c0, T.c1, T.c2, T.c3⟩)).mono ?_; rw [kc.out]; rintro e w' ⟨rfl, ⟨nd, rfl⟩⟩
  go_wp2_with fail
  refine (num_calls v _ (by first | exact T | exact ⟨T.c0, T.c1, T.c2, T.c3⟩) 0 10 hi).mono ?_; rintro e w' ⟨rfl, ⟨nd, rfl⟩⟩
  go_wp2_with fail
  refine (sym_calls v _ (by first | exact T | exact ⟨T.c0, T.c1, T.c2, T.c3⟩) j 0 hj).mono ?_; rintro e w' ⟨rfl, ⟨nd, rfl⟩⟩
  go_wp2_with fail
  refine (oop_calls v _ (by first | exact T | exact ⟨T.c0, T.c1, T.c2, T.c3⟩) 0 10 ho).mono ?_; rintro e w' ⟨rfl, ⟨nd, rfl⟩⟩
  go_wp2_with fail
  refine (word_Int.calls 0 1 0 _ hp.out).mono ?_; rintro e w' ⟨rfl, ⟨nd, rfl⟩⟩
  go_wp2_with fail
  refine (word_Symbol.calls j v 0 _ hq.out).mono ?_; rintro e w' ⟨rfl, ⟨nd, rfl⟩⟩
  go_wp2_with fail
  refine (word_Object.calls 0 0 1 _ hr.out).mono ?_; rintro e w' ⟨rfl, ⟨nd, rfl⟩⟩
  go_wp2_with fail
  refine (kind_calls v _ (by first | exact T | exact ⟨T.c0, T.c1, T.c2, T.c3⟩)).mono ?_; rw [kv.out]; rintro e w' ⟨rfl, ⟨nd, rfl⟩⟩
  go_wp2_with (go_at_call 10; (with_reducible refine (kilnlaw1_num.calls _ _ _ rfl).mono ?_); rintro e w' ⟨rfl, ⟨nd, rfl⟩⟩)
  go_ret
  exact ⟨by first | rfl | (simp; done) | (simp [*]; done), by repeat (first | exact Below.refl _ _ | apply pw_below_drewN)⟩

set_option maxHeartbeats 4000000 in
set_option maxRecDepth 100000 in
/-- the law, where the fourth number is of kind 3 -/
theorem once_3 (x0 y0 z0 v n s k a b c o : Int) (w : World) (T : Table w) (hx : Aside0 (kilnlaw1_ranged.f 1 x0 = some n)) (hy : Aside0 (kilnlaw1_clipped.f 1 y0 0 4095 = some s)) (hz : Aside0 (kilnlaw1_clipped.f 1 z0 1 65536 = some k))
    (ha : Aside0 (word_Int.f n = some (a, 0))) (hb : Aside0 (word_Symbol.f s = some (b, 0))) (hc : Aside0 (word_Object.f k = some (c, 0)))
    (ab : (a == b) = false) (ac : (a == c) = false) (bc : (b == c) = false)
    (hn : Aside0 ((if kindOf a = 1 then a / 2 else 0) = n ∧ (if kindOf a = 1 then 0 else 10) = (0 : Int))) (hs : Aside0 ((if kindOf b = 2 then b / 4 else 0) = s ∧ (if kindOf b = 2 then 0 else 10) = (0 : Int))) (hk : Aside0 ((if kindOf c = 3 then c / 4 else 0) = k ∧ (if kindOf c = 3 then 0 else 10) = (0 : Int)))
    (ka : Aside0 (kindOf a = 1)) (kb : Aside0 (kindOf b = 2)) (kc : Aside0 (kindOf c = 3)) (kv : Aside0 (kindOf v = 3))
    (nn : (n != n) = false) (ss : (s != s) = false) (kk : (k != k) = false) (vv : (v == v) = true)
    (hi : Aside0 ((if kindOf v = 1 then v / 2 else 0) = 0 ∧ (if kindOf v = 1 then 0 else 10) = (10 : Int))) (hj : Aside0 ((if kindOf v = 2 then v / 4 else 0) = 0 ∧ (if kindOf v = 2 then 0 else 10) = (10 : Int))) (ho : Aside0 ((if kindOf v = 3 then v / 4 else 0) = o ∧ (if kindOf v = 3 then 0 else 10) = (0 : Int)))
    (hp : Aside0 (word_Int.f 0 = some (1, 0))) (hq : Aside0 (word_Symbol.f 0 = some (2, 0))) (hr : Aside0 (word_Object.f o = some (v, 0))) :
    Calls Tryd.prog 3 #[.int .i64 x0, .int .i64 y0, .int .i64 z0, .int .i64 v] w fun e w' => e = .returned (.bool true) ∧ Below w.heap.size w w' := by
  go_enter Tryd.func3, Tryd.ntmps3
  go_wp2_with fail
  refine (kilnlaw1_ranged.calls 1 x0 n _ hx.out).mono ?_; rintro e w' ⟨rfl, ⟨nd, rfl⟩⟩
  go_wp2_with fail
  refine (kilnlaw1_clipped.calls 1 y0 0 4095 s _ hy.out).mono ?_; rintro e w' ⟨rfl, ⟨nd, rfl⟩⟩
  go_wp2_with fail
  refine (kilnlaw1_clipped.calls 1 z0 1 65536 k _ hz.out).mono ?_; rintro e w' ⟨rfl, ⟨nd, rfl⟩⟩
  go_wp2_with fail
  refine (word_Int.calls n a 0 _ ha.out).mono ?_; rintro e w' ⟨rfl, ⟨nd, rfl⟩⟩
  go_wp2_with fail
  refine (word_Symbol.calls s b 0 _ hb.out).mono ?_; rintro e w' ⟨rfl, ⟨nd, rfl⟩⟩
  go_wp2_with fail
  refine (word_Object.calls k c 0 _ hc.out).mono ?_; rintro e w' ⟨rfl, ⟨nd, rfl⟩⟩
  go_wp2_with (go_at_call 10; (with_reducible refine (kilnlaw1_num.calls _ _ _ rfl).mono ?_); rintro e w' ⟨rfl, ⟨nd, rfl⟩⟩)
  refine (num_calls a _ (by first | exact T | exact ⟨T.c0, T.c1, T.c2, T.c3⟩) n 0 hn).mono ?_; rintro e w' ⟨rfl, ⟨nd, rfl⟩⟩
  go_wp2_with fail
  refine (sym_calls b _ (by first | exact T | exact ⟨T.c0, T.c1, T.c2, T.c3⟩) s 0 hs).mono ?_; rintro e w' ⟨rfl, ⟨nd, rfl⟩⟩
  go_wp2_with fail
  refine (oop_calls c _ (by first | exact T | exact ⟨T.c0, T.c1, T.c2, T.c3⟩) k 0 hk).mono ?_; rintro e w' ⟨rfl, ⟨nd, rfl⟩⟩
  go_wp2_with (go_at_call 10; (with_reducible refine (kilnlaw1_num.calls _ _ _ rfl).mono ?_); rintro e w' ⟨rfl, ⟨nd, rfl⟩⟩)
  refine (kind_calls a _ (by first | exact T | exact ⟨T.c0, T.c1, T.c2, T.c3⟩)).mono ?_; rw [ka.out]; rintro e w' ⟨rfl, ⟨nd, rfl⟩⟩
  go_wp2_with fail
  refine (kind_calls b _ (by first | exact T | exact ⟨T.c0, T.c1, T.c2, T.c3⟩)).mono ?_; rw [kb.out]; rintro e w' ⟨rfl, ⟨nd, rfl⟩⟩
  go_wp2_with fail
  refine (kind_calls c _ (by first | exact T | exact ⟨T.c0, T.c1, T.c2, T.c3⟩)).mono ?_; rw [kc.out]; rintro e w' ⟨rfl, ⟨nd, rfl⟩⟩
  go_wp2_with fail
  refine (num_calls v _ (by first | exact T | exact ⟨T.c0, T.c1, T.c2, T.c3⟩) 0 10 hi).mono ?_; rintro e w' ⟨rfl, ⟨nd, rfl⟩⟩
  go_wp2_with fail
  refine (sym_calls v _ (by first | exact T | exact ⟨T.c0, T.c1, T.c2, T.c3⟩) 0 10 hj).mono ?_; rintro e w' ⟨rfl, ⟨nd, rfl⟩⟩
  go_wp2_with fail
  refine (oop_calls v _ (by first | exact T | exact ⟨T.c0, T.c1, T.c2, T.c3⟩) o 0 ho).mono ?_; rintro e w' ⟨rfl, ⟨nd, rfl⟩⟩
  go_wp2_with fail
  refine (word_Int.calls 0 1 0 _ hp.out).mono ?_; rintro e w' ⟨rfl, ⟨nd, rfl⟩⟩
  go_wp2_with fail
  refine (word_Symbol.calls 0 2 0 _ hq.out).mono ?_; rintro e w' ⟨rfl, ⟨nd, rfl⟩⟩
  go_wp2_with fail
  refine (word_Object.calls o v 0 _ hr.out).mono ?_; rintro e w' ⟨rfl, ⟨nd, rfl⟩⟩
  go_wp2_with fail
  refine (kind_calls v _ (by first | exact T | exact ⟨T.c0, T.c1, T.c2, T.c3⟩)).mono ?_; rw [kv.out]; rintro e w' ⟨rfl, ⟨nd, rfl⟩⟩
  go_wp2_with (go_at_call 10; (with_reducible refine (kilnlaw1_num.calls _ _ _ rfl).mono ?_); rintro e w' ⟨rfl, ⟨nd, rfl⟩⟩)
  go_ret
  exact ⟨by first | rfl | (simp; done) | (simp [*]; done), by repeat (first | exact Below.refl _ _ | apply pw_below_drewN)⟩

set_option maxHeartbeats 4000000 in
set_option maxRecDepth 100000 in
/-- the law, where the fourth number is of kind 0 -/
theorem once_0 (x0 y0 z0 v n s k a b c  : Int) (w : World) (T : Table w) (hx : Aside0 (kilnlaw1_ranged.f 1 x0 = some n)) (hy : Aside0 (kilnlaw1_clipped.f 1 y0 0 4095 = some s)) (hz : Aside0 (kilnlaw1_clipped.f 1 z0 1 65536 = some k))
    (ha : Aside0 (word_Int.f n = some (a, 0))) (hb : Aside0 (word_Symbol.f s = some (b, 0))) (hc : Aside0 (word_Object.f k = some (c, 0)))
    (ab : (a == b) = false) (ac : (a == c) = false) (bc : (b == c) = false)
    (hn : Aside0 ((if kindOf a = 1 then a / 2 else 0) = n ∧ (if kindOf a = 1 then 0 else 10) = (0 : Int))) (hs : Aside0 ((if kindOf b = 2 then b / 4 else 0) = s ∧ (if kindOf b = 2 then 0 else 10) = (0 : Int))) (hk : Aside0 ((if kindOf c = 3 then c / 4 else 0) = k ∧ (if kindOf c = 3 then 0 else 10) = (0 : Int)))
    (ka : Aside0 (kindOf a = 1)) (kb : Aside0 (kindOf b = 2)) (kc : Aside0 (kindOf c = 3)) (kv : Aside0 (kindOf v = 0))
    (nn : (n != n) = false) (ss : (s != s) = false) (kk : (k != k) = false) (vv : (v == v) = true)
    (hi : Aside0 ((if kindOf v = 1 then v / 2 else 0) = 0 ∧ (if kindOf v = 1 then 0 else 10) = (10 : Int))) (hj : Aside0 ((if kindOf v = 2 then v / 4 else 0) = 0 ∧ (if kindOf v = 2 then 0 else 10) = (10 : Int))) (ho : Aside0 ((if kindOf v = 3 then v / 4 else 0) = 0 ∧ (if kindOf v = 3 then 0 else 10) = (10 : Int)))
    (hp : Aside0 (word_Int.f 0 = some (1, 0))) (hq : Aside0 (word_Symbol.f 0 = some (2, 0))) (hr : Aside0 (word_Object.f 0 = some (0, 1))) :
    Calls Tryd.prog 3 #[.int .i64 x0, .int .i64 y0, .int .i64 z0, .int .i64 v] w fun e w' => e = .returned (.bool true) ∧ Below w.heap.size w w' := by
  go_enter Tryd.func3, Tryd.ntmps3
  go_wp2_with fail
  refine (kilnlaw1_ranged.calls 1 x0 n _ hx.out).mono ?_; rintro e w' ⟨rfl, ⟨nd, rfl⟩⟩
  go_wp2_with fail
  refine (kilnlaw1_clipped.calls 1 y0 0 4095 s _ hy.out).mono ?_; rintro e w' ⟨rfl, ⟨nd, rfl⟩⟩
  go_wp2_with fail
  refine (kilnlaw1_clipped.calls 1 z0 1 65536 k _ hz.out).mono ?_; rintro e w' ⟨rfl, ⟨nd, rfl⟩⟩
  go_wp2_with fail
  refine (word_Int.calls n a 0 _ ha.out).mono ?_; rintro e w' ⟨rfl, ⟨nd, rfl⟩⟩
  go_wp2_with fail
  refine (word_Symbol.calls s b 0 _ hb.out).mono ?_; rintro e w' ⟨rfl, ⟨nd, rfl⟩⟩
  go_wp2_with fail
  refine (word_Object.calls k c 0 _ hc.out).mono ?_; rintro e w' ⟨rfl, ⟨nd, rfl⟩⟩
  go_wp2_with (go_at_call 10; (with_reducible refine (kilnlaw1_num.calls _ _ _ rfl).mono ?_); rintro e w' ⟨rfl, ⟨nd, rfl⟩⟩)
  refine (num_calls a _ (by first | exact T | exact ⟨T.c0, T.c1, T.c2, T.c3⟩) n 0 hn).mono ?_; rintro e w' ⟨rfl, ⟨nd, rfl⟩⟩
  go_wp2_with fail
  refine (sym_calls b _ (by first | exact T | exact ⟨T.c0, T.c1, T.c2, T.c3⟩) s 0 hs).mono ?_; rintro e w' ⟨rfl, ⟨nd, rfl⟩⟩
  go_wp2_with fail
  refine (oop_calls c _ (by first | exact T | exact ⟨T.c0, T.c1, T.c2, T.c3⟩) k 0 hk).mono ?_; rintro e w' ⟨rfl, ⟨nd, rfl⟩⟩
  go_wp2_with (go_at_call 10; (with_reducible refine (kilnlaw1_num.calls _ _ _ rfl).mono ?_); rintro e w' ⟨rfl, ⟨nd, rfl⟩⟩)
  refine (kind_calls a _ (by first | exact T | exact ⟨T.c0, T.c1, T.c2, T.c3⟩)).mono ?_; rw [ka.out]; rintro e w' ⟨rfl, ⟨nd, rfl⟩⟩
  go_wp2_with fail
  refine (kind_calls b _ (by first | exact T | exact ⟨T.c0, T.c1, T.c2, T.c3⟩)).mono ?_; rw [kb.out]; rintro e w' ⟨rfl, ⟨nd, rfl⟩⟩
  go_wp2_with fail
  refine (kind_calls c _ (by first | exact T | exact ⟨T.c0, T.c1, T.c2, T.c3⟩)).mono ?_; rw [kc.out]; rintro e w' ⟨rfl, ⟨nd, rfl⟩⟩
  go_wp2_with fail
  refine (num_calls v _ (by first | exact T | exact ⟨T.c0, T.c1, T.c2, T.c3⟩) 0 10 hi).mono ?_; rintro e w' ⟨rfl, ⟨nd, rfl⟩⟩
  go_wp2_with fail
  refine (sym_calls v _ (by first | exact T | exact ⟨T.c0, T.c1, T.c2, T.c3⟩) 0 10 hj).mono ?_; rintro e w' ⟨rfl, ⟨nd, rfl⟩⟩
  go_wp2_with fail
  refine (oop_calls v _ (by first | exact T | exact ⟨T.c0, T.c1, T.c2, T.c3⟩) 0 10 ho).mono ?_; rintro e w' ⟨rfl, ⟨nd, rfl⟩⟩
  go_wp2_with fail
  refine (word_Int.calls 0 1 0 _ hp.out).mono ?_; rintro e w' ⟨rfl, ⟨nd, rfl⟩⟩
  go_wp2_with fail
  refine (word_Symbol.calls 0 2 0 _ hq.out).mono ?_; rintro e w' ⟨rfl, ⟨nd, rfl⟩⟩
  go_wp2_with fail
  refine (word_Object.calls 0 0 1 _ hr.out).mono ?_; rintro e w' ⟨rfl, ⟨nd, rfl⟩⟩
  go_wp2_with fail
  refine (kind_calls v _ (by first | exact T | exact ⟨T.c0, T.c1, T.c2, T.c3⟩)).mono ?_; rw [kv.out]; rintro e w' ⟨rfl, ⟨nd, rfl⟩⟩
  go_wp2_with (go_at_call 10; (with_reducible refine (kilnlaw1_num.calls _ _ _ rfl).mono ?_); rintro e w' ⟨rfl, ⟨nd, rfl⟩⟩)
  go_ret
  exact ⟨by first | rfl | (simp; done) | (simp [*]; done), by repeat (first | exact Below.refl _ _ | apply pw_below_drewN)⟩
theorem once_walk (x0 y0 z0 v : Int) (w : World) (T : Table w) : Calls Tryd.prog 3 #[.int .i64 x0, .int .i64 y0, .int .i64 z0, .int .i64 v] w fun e w' => e = .returned (.bool true) ∧ Below w.heap.size w w' := by
  obtain ⟨n, hx, n0, n1⟩ : ∃ n, kilnlaw1_ranged.f 1 x0 = some n ∧ -1073741824 ≤ n ∧ n ≤ 1073741823 := by
    obtain ⟨r, h, h0, h1⟩ := clippedIs 0 x0 (-1073741824) 1073741823 2147483648 (by omega) (by omega) (by omega) (by omega) (by omega)
    exact ⟨r, by unfold kilnlaw1_ranged.f; rw [h]; rfl, h0, h1⟩
  obtain ⟨s, hy, s0, s1⟩ := clippedIs 0 y0 0 4095 4096 (by omega) (by omega) (by omega) (by omega) (by omega)
  obtain ⟨k, hz, k0, k1⟩ := clippedIs 0 z0 1 65536 65536 (by omega) (by omega) (by omega) (by omega) (by omega)
  have ha := orOne n n0 n1
  have hb := orTwo s s0 s1
  have hc := upTwo k k0 k1
  have ka : kindOf (2 * n + 1) = 1 := by unfold kindOf; rw [if_pos (by omega), if_pos (by omega)]
  have kb : kindOf (4 * s + 2) = 2 := by unfold kindOf; rw [if_neg (by omega), if_pos (by omega), if_pos (by omega)]
  have kc : kindOf (4 * k) = 3 := by unfold kindOf; rw [if_neg (by omega), if_neg (by omega), if_pos (by omega)]
  have hn : (if kindOf (2 * n + 1) = 1 then (2 * n + 1) / 2 else 0) = n ∧ (if kindOf (2 * n + 1) = 1 then 0 else 10) = (0 : Int) := by rw [if_pos ka, if_pos ka]; omega
  have hs : (if kindOf (4 * s + 2) = 2 then (4 * s + 2) / 4 else 0) = s ∧ (if kindOf (4 * s + 2) = 2 then 0 else 10) = (0 : Int) := by rw [if_pos kb, if_pos kb]; omega
  have hk : (if kindOf (4 * k) = 3 then (4 * k) / 4 else 0) = k ∧ (if kindOf (4 * k) = 3 then 0 else 10) = (0 : Int) := by rw [if_pos kc, if_pos kc]; omega
  have ab : (2 * n + 1 == 4 * s + 2) = false := beq_eq_false_iff_ne.mpr (by omega)
  have ac : (2 * n + 1 == 4 * k) = false := beq_eq_false_iff_ne.mpr (by omega)
  have bc : (4 * s + 2 == 4 * k) = false := beq_eq_false_iff_ne.mpr (by omega)
  have nn : (n != n) = false := bne_self_eq_false n
  have ss : (s != s) = false := bne_self_eq_false s
  have kk : (k != k) = false := bne_self_eq_false k
  have vv : (v == v) = true := beq_self_eq_true v
  have z1 : word_Int.f 0 = some (1, 0) := orOne 0 (by omega) (by omega)
  have z2 : word_Symbol.f 0 = some (2, 0) := orTwo 0 (by omega) (by omega)
  have z3 : word_Object.f 0 = some (0, 1) := by unfold word_Object.f; rw [if_pos (by omega)]
  generalize 2 * n + 1 = a at *
  generalize 4 * s + 2 = b at *
  generalize 4 * k = c at *
  have cases : kindOf v = 1 ∨ kindOf v = 2 ∨ kindOf v = 3 ∨ kindOf v = 0 := by unfold kindOf; split <;> split <;> (try split) <;> simp
  rcases cases with h | h | h | h
  · have hv : -1073741824 ≤ v / 2 ∧ v / 2 ≤ 1073741823 ∧ v % 2 = 1 := by
      unfold kindOf at h; split at h <;> split at h <;> (try split at h) <;> first | omega | (exfalso; omega)
    have hp := orOne (v / 2) hv.1 hv.2.1
    rw [show 2 * (v / 2) + 1 = v by omega] at hp
    exact once_1 x0 y0 z0 v n s k a b c (v / 2) w T ⟨hx⟩ ⟨hy⟩ ⟨hz⟩ ⟨ha⟩ ⟨hb⟩ ⟨hc⟩ ab ac bc ⟨hn⟩ ⟨hs⟩ ⟨hk⟩ ⟨ka⟩ ⟨kb⟩ ⟨kc⟩ ⟨h⟩ nn ss kk vv ⟨by simp [h]⟩ ⟨by simp [h]⟩ ⟨by simp [h]⟩ ⟨hp⟩ ⟨z2⟩ ⟨z3⟩
  · have hv : 0 ≤ v / 4 ∧ v / 4 ≤ 4095 ∧ v % 4 = 2 := by
      unfold kindOf at h; split at h <;> split at h <;> (try split at h) <;> first | omega | (exfalso; omega)
    have hp := orTwo (v / 4) hv.1 hv.2.1
    rw [show 4 * (v / 4) + 2 = v by omega] at hp
    exact once_2 x0 y0 z0 v n s k a b c (v / 4) w T ⟨hx⟩ ⟨hy⟩ ⟨hz⟩ ⟨ha⟩ ⟨hb⟩ ⟨hc⟩ ab ac bc ⟨hn⟩ ⟨hs⟩ ⟨hk⟩ ⟨ka⟩ ⟨kb⟩ ⟨kc⟩ ⟨h⟩ nn ss kk vv ⟨by simp [h]⟩ ⟨by simp [h]⟩ ⟨by simp [h]⟩ ⟨z1⟩ ⟨hp⟩ ⟨z3⟩
  · have hv : 1 ≤ v / 4 ∧ v / 4 ≤ 65536 ∧ v % 4 = 0 := by
      unfold kindOf at h; split at h <;> split at h <;> (try split at h) <;> first | omega | (exfalso; omega)
    have hp := upTwo (v / 4) hv.1 hv.2.1
    rw [show 4 * (v / 4) = v by omega] at hp
    exact once_3 x0 y0 z0 v n s k a b c (v / 4) w T ⟨hx⟩ ⟨hy⟩ ⟨hz⟩ ⟨ha⟩ ⟨hb⟩ ⟨hc⟩ ab ac bc ⟨hn⟩ ⟨hs⟩ ⟨hk⟩ ⟨ka⟩ ⟨kb⟩ ⟨kc⟩ ⟨h⟩ nn ss kk vv ⟨by simp [h]⟩ ⟨by simp [h]⟩ ⟨by simp [h]⟩ ⟨z1⟩ ⟨z2⟩ ⟨hp⟩
  · exact once_0 x0 y0 z0 v n s k a b c w T ⟨hx⟩ ⟨hy⟩ ⟨hz⟩ ⟨ha⟩ ⟨hb⟩ ⟨hc⟩ ab ac bc ⟨hn⟩ ⟨hs⟩ ⟨hk⟩ ⟨ka⟩ ⟨kb⟩ ⟨kc⟩ ⟨h⟩ nn ss kk vv ⟨by simp [h]⟩ ⟨by simp [h]⟩ ⟨by simp [h]⟩ ⟨z1⟩ ⟨z2⟩ ⟨z3⟩
theorem gKinds : Tryd.prog.globalNamed "kiln/word.kinds" = some 0 := by kernel_rfl
theorem table_of_laid {W : World} (h : laidMetH Tryd.prog Rows.wordOnceRow.laid W) : Table W := by
  rw [MakeChecks.laidMetH_plain _ _ _ (by kernel_rfl)] at h
  have hT := Lib.tabIs_of_head (k := .i64) (zs := [3, 1, 2, 1]) (rest := []) gKinds (t := 41) (e := 3) (n := 4) (by kernel_rfl) (by kernel_rfl) (by kernel_rfl) (by kernel_rfl) (by kernel_rfl) h
  exact ⟨hT.cell gKinds 0 (by decide), hT.cell gKinds 1 (by decide), hT.cell gKinds 2 (by decide), hT.cell gKinds 3 (by decide)⟩
end Go.Proofs.YtcnjdgafemgaeaaDoor.Kinds
