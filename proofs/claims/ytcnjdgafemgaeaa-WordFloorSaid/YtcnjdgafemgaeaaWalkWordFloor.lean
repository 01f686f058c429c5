/- The law WordFloor, walked: quotient and rest of any two integers (brought into range) are as the law asks, so the call returns true. Conditions: none. -/
import Derived.Test.YtcnjdgafemgaeaaPWordFloorx1
namespace Go.Proofs.Ytcnjdgafemgaeaa.Floor
open Go.RowKit Go.Proofs.Ytcnjdgafemgaeaa.PWordFloor Go.Proofs.YtcnjdgafemgaeaaW.PrintWords Go.Proofs.YtcnjdgafemgaeaaW.PrintLast Go.Proofs.YtcnjdgafemgaeaaW.PrintMore
attribute [local go_sem] max2_int min2_int max_two min_two max_three min_three max_four min_four
set_option linter.unusedVariables false
set_option linter.unusedSimpArgs false
/-- a number brought into 31 bits, with its sign -/
def w31 (n : Int) : Int := (n + 1073741824) % 2147483648 - 1073741824
theorem wrapIs (n : Int) : word_Wrap.f n = some (w31 n) := by
  unfold word_Wrap.f w31 wrap64; congr 1; omega
def inR (n : Int) : Prop := -1073741824 ≤ n ∧ n ≤ 1073741823
instance (n : Int) : Decidable (inR n) := by unfold inR; infer_instance
theorem inIs (n : Int) : word_in.f n = some (decide (inR n)) := by
  unfold word_in.f inR; by_cases h : n ≥ -1073741824 <;> simp [h] <;> omega
theorem wrap64_is {n : Int} (h0 : -9223372036854775808 ≤ n) (h1 : n ≤ 9223372036854775807) : wrap64 n = n := by unfold wrap64; omega

/-- what the quotient and the rest of a division toward nought obey -/
theorem divFacts (a b : Int) : a.tdiv b * b + a.tmod b = a ∧ (0 ≤ a → 0 ≤ a.tmod b) ∧ (a ≤ 0 → a.tmod b ≤ 0) ∧ (0 < b → -b < a.tmod b ∧ a.tmod b < b) ∧ (b < 0 → b < a.tmod b ∧ a.tmod b < -b) ∧ (a.tdiv b).natAbs ≤ a.natAbs := by
  refine ⟨?_, Int.tmod_nonneg b, ?_, fun h => ⟨Int.lt_tmod_of_pos a h, Int.tmod_lt_of_pos a h⟩, fun h => ?_, Int.natAbs_tdiv_le_natAbs a b⟩
  · have := Int.mul_tdiv_add_tmod a b; rw [Int.mul_comm] at this; exact this
  · intro h
    have := Int.tmod_nonneg (a := -a) b (by omega)
    rw [Int.neg_tmod] at this; omega
  · have h1 := Int.lt_tmod_of_pos a (b := -b) (by omega)
    have h2 := Int.tmod_lt_of_pos a (b := -b) (by omega)
    rw [Int.tmod_neg] at h1 h2; omega

/-- the quotient, rounded down -/
def flo (a b : Int) : Int := if a.tmod b = 0 then a.tdiv b else if ((decide (a.tmod b < 0)) != (decide (b < 0))) = true then a.tdiv b - 1 else a.tdiv b

theorem dividedIs (k : Nat) (a b : Int) : word_divided.f (k + 1) a b = some (if inR a ∧ inR b then (if b = 0 then (0, 0, 11) else (w31 (flo a b), a - flo a b * b, 0)) else (0, 0, 1)) := by
  unfold word_divided.f
  simp only [inIs, Option.bind_some, decide_eq_true_eq]
  by_cases h : inR a
  · by_cases g : inR b
    · simp only [h, g, if_true, decide_true, Bool.not_true, and_self]
      simp only [word_divided.j0, Bool.false_eq_true, if_false, wrapIs, Option.bind_some]
      by_cases hb : b = 0
      · simp [hb]
      · rw [if_neg hb, if_neg hb]
        obtain ⟨f1, f2, f3, f4, f5, f6⟩ := divFacts a b
        unfold inR at h g
        have e1 : wrap64 (a.tdiv b) = a.tdiv b := wrap64_is (by omega) (by omega)
        have e2 : wrap64 (a.tdiv b - 1) = a.tdiv b - 1 := wrap64_is (by omega) (by omega)
        have e3 : wrap64 (a.tmod b + b) = a.tmod b + b := wrap64_is (by omega) (by omega)
        rw [e1, e2, e3]
        unfold flo
        by_cases c : a.tmod b = 0
        · simp only [if_pos c]; congr 3; omega
        · simp only [if_neg c]
          split
          · congr 3; rw [Int.sub_mul]; omega
          · congr 3; omega
    · simp [h, g, word_divided.j0]
  · simp [h, word_divided.j0]
theorem divIs (k : Nat) (a b : Int) : word_Div.f (k + 1) a b = some (if inR a ∧ inR b then (if b = 0 then (0, 11) else (w31 (flo a b), 0)) else (0, 1)) := by
  unfold word_Div.f; rw [dividedIs]; simp only [Option.bind_some]; split
  · split <;> rfl
  · rfl
theorem modIs (k : Nat) (a b : Int) : word_Mod.f (k + 1) a b = some (if inR a ∧ inR b then (if b = 0 then (0, 11) else (a - flo a b * b, 0)) else (0, 1)) := by
  unfold word_Mod.f; rw [dividedIs]; simp only [Option.bind_some]; split
  · split <;> rfl
  · rfl
theorem rangedIs (k : Nat) (n : Int) : ∃ r, kilnlaw1_ranged.f (k + 1) n = some r ∧ inR r := by
  unfold kilnlaw1_ranged.f kilnlaw1_clipped.f
  have e : wrap64 (wrap64 (1073741823 - -1073741824) + 1) = 2147483648 := by unfold wrap64; omega
  obtain ⟨_, f2, f3, f4, _, _⟩ := divFacts n 2147483648
  have f4' := f4 (by omega)
  generalize hm : n.tmod 2147483648 = m at *
  by_cases h : n ≥ -1073741824
  · by_cases g : n ≤ 1073741823
    · exact ⟨n, by simp [h, g, kilnlaw1_clipped.j0], h, g⟩
    · simp only [h, g, if_true, decide_false, kilnlaw1_clipped.j0, Bool.false_eq_true, if_false, e, hm]
      rw [if_neg (by omega), if_neg (by omega)]
      exact ⟨_, rfl, by unfold inR wrap64; omega⟩
  · simp only [h, if_false, kilnlaw1_clipped.j0, Bool.false_eq_true, e, hm]
    rw [if_neg (by omega)]
    by_cases c : m < 0
    · rw [if_pos c]; exact ⟨_, rfl, by unfold inR wrap64; omega⟩
    · rw [if_neg c]; exact ⟨_, rfl, by unfold inR wrap64; omega⟩

/-- what the law asks of a quotient, wrapped, and a rest -/
theorem floFacts (a b : Int) (hb : b ≠ 0) (ha : inR a) (hg : inR b) : let q := w31 (flo a b); let r := a - flo a b * b;
    (r ≠ 0 → (r < 0 ↔ b < 0)) ∧ (0 < b → r < b) ∧ (b < 0 → b < r) ∧ w31 (wrap64 (wrap64 (q * b) + r)) = a ∧ (wrap64 (wrap64 (q * b) + r) = a ∨ (a = -1073741824 ∧ b = -1)) := by
  intro q r
  obtain ⟨f1, f2, f3, f4, f5, f6⟩ := divFacts a b
  have hr : a - flo a b * b = r := rfl
  have hq : w31 (flo a b) = q := rfl
  clear_value q r
  unfold inR at ha hg
  have key : (r ≠ 0 → (r < 0 ↔ b < 0)) ∧ (0 < b → r < b) ∧ (b < 0 → b < r) := by
    rw [← hr]; unfold flo
    by_cases c : a.tmod b = 0
    · simp only [if_pos c]; omega
    · simp only [if_neg c]
      by_cases d : ((decide (a.tmod b < 0)) != (decide (b < 0))) = true
      · rw [if_pos d, Int.sub_mul]
        have d' : ¬ (a.tmod b < 0 ↔ b < 0) := by simpa using d
        omega
      · rw [if_neg d]
        have d' : (a.tmod b < 0 ↔ b < 0) := by simpa using d
        omega
  have hfb : -1073741824 ≤ flo a b ∧ (flo a b ≤ 1073741823 ∨ (flo a b = 1073741824 ∧ a = -1073741824 ∧ b = -1)) := by
    unfold flo
    generalize a.tdiv b = t at *
    generalize a.tmod b = m at *
    by_cases ht : t = 1073741824
    · subst ht
      by_cases c : m = 0
      · rw [if_pos c]; omega
      · rw [if_neg c]; split <;> omega
    · by_cases hs : t = -1073741824
      · subst hs
        by_cases c : m = 0
        · rw [if_pos c]; omega
        · rw [if_neg c]
          split
          · omega
          · omega
      · by_cases c : m = 0
        · rw [if_pos c]; omega
        · rw [if_neg c]; split <;> omega
  have ww : ∀ x y : Int, wrap64 (wrap64 x + y) = wrap64 (x + y) := by intro x y; unfold wrap64; omega
  rcases hfb with ⟨h0, h1 | ⟨h1, ha', hb'⟩⟩
  · have e : q = flo a b := by rw [← hq]; unfold w31; omega
    have e2 : wrap64 (wrap64 (q * b) + r) = a := by
      rw [ww, e, ← hr, show flo a b * b + (a - flo a b * b) = a by omega]; unfold wrap64; omega
    exact ⟨key.1, key.2.1, key.2.2, by rw [e2]; unfold w31; omega, .inl e2⟩
  · have e : q = -1073741824 := by rw [← hq, h1]; rfl
    have e3 : r = 0 := by rw [← hr, h1, ha', hb']; rfl
    refine ⟨key.1, key.2.1, key.2.2, ?_, .inr ⟨ha', hb'⟩⟩
    rw [e, e3, ha', hb']; unfold w31 wrap64; omega

set_option maxHeartbeats 1000000 in
set_option maxRecDepth 100000 in
theorem nought (x y a : Int) (w : World) (hx : Aside0 (kilnlaw1_ranged.f 1 x = some a)) (hy : Aside0 (kilnlaw1_ranged.f 1 y = some 0)) (hd : Aside0 (word_Div.f 1 a 0 = some (0, 11))) (hm : Aside0 (word_Mod.f 1 a 0 = some (0, 11))) :
    Calls Try.prog 6 #[.int .i64 x, .int .i64 y] w fun e w' => e = .returned (.bool true) ∧ Drawn0 w w' := by
  go_enter Try.func6, Try.ntmps6
  go_wp2_with fail
  refine (kilnlaw1_ranged.calls 1 x a _ hx.out).mono ?_; rintro e w' ⟨rfl, ⟨nd, rfl⟩⟩
  go_wp2_with fail
  refine (kilnlaw1_ranged.calls 1 y 0 _ hy.out).mono ?_; rintro e w' ⟨rfl, ⟨nd, rfl⟩⟩
  go_wp2_with fail
  refine (word_Div.calls 1 a 0 0 11 _ hd.out).mono ?_; rintro e w' ⟨rfl, ⟨nd, rfl⟩⟩
  go_wp2_with fail
  refine (word_Mod.calls 1 a 0 0 11 _ hm.out).mono ?_; rintro e w' ⟨rfl, ⟨nd, rfl⟩⟩
  go_wp2_with (go_at_call 17; (with_reducible refine (kilnlaw1_num.calls _ _ _ rfl).mono ?_); rintro e w' ⟨rfl, ⟨nd, rfl⟩⟩)
  go_ret
  exact ⟨by first | rfl | (simp; done) | (simp [*]; done), by repeat (first | exact Drawn0.refl _ | apply Drawn0.step)⟩

set_option maxHeartbeats 2000000 in
set_option maxRecDepth 100000 in

set_option maxHeartbeats 2000000 in
set_option maxRecDepth 100000 in
/-- one way through the law: the divisor is not 0 -/
theorem wayPosNonzero (x y a b q r : Int) (w : World) (hx : Aside0 (kilnlaw1_ranged.f 1 x = some a)) (hy : Aside0 (kilnlaw1_ranged.f 1 y = some b)) (hd : Aside0 (word_Div.f 1 a b = some (q, 0))) (hm : Aside0 (word_Mod.f 1 a b = some (r, 0)))
    (hw : Aside0 (word_Wrap.f (wrap64 (wrap64 (q * b) + r)) = some a)) (b0 : (b == 0) = false) (b1 : (b != 0) = true) (aa : (a == a) = true) (r0 : (r == 0) = false) (r1 : (r != 0) = true) (r2 : decide (r < 0) = false) (b2 : decide (b < 0) = false) (b3 : decide (0 < b) = true) (r3 : decide (b ≤ r) = false) (f : (wrap64 (wrap64 (q * b) + r) == a) = true) :
    Calls Try.prog 6 #[.int .i64 x, .int .i64 y] w fun e w' => e = .returned (.bool true) ∧ Drawn0 w w' := by
  go_enter Try.func6, Try.ntmps6
  go_wp2_with fail
  refine (kilnlaw1_ranged.calls 1 x a _ hx.out).mono ?_; rintro e w' ⟨rfl, ⟨nd, rfl⟩⟩
  go_wp2_with fail
  refine (kilnlaw1_ranged.calls 1 y b _ hy.out).mono ?_; rintro e w' ⟨rfl, ⟨nd, rfl⟩⟩
  go_wp2_with fail
  refine (word_Div.calls 1 a b q 0 _ hd.out).mono ?_; rintro e w' ⟨rfl, ⟨nd, rfl⟩⟩
  go_wp2_with fail
  refine (word_Mod.calls 1 a b r 0 _ hm.out).mono ?_; rintro e w' ⟨rfl, ⟨nd, rfl⟩⟩
  go_wp2_with (first | (go_at_call 17; (with_reducible refine (kilnlaw1_num.calls _ _ _ rfl).mono ?_); rintro e w' ⟨rfl, ⟨nd, rfl⟩⟩) | (go_at_call 18; (with_reducible refine (word_Wrap.calls _ a _ hw.out).mono ?_); rintro e w' ⟨rfl, ⟨nd, rfl⟩⟩))
  go_ret
  exact ⟨by first | rfl | (simp; done) | (simp [*]; done), by repeat (first | exact Drawn0.refl _ | apply Drawn0.step)⟩


set_option maxHeartbeats 2000000 in
set_option maxRecDepth 100000 in
/-- one way through the law: the divisor is not 0 -/
theorem wayPosZero (x y a b q r : Int) (w : World) (hx : Aside0 (kilnlaw1_ranged.f 1 x = some a)) (hy : Aside0 (kilnlaw1_ranged.f 1 y = some b)) (hd : Aside0 (word_Div.f 1 a b = some (q, 0))) (hm : Aside0 (word_Mod.f 1 a b = some (r, 0)))
    (hw : Aside0 (word_Wrap.f (wrap64 (wrap64 (q * b) + r)) = some a)) (b0 : (b == 0) = false) (b1 : (b != 0) = true) (aa : (a == a) = true) (r0 : (r == 0) = true) (r1 : (r != 0) = false) (b2 : decide (b < 0) = false) (b3 : decide (0 < b) = true) (r3 : decide (b ≤ r) = false) (f : (wrap64 (wrap64 (q * b) + r) == a) = true) :
    Calls Try.prog 6 #[.int .i64 x, .int .i64 y] w fun e w' => e = .returned (.bool true) ∧ Drawn0 w w' := by
  go_enter Try.func6, Try.ntmps6
  go_wp2_with fail
  refine (kilnlaw1_ranged.calls 1 x a _ hx.out).mono ?_; rintro e w' ⟨rfl, ⟨nd, rfl⟩⟩
  go_wp2_with fail
  refine (kilnlaw1_ranged.calls 1 y b _ hy.out).mono ?_; rintro e w' ⟨rfl, ⟨nd, rfl⟩⟩
  go_wp2_with fail
  refine (word_Div.calls 1 a b q 0 _ hd.out).mono ?_; rintro e w' ⟨rfl, ⟨nd, rfl⟩⟩
  go_wp2_with fail
  refine (word_Mod.calls 1 a b r 0 _ hm.out).mono ?_; rintro e w' ⟨rfl, ⟨nd, rfl⟩⟩
  go_wp2_with (first | (go_at_call 17; (with_reducible refine (kilnlaw1_num.calls _ _ _ rfl).mono ?_); rintro e w' ⟨rfl, ⟨nd, rfl⟩⟩) | (go_at_call 18; (with_reducible refine (word_Wrap.calls _ a _ hw.out).mono ?_); rintro e w' ⟨rfl, ⟨nd, rfl⟩⟩))
  go_ret
  exact ⟨by first | rfl | (simp; done) | (simp [*]; done), by repeat (first | exact Drawn0.refl _ | apply Drawn0.step)⟩


set_option maxHeartbeats 2000000 in
set_option maxRecDepth 100000 in
/-- one way through the law: the divisor is not 0 -/
theorem wayNegNonzero (x y a b q r : Int) (w : World) (hx : Aside0 (kilnlaw1_ranged.f 1 x = some a)) (hy : Aside0 (kilnlaw1_ranged.f 1 y = some b)) (hd : Aside0 (word_Div.f 1 a b = some (q, 0))) (hm : Aside0 (word_Mod.f 1 a b = some (r, 0)))
    (hw : Aside0 (word_Wrap.f (wrap64 (wrap64 (q * b) + r)) = some a)) (b0 : (b == 0) = false) (b1 : (b != 0) = true) (aa : (a == a) = true) (r0 : (r == 0) = false) (r1 : (r != 0) = true) (r2 : decide (r < 0) = true) (b2 : decide (b < 0) = true) (b3 : decide (0 < b) = false) (r3 : decide (r ≤ b) = false) (f : (wrap64 (wrap64 (q * b) + r) == a) = true) :
    Calls Try.prog 6 #[.int .i64 x, .int .i64 y] w fun e w' => e = .returned (.bool true) ∧ Drawn0 w w' := by
  go_enter Try.func6, Try.ntmps6
  go_wp2_with fail
  refine (kilnlaw1_ranged.calls 1 x a _ hx.out).mono ?_; rintro e w' ⟨rfl, ⟨nd, rfl⟩⟩
  go_wp2_with fail
  refine (kilnlaw1_ranged.calls 1 y b _ hy.out).mono ?_; rintro e w' ⟨rfl, ⟨nd, rfl⟩⟩
  go_wp2_with fail
  refine (word_Div.calls 1 a b q 0 _ hd.out).mono ?_; rintro e w' ⟨rfl, ⟨nd, rfl⟩⟩
  go_wp2_with fail
  refine (word_Mod.calls 1 a b r 0 _ hm.out).mono ?_; rintro e w' ⟨rfl, ⟨nd, rfl⟩⟩
  go_wp2_with (first | (go_at_call 17; (with_reducible refine (kilnlaw1_num.calls _ _ _ rfl).mono ?_); rintro e w' ⟨rfl, ⟨nd, rfl⟩⟩) | (go_at_call 18; (with_reducible refine (word_Wrap.calls _ a _ hw.out).mono ?_); rintro e w' ⟨rfl, ⟨nd, rfl⟩⟩))
  go_ret
  exact ⟨by first | rfl | (simp; done) | (simp [*]; done), by repeat (first | exact Drawn0.refl _ | apply Drawn0.step)⟩


set_option maxHeartbeats 2000000 in
set_option maxRecDepth 100000 in
/-- one way through the law: the divisor is not 0 -/
theorem wayNegZero (x y a b q r : Int) (w : World) (hx : Aside0 (kilnlaw1_ranged.f 1 x = some a)) (hy : Aside0 (kilnlaw1_ranged.f 1 y = some b)) (hd : Aside0 (word_Div.f 1 a b = some (q, 0))) (hm : Aside0 (word_Mod.f 1 a b = some (r, 0)))
    (hw : Aside0 (word_Wrap.f (wrap64 (wrap64 (q * b) + r)) = some a)) (b0 : (b == 0) = false) (b1 : (b != 0) = true) (aa : (a == a) = true) (r0 : (r == 0) = true) (r1 : (r != 0) = false) (b2 : decide (b < 0) = true) (b3 : decide (0 < b) = false) (r3 : decide (r ≤ b) = false) (f : (wrap64 (wrap64 (q * b) + r) == a) = true) :
    Calls Try.prog 6 #[.int .i64 x, .int .i64 y] w fun e w' => e = .returned (.bool true) ∧ Drawn0 w w' := by
  go_enter Try.func6, Try.ntmps6
  go_wp2_with fail
  refine (kilnlaw1_ranged.calls 1 x a _ hx.out).mono ?_; rintro e w' ⟨rfl, ⟨nd, rfl⟩⟩
  go_wp2_with fail
  refine (kilnlaw1_ranged.calls 1 y b _ hy.out).mono ?_; rintro e w' ⟨rfl, ⟨nd, rfl⟩⟩
  go_wp2_with fail
  refine (word_Div.calls 1 a b q 0 _ hd.out).mono ?_; rintro e w' ⟨rfl, ⟨nd, rfl⟩⟩
  go_wp2_with fail
  refine (word_Mod.calls 1 a b r 0 _ hm.out).mono ?_; rintro e w' ⟨rfl, ⟨nd, rfl⟩⟩
  go_wp2_with (first | (go_at_call 17; (with_reducible refine (kilnlaw1_num.calls _ _ _ rfl).mono ?_); rintro e w' ⟨rfl, ⟨nd, rfl⟩⟩) | (go_at_call 18; (with_reducible refine (word_Wrap.calls _ a _ hw.out).mono ?_); rintro e w' ⟨rfl, ⟨nd, rfl⟩⟩))
  go_ret
  exact ⟨by first | rfl | (simp; done) | (simp [*]; done), by repeat (first | exact Drawn0.refl _ | apply Drawn0.step)⟩


set_option maxHeartbeats 2000000 in
set_option maxRecDepth 100000 in
/-- one way through the law: the divisor is not 0 -/
theorem wayLeast (x y a b q r : Int) (w : World) (hx : Aside0 (kilnlaw1_ranged.f 1 x = some a)) (hy : Aside0 (kilnlaw1_ranged.f 1 y = some b)) (hd : Aside0 (word_Div.f 1 a b = some (q, 0))) (hm : Aside0 (word_Mod.f 1 a b = some (r, 0)))
    (hw : Aside0 (word_Wrap.f (wrap64 (wrap64 (q * b) + r)) = some a)) (b0 : (b == 0) = false) (b1 : (b != 0) = true) (aa : (a == a) = true) (r0 : (r == 0) = true) (r1 : (r != 0) = false) (b2 : decide (b < 0) = true) (b3 : decide (0 < b) = false) (r3 : decide (r ≤ b) = false) (f : (wrap64 (wrap64 (q * b) + r) == a) = false) (al : (a == -1073741824) = true) (bl : (b == -1) = true) :
    Calls Try.prog 6 #[.int .i64 x, .int .i64 y] w fun e w' => e = .returned (.bool true) ∧ Drawn0 w w' := by
  go_enter Try.func6, Try.ntmps6
  go_wp2_with fail
  refine (kilnlaw1_ranged.calls 1 x a _ hx.out).mono ?_; rintro e w' ⟨rfl, ⟨nd, rfl⟩⟩
  go_wp2_with fail
  refine (kilnlaw1_ranged.calls 1 y b _ hy.out).mono ?_; rintro e w' ⟨rfl, ⟨nd, rfl⟩⟩
  go_wp2_with fail
  refine (word_Div.calls 1 a b q 0 _ hd.out).mono ?_; rintro e w' ⟨rfl, ⟨nd, rfl⟩⟩
  go_wp2_with fail
  refine (word_Mod.calls 1 a b r 0 _ hm.out).mono ?_; rintro e w' ⟨rfl, ⟨nd, rfl⟩⟩
  go_wp2_with (first | (go_at_call 17; (with_reducible refine (kilnlaw1_num.calls _ _ _ rfl).mono ?_); rintro e w' ⟨rfl, ⟨nd, rfl⟩⟩) | (go_at_call 18; (with_reducible refine (word_Wrap.calls _ a _ hw.out).mono ?_); rintro e w' ⟨rfl, ⟨nd, rfl⟩⟩))
  go_ret
  exact ⟨by first | rfl | (simp; done) | (simp [*]; done), by repeat (first | exact Drawn0.refl _ | apply Drawn0.step)⟩


theorem floor_walk (x y : Int) (w : World) : Calls Try.prog 6 #[.int .i64 x, .int .i64 y] w fun e w' => e = .returned (.bool true) ∧ Below w.heap.size w w' := by
  obtain ⟨a, hx, ha⟩ := rangedIs 0 x
  obtain ⟨b, hy, hb⟩ := rangedIs 0 y
  have hd := divIs 0 a b
  have hm := modIs 0 a b
  rw [if_pos ⟨ha, hb⟩] at hd hm
  by_cases h0 : b = 0
  · subst h0
    simp only [if_true] at hd hm
    exact (nought x y a w ⟨hx⟩ ⟨hy⟩ ⟨hd⟩ ⟨hm⟩).mono fun e w' h => ⟨h.1, h.2.below⟩
  · simp only [if_neg h0] at hd hm
    obtain ⟨g1, g2, g3, g4, g5⟩ := floFacts a b h0 ha hb
    generalize w31 (flo a b) = q at *
    generalize a - flo a b * b = r at *
    have hw : word_Wrap.f (wrap64 (wrap64 (q * b) + r)) = some a := by rw [wrapIs, g4]
    have b0 : (b == 0) = false := beq_eq_false_iff_ne.mpr h0
    have b1 : (b != 0) = true := bne_iff_ne.mpr h0
    have aa : (a == a) = true := beq_self_eq_true a
    by_cases hp : 0 < b
    · have b2 : decide (b < 0) = false := decide_eq_false (by omega)
      have b3 : decide (0 < b) = true := decide_eq_true hp
      have r3 : decide (b ≤ r) = false := decide_eq_false (by have := g2 hp; omega)
      have f : (wrap64 (wrap64 (q * b) + r) == a) = true := beq_iff_eq.mpr (g5.resolve_right (fun h => by omega))
      by_cases hr : r = 0
      · exact (wayPosZero x y a b q r w ⟨hx⟩ ⟨hy⟩ ⟨hd⟩ ⟨hm⟩ ⟨hw⟩ b0 b1 aa (beq_iff_eq.mpr hr) (bne_eq_false_iff_eq.mpr hr) b2 b3 r3 f).mono fun e w' h => ⟨h.1, h.2.below⟩
      · exact (wayPosNonzero x y a b q r w ⟨hx⟩ ⟨hy⟩ ⟨hd⟩ ⟨hm⟩ ⟨hw⟩ b0 b1 aa (beq_eq_false_iff_ne.mpr hr) (bne_iff_ne.mpr hr) (decide_eq_false (by have := g1 hr; omega)) b2 b3 r3 f).mono fun e w' h => ⟨h.1, h.2.below⟩
    · have hn : b < 0 := by omega
      have b2 : decide (b < 0) = true := decide_eq_true hn
      have b3 : decide (0 < b) = false := decide_eq_false hp
      have r3 : decide (r ≤ b) = false := decide_eq_false (by have := g3 hn; omega)
      by_cases hr : r = 0
      · by_cases f : wrap64 (wrap64 (q * b) + r) = a
        · exact (wayNegZero x y a b q r w ⟨hx⟩ ⟨hy⟩ ⟨hd⟩ ⟨hm⟩ ⟨hw⟩ b0 b1 aa (beq_iff_eq.mpr hr) (bne_eq_false_iff_eq.mpr hr) b2 b3 r3 (beq_iff_eq.mpr f)).mono fun e w' h => ⟨h.1, h.2.below⟩
        · obtain ⟨e1, e2⟩ := g5.resolve_left f
          exact (wayLeast x y a b q r w ⟨hx⟩ ⟨hy⟩ ⟨hd⟩ ⟨hm⟩ ⟨hw⟩ b0 b1 aa (beq_iff_eq.mpr hr) (bne_eq_false_iff_eq.mpr hr) b2 b3 r3 (beq_eq_false_iff_ne.mpr f) (beq_iff_eq.mpr e1) (beq_iff_eq.mpr e2)).mono fun e w' h => ⟨h.1, h.2.below⟩
      · have f : (wrap64 (wrap64 (q * b) + r) == a) = true := beq_iff_eq.mpr (g5.resolve_right (fun h => by have := g1 hr; omega))
        exact (wayNegNonzero x y a b q r w ⟨hx⟩ ⟨hy⟩ ⟨hd⟩ ⟨hm⟩ ⟨hw⟩ b0 b1 aa (beq_eq_false_iff_ne.mpr hr) (bne_iff_ne.mpr hr) (decide_eq_true (by have := g1 hr; omega)) b2 b3 r3 f).mono fun e w' h => ⟨h.1, h.2.below⟩
end Go.Proofs.Ytcnjdgafemgaeaa.Floor
