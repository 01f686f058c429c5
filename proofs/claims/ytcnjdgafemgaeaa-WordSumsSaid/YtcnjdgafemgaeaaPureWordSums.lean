/- The statement WordSums over numbers alone: sums, differences, products, quotients and rests of any two integers, as the program's package word answers them, are what the reference kilnref1 answers, errors too.
Conditions: none. -/
import Derived.Test.YtcnjdgafemgaeaaPWordSumsx2
namespace Go.Proofs.Ytcnjdgafemgaeaa.Pure
open Go.RowKit Go.Proofs.Ytcnjdgafemgaeaa.PWordSums Go.Proofs.YtcnjdgafemgaeaaW.PrintWords Go.Proofs.YtcnjdgafemgaeaaW.PrintLast

/-- a number brought into 31 bits, with its sign -/
def w31 (n : Int) : Int := (n + 1073741824) % 2147483648 - 1073741824
theorem wrapIs (n : Int) : word_Wrap.f n = some (w31 n) := by
  unfold word_Wrap.f w31 wrap64; congr 1; omega
theorem tmodIs (n : Int) : Int.tmod n 2147483648 = if n < 0 then -((-n) % 2147483648) else n % 2147483648 := by
  split
  · rename_i h
    have e : n.tmod 2147483648 = -((-n).tmod 2147483648) := by rw [Int.neg_tmod]; simp
    rw [e, Int.tmod_eq_emod_of_nonneg (by omega)]
  · rw [Int.tmod_eq_emod_of_nonneg (by omega)]
theorem refWrapIs (n : Int) : kilnref1_Wrap.f n = some (w31 n) := by
  unfold kilnref1_Wrap.f kilnref1_low.f w31
  rw [tmodIs]
  split <;> split <;> simp only [Option.bind_some, wrap64] <;> split <;> (congr 1; omega)

def inR (n : Int) : Prop := -1073741824 ≤ n ∧ n ≤ 1073741823
instance (n : Int) : Decidable (inR n) := by unfold inR; infer_instance
theorem inIs (n : Int) : word_in.f n = some (decide (inR n)) := by
  unfold word_in.f inR; by_cases h : n ≥ -1073741824 <;> simp [h] <;> omega
theorem refInIs (n : Int) : kilnref1_In.f n = some (decide (inR n)) := by
  unfold kilnref1_In.f inR; by_cases h : n ≥ -1073741824 <;> simp [h] <;> omega

theorem wrapWrap (n : Int) : w31 (wrap64 n) = w31 n := by unfold w31 wrap64; omega

theorem doneIs (a b n : Int) : word_done.f a b n = some (if inR a ∧ inR b then (w31 n, 0) else (0, 1)) := by
  unfold word_done.f; simp only [inIs, wrapIs, Option.bind_some, decide_eq_true_eq]
  by_cases h : inR a <;> by_cases g : inR b <;> simp [h, g]
theorem refAddIs (a b : Int) : kilnref1_Add.f a b = word_Add.f a b := by
  unfold kilnref1_Add.f word_Add.f; simp only [doneIs, refInIs, refWrapIs, Option.bind_some, decide_eq_true_eq]
  by_cases h : inR a <;> by_cases g : inR b <;> simp [h, g]
theorem refSubIs (a b : Int) : kilnref1_Sub.f a b = word_Sub.f a b := by
  unfold kilnref1_Sub.f word_Sub.f; simp only [doneIs, refInIs, refWrapIs, Option.bind_some, decide_eq_true_eq]
  by_cases h : inR a <;> by_cases g : inR b <;> simp [h, g]
theorem refMulIs (a b : Int) : kilnref1_Mul.f a b = word_Mul.f a b := by
  unfold kilnref1_Mul.f word_Mul.f; simp only [doneIs, refInIs, refWrapIs, Option.bind_some, decide_eq_true_eq]
  by_cases h : inR a <;> by_cases g : inR b <;> simp [h, g]


/-- what the quotient and the rest of a division toward nought obey -/
theorem divFacts (a b : Int) : a.tdiv b * b + a.tmod b = a ∧ (0 ≤ a → 0 ≤ a.tmod b) ∧ (a ≤ 0 → a.tmod b ≤ 0) ∧ (0 < b → -b < a.tmod b ∧ a.tmod b < b) ∧ (b < 0 → b < a.tmod b ∧ a.tmod b < -b) ∧ (a.tdiv b).natAbs ≤ a.natAbs := by
  refine ⟨?_, Int.tmod_nonneg b, ?_, fun h => ⟨Int.lt_tmod_of_pos a h, Int.tmod_lt_of_pos a h⟩, fun h => ?_, Int.natAbs_tdiv_le_natAbs a b⟩
  · have := Int.mul_tdiv_add_tmod a b; rw [Int.mul_comm] at this; exact this
  · intro h
    have := Int.tmod_nonneg (a := -a) b (by omega)
    rw [Int.neg_tmod] at this; omega
  · have h1 := Int.lt_tmod_of_pos a (b := -b) (by omega)
    have h2 := Int.tmod_lt_of_pos a (b := -b) (by omega)
    rw [Int.tmod_neg] at h1 h2; omega

/-- the quotient, rounded down -/
def flo (a b : Int) : Int := if a.tmod b = 0 then a.tdiv b else if ((decide (a.tmod b < 0)) != (decide (b < 0))) = true then a.tdiv b - 1 else a.tdiv b
theorem wrap64_is {n : Int} (h0 : -9223372036854775808 ≤ n) (h1 : n ≤ 9223372036854775807) : wrap64 n = n := by unfold wrap64; omega

theorem dividedIs (k : Nat) (a b : Int) : word_divided.f (k + 1) a b = some (if inR a ∧ inR b then (if b = 0 then (0, 0, 11) else (w31 (flo a b), a - flo a b * b, 0)) else (0, 0, 1)) := by
  unfold word_divided.f
  simp only [inIs, Option.bind_some, decide_eq_true_eq]
  by_cases h : inR a
  · by_cases g : inR b
    · simp only [h, g, if_true, decide_true, Bool.not_true, and_self]
      simp only [word_divided.j0, Bool.false_eq_true, if_false, wrapIs, Option.bind_some]
      by_cases hb : b = 0
      · simp [hb]
      · rw [if_neg hb, if_neg hb]
        obtain ⟨f1, f2, f3, f4, f5, f6⟩ := divFacts a b
        unfold inR at h g
        have e1 : wrap64 (a.tdiv b) = a.tdiv b := wrap64_is (by omega) (by omega)
        have e2 : wrap64 (a.tdiv b - 1) = a.tdiv b - 1 := wrap64_is (by omega) (by omega)
        have e3 : wrap64 (a.tmod b + b) = a.tmod b + b := wrap64_is (by omega) (by omega)
        rw [e1, e2, e3]
        unfold flo
        by_cases c : a.tmod b = 0
        · simp only [if_pos c]; congr 3; omega
        · simp only [if_neg c]
          split
          · congr 3; rw [Int.sub_mul]; omega
          · congr 3; omega
    · simp [h, g, word_divided.j0]
  · simp [h, word_divided.j0]

theorem flooredIs (a b : Int) (hb : b ≠ 0) (ha : inR a) : kilnref1_floored.f a b = some (flo a b) := by
  obtain ⟨f1, f2, f3, f4, f5, f6⟩ := divFacts a b
  unfold inR at ha
  have e1 : wrap64 (a.tdiv b) = a.tdiv b := wrap64_is (by omega) (by omega)
  have e2 : wrap64 (a.tdiv b - 1) = a.tdiv b - 1 := wrap64_is (by omega) (by omega)
  unfold kilnref1_floored.f flo
  rw [if_neg hb, e1, e2]
  by_cases c : a.tmod b = 0
  · simp only [if_pos c]
  · simp only [if_neg c]
    have hs : decide (a < 0) = decide (a.tmod b < 0) := by
      by_cases n : a < 0
      · have := f3 (by omega); simp [n]; omega
      · have := f2 (by omega); simp [n]; omega
    rw [hs]
    split <;> rfl

theorem divIs (k : Nat) (a b : Int) : word_Div.f (k + 1) a b = some (if inR a ∧ inR b then (if b = 0 then (0, 11) else (w31 (flo a b), 0)) else (0, 1)) := by
  unfold word_Div.f; rw [dividedIs]; simp only [Option.bind_some]; split
  · split <;> rfl
  · rfl
theorem modIs (k : Nat) (a b : Int) : word_Mod.f (k + 1) a b = some (if inR a ∧ inR b then (if b = 0 then (0, 11) else (a - flo a b * b, 0)) else (0, 1)) := by
  unfold word_Mod.f; rw [dividedIs]; simp only [Option.bind_some]; split
  · split <;> rfl
  · rfl
theorem wrapSub (a x : Int) : wrap64 (a - wrap64 x) = wrap64 (a - x) := by unfold wrap64; omega
theorem refDivIs (k : Nat) (a b : Int) : kilnref1_Div.f (k + 1) a b = word_Div.f (k + 1) a b := by
  rw [divIs]; unfold kilnref1_Div.f
  simp only [refInIs, Option.bind_some, decide_eq_true_eq]
  by_cases h : inR a
  · by_cases g : inR b
    · simp only [h, g, if_true, decide_true, Bool.not_true, and_self, kilnref1_Div.j0, Bool.false_eq_true, if_false]
      by_cases hb : b = 0
      · simp [hb]
      · rw [if_neg hb, if_neg hb, flooredIs a b hb h]; simp only [Option.bind_some, refWrapIs]
    · simp [h, g, kilnref1_Div.j0]
  · simp [h, kilnref1_Div.j0]
theorem flo_rest (a b : Int) (hb : b ≠ 0) (h : inR a) (g : inR b) : -2147483648 ≤ a - flo a b * b ∧ a - flo a b * b ≤ 2147483648 := by
  obtain ⟨f1, f2, f3, f4, f5, f6⟩ := divFacts a b
  unfold inR at h g
  unfold flo
  by_cases c : a.tmod b = 0
  · simp only [if_pos c]; omega
  · simp only [if_neg c]
    split
    · rw [Int.sub_mul]; omega
    · omega
theorem refModIs (k : Nat) (a b : Int) : kilnref1_Mod.f (k + 1) a b = word_Mod.f (k + 1) a b := by
  rw [modIs]; unfold kilnref1_Mod.f
  simp only [refInIs, Option.bind_some, decide_eq_true_eq]
  by_cases h : inR a
  · by_cases g : inR b
    · simp only [h, g, if_true, decide_true, Bool.not_true, and_self, kilnref1_Mod.j0, Bool.false_eq_true, if_false]
      by_cases hb : b = 0
      · simp [hb]
      · rw [if_neg hb, if_neg hb, flooredIs a b hb h]; simp only [Option.bind_some]
        have r := flo_rest a b hb h g
        rw [wrapSub, wrap64_is (by omega) (by omega)]
    · simp [h, g, kilnref1_Mod.j0]
  · simp [h, kilnref1_Mod.j0]

theorem addSome (a b : Int) : ∃ p, word_Add.f a b = some p := by unfold word_Add.f; rw [doneIs]; exact ⟨_, rfl⟩
theorem subSome (a b : Int) : ∃ p, word_Sub.f a b = some p := by unfold word_Sub.f; rw [doneIs]; exact ⟨_, rfl⟩
theorem mulSome (a b : Int) : ∃ p, word_Mul.f a b = some p := by unfold word_Mul.f; rw [doneIs]; exact ⟨_, rfl⟩

theorem WordSums : kilnlaw1_WordSums.Pure := by
  intro a b _ _
  refine ⟨2, ?_⟩
  obtain ⟨⟨s, e1⟩, h1⟩ := addSome a b
  obtain ⟨⟨d, e2⟩, h2⟩ := subSome a b
  obtain ⟨⟨m, e3⟩, h3⟩ := mulSome a b
  obtain ⟨⟨q, e4⟩, h4⟩ : ∃ p, word_Div.f 1 a b = some p := ⟨_, divIs 0 a b⟩
  obtain ⟨⟨r, e5⟩, h5⟩ : ∃ p, word_Mod.f 1 a b = some p := ⟨_, modIs 0 a b⟩
  unfold kilnlaw1_WordSums.f
  rw [refAddIs, refSubIs, refMulIs, h1, h2, h3]
  simp only [Option.bind_some, if_true, kilnlaw1_num.f, bne_self_eq_false, kilnlaw1_WordSums.j0, Bool.false_eq_true, if_false, refDivIs, refModIs, h4, h5, beq_self_eq_true]
end Go.Proofs.Ytcnjdgafemgaeaa.Pure
