/- The program's reading of tokens, walked: each function's answer in plain words. Conditions: those that each theorem states. -/
import Derived.Test.YtjibdaigclgmhaaGreatDoorLexK
import Derived.Test.YtjibdaigclgmhaaGreatDoorLexPPB
namespace Go.Proofs.YtjibdaigclgmhaaGreatDoor.LexW
open Go.RowKit Go.Maps Go.Proofs.YtjibdaigclgmhaaGreatDoor.Lex Go.Proofs.YtjibdaigclgmhaaGreatDoor.PLexPrints Go.Proofs.YtjibdaigclgmhaaGreatDoorW.PrintWords Go.Proofs.YtjibdaigclgmhaaGreatDoorW.PrintLast Go.Proofs.YtjibdaigclgmhaaGreatDoorW.PrintMore
attribute [local go_sem] max2_int min2_int max_two min_two max_three min_three max_four min_four
set_option linter.unusedVariables false
set_option linter.unusedSimpArgs false
theorem bt_nat (s : ByteArray) (i : Nat) (h : i < s.size) : bt s (i : Int) = ((s[i]'h).toNat : Int) := by
  have := bt_at s (i : Int) (by rw [Int.toNat_natCast]; exact h)
  rw [← this]
  simp
theorem ref_op20 (c : UInt8) : kilnref7_operator.f 20 (c.toNat : Int) = some (isG c) := by
  have key : ∀ c : Fin 256, kilnref7_operator.f 20 ((c.val : Nat) : Int) = some (isG (UInt8.ofNat c.val)) := by decide +kernel
  have := key ⟨c.toNat, c.toNat_lt⟩
  simpa using this
theorem ref_op19 (c : UInt8) : kilnref7_operator.f 19 (c.toNat : Int) = some (isG c) := by
  have key : ∀ c : Fin 256, kilnref7_operator.f 19 ((c.val : Nat) : Int) = some (isG (UInt8.ofNat c.val)) := by decide +kernel
  have := key ⟨c.toNat, c.toNat_lt⟩
  simpa using this
theorem ref_letter (c : UInt8) : kilnref7_letter.f (c.toNat : Int) = some (isL c) := by
  have key : ∀ c : Fin 256, kilnref7_letter.f ((c.val : Nat) : Int) = some (isL (UInt8.ofNat c.val)) := by decide +kernel
  have := key ⟨c.toNat, c.toNat_lt⟩
  simpa using this
theorem ref_digit (c : UInt8) : kilnref7_digit.f (c.toNat : Int) = some (isD c) := by
  have key : ∀ c : Fin 256, kilnref7_digit.f ((c.val : Nat) : Int) = some (isD (UInt8.ofNat c.val)) := by decide +kernel
  have := key ⟨c.toNat, c.toNat_lt⟩
  simpa using this
theorem ref_name_l0 (s : ByteArray) (hs : s.size ≤ 281474976710656) : ∀ (k p : Nat), p ≤ s.size → s.size - p < k → kilnref7_name.l0 k s (p : Int) = some ((p + (((bl s).drop p).takeWhile alnum).length : Nat) : Int) := by
  intro k
  induction k with
  | zero => intro p h1 h2; omega
  | succ k ih =>
    intro p h1 h2
    rw [kilnref7_name.l0]
    by_cases hp : p < s.size
    · have hw : wrap64 ((p : Int) + 1) = ((p + 1 : Nat) : Int) := by unfold wrap64; omega
      rw [if_pos (by omega), if_pos (by omega), bt_nat s p hp, ref_letter, drop_at s p hp, hw]
      simp only [Option.bind_some, ref_digit, List.takeWhile_cons]
      by_cases hl : isL (s[p]'hp) = true
      · rw [if_pos hl, if_pos (show alnum (s[p]'hp) = true by unfold alnum; rw [hl]; rfl), ih (p + 1) (by omega) (by omega), List.length_cons]
        congr 2; omega
      · rw [if_neg hl]
        by_cases hd : isD (s[p]'hp) = true
        · rw [if_pos hd, if_pos (show alnum (s[p]'hp) = true by unfold alnum; rw [hd, Bool.or_true]), ih (p + 1) (by omega) (by omega), List.length_cons]
          congr 2; omega
        · rw [if_neg hd, if_neg (show ¬ alnum (s[p]'hp) = true by unfold alnum; simp [hl, hd])]
          simp
    · rw [if_neg (by omega), List.drop_eq_nil_of_le (by rw [bl_len]; omega)]
      simp
theorem ref_name (s : ByteArray) (hs : s.size ≤ 281474976710656) (p : Nat) (hp : p ≤ s.size) : kilnref7_name.f (s.size + 3) s (p : Int) = some ((p + nameLen ((bl s).drop p) : Nat) : Int) := by
  unfold kilnref7_name.f
  by_cases hlt : p < s.size
  · rw [if_neg (by omega), if_pos (by omega), if_pos (by omega), bt_nat s p hlt, ref_letter, drop_at s p hlt, nameLen_cons]
    simp only [Option.bind_some, kilnref7_name.j0]
    cases hl : isL (s[p]'hlt) with
    | true =>
      simp only [Bool.not_true, Bool.false_eq_true, if_false, if_true]
      rw [ref_name_l0 s hs (s.size + 2) p hp (by omega), drop_at s p hlt, List.takeWhile_cons]
      rw [if_pos (show alnum (s[p]'hlt) = true by unfold alnum; rw [hl]; rfl), List.length_cons]
    | false => simp
  · rw [if_pos (by omega), List.drop_eq_nil_of_le (by rw [bl_len]; omega)]
    simp [kilnref7_name.j0, nameLen]
theorem refName_calls (s : ByteArray) (hs : s.size ≤ 281474976710656) (p : Nat) (hp : p ≤ s.size) (w : World) : Calls Tryz.prog 71 #[.string s, .int .i64 (p : Int)] w fun e w' => e = .returned (.int .i64 ((p + nameLen ((bl s).drop p) : Nat) : Int)) ∧ Below w.heap.size w w' :=
  (kilnref7_name.calls _ s _ _ w (ref_name s hs p hp)).mono fun e w' h => ⟨h.1, below_drawn h.2⟩
theorem refOp_calls (c : UInt8) (w : World) : Calls Tryz.prog 77 #[.int .u8 (c.toNat : Int)] w fun e w' => e = .returned (.bool (isG c)) ∧ Below w.heap.size w w' :=
  (kilnref7_operator.calls 20 _ _ w (ref_op20 c)).mono fun e w' h => ⟨h.1, below_drawn h.2⟩
theorem ref_is (s : ByteArray) (p : Nat) (c : UInt8) : kilnref7_is.f s (p : Int) (c.toNat : Int) = some ((bl s)[p]? == some c) := by
  unfold kilnref7_is.f
  by_cases h : p < s.size
  · rw [if_pos (by omega), if_pos (by omega), bt_nat s p h, bl_get s p h]
    congr 1
    have := byte_eq (s[p]'h) c.toNat c.toNat_lt
    rw [this]
    simp
  · rw [if_neg (by omega), List.getElem?_eq_none (by rw [bl_len]; omega)]
    rfl
theorem refIs_calls (s : ByteArray) (p : Nat) (c : UInt8) (w : World) : Calls Tryz.prog 75 #[.string s, .int .i64 (p : Int), .int .u8 (c.toNat : Int)] w fun e w' => e = .returned (.bool ((bl s)[p]? == some c)) ∧ Below w.heap.size w w' :=
  (kilnref7_is.calls _ _ _ _ w (ref_is s p c)).mono fun e w' h => ⟨h.1, below_drawn h.2⟩
theorem ref_signs (s : ByteArray) (hs : s.size ≤ 281474976710656) (p : Nat) (hp : p ≤ s.size) : kilnref7_signs.f 20 s (p : Int) = some ((p + signsLen ((bl s).drop p) : Nat) : Int) := by
  unfold kilnref7_signs.f
  by_cases hlt : p < s.size
  · have hw1 : wrap64 ((p : Int) + 1) = ((p + 1 : Nat) : Int) := by unfold wrap64; omega
    have hw2 : wrap64 ((p : Int) + 2) = ((p + 2 : Nat) : Int) := by unfold wrap64; omega
    rw [if_neg (by omega), if_pos (by omega), if_pos (by omega), bt_nat s p hlt, ref_op20, drop_at s p hlt]
    simp only [Option.bind_some, kilnref7_signs.j0, hw1, hw2]
    cases hg : isG (s[p]'hlt) with
    | false => simp [signsLen, hg]
    | true =>
      simp only [Bool.not_true, Bool.false_eq_true, if_false]
      by_cases hlt2 : p + 1 < s.size
      · rw [if_pos (by omega), if_pos (by omega), bt_nat s (p + 1) hlt2, ref_op19, drop_at s (p + 1) hlt2]
        simp only [Option.bind_some, signsLen, hg, if_true]
        cases hg2 : isG (s[p + 1]'hlt2) with
        | false => simp
        | true =>
          rw [if_pos rfl, if_pos (by omega), if_pos (by omega), bt_nat s p hlt]
          have h1 : (((s[p]'hlt).toNat : Int) = 45) ↔ s[p]'hlt = 45 := by
            constructor
            · intro h; exact UInt8.toNat_inj.1 (by have : (45 : UInt8).toNat = 45 := rfl; omega)
            · intro h; rw [h]; rfl
          have h2 : (((s[p + 1]'hlt2).toNat : Int) = 45) ↔ s[p + 1]'hlt2 = 45 := by
            constructor
            · intro h; exact UInt8.toNat_inj.1 (by have : (45 : UInt8).toNat = 45 := rfl; omega)
            · intro h; rw [h]; rfl
          by_cases e1 : s[p]'hlt = 45
          · rw [if_pos (h1.2 e1)]; simp [e1]
          · rw [if_neg (fun h => e1 (h1.1 h))]
            by_cases e2 : s[p + 1]'hlt2 = 45
            · rw [if_pos (h2.2 e2)]; simp [e1, e2]
            · rw [if_neg (fun h => e2 (h2.1 h))]; simp [e1, e2]
      · rw [if_neg (by omega), List.drop_eq_nil_of_le (by rw [bl_len]; omega)]
        simp [signsLen, hg]
  · rw [if_pos (by omega), List.drop_eq_nil_of_le (by rw [bl_len]; omega)]
    simp [kilnref7_signs.j0, signsLen]
theorem refSigns_calls (s : ByteArray) (hs : s.size ≤ 281474976710656) (p : Nat) (hp : p ≤ s.size) (w : World) : Calls Tryz.prog 78 #[.string s, .int .i64 (p : Int)] w fun e w' => e = .returned (.int .i64 ((p + signsLen ((bl s).drop p) : Nat) : Int)) ∧ Below w.heap.size w w' :=
  (kilnref7_signs.calls _ s _ _ w (ref_signs s hs p hp)).mono fun e w' h => ⟨h.1, below_drawn h.2⟩
theorem toList_eq (s : ByteArray) : s.toList = bl s := ByteArray.toList_eq s
end Go.Proofs.YtjibdaigclgmhaaGreatDoor.LexW
