/- beyond (the print's lines), the bounds that it gives, Print's answer by cases, cutsTo. Conditions: those that each theorem states. -/
import Derived.Test.YtjibdaigclgmhaaGreatDoorLexDD
import Derived.Lib.ItoaLen
namespace Go.Proofs.YtjibdaigclgmhaaGreatDoor.LexW
open Go.RowKit Go.Proofs.YtjibdaigclgmhaaGreatDoor.Lex Go.Proofs.YtjibdaigclgmhaaGreatDoor.Facts Go.Proofs.YtjibdaigclgmhaaGreatDoor.PLexPrints Go.Proofs.YtjibdaigclgmhaaGreatDoorW.PrintWords Go.Proofs.YtjibdaigclgmhaaGreatDoorW.PrintLast Go.Proofs.YtjibdaigclgmhaaGreatDoorW.PrintMore
attribute [local go_sem] max2_int min2_int max_two min_two max_three min_three max_four min_four
set_option linter.unusedVariables false
set_option linter.unusedSimpArgs false
def wt (X : List S28) : Nat := (X.map fun x => 24 + x.f1.size).sum
theorem wt_cons (x : S28) (X : List S28) : wt (x :: X) = 24 + x.f1.size + wt X := by unfold wt; simp
theorem beyond_l0 (X : List S28) (hb : X.length ≤ 9223372036854775807) : ∀ (k i acc : Nat), i ≤ X.length → X.length - i < k → acc ≤ 268435456 → kilnlaw7_beyond.l0 k X (acc : Int) (i : Int) = some (decide (268435456 < acc + wt (X.drop i)))
  | 0, i, acc, hi, hk, ha => by omega
  | k + 1, i, acc, hi, hk, ha => by
    rw [kilnlaw7_beyond.l0]
    by_cases h : i < X.length
    · have hd : X.drop i = X[i] :: X.drop (i + 1) := List.drop_eq_getElem_cons h
      have hr : rd_T28 X (i : Int) = X[i] := rd_at X i h
      have w1 : wrap64 ((acc : Int) + 24) = (acc : Int) + 24 := by unfold wrap64; omega
      have w2 : wrap64 (268435456 - ((acc : Int) + 24)) = 268435456 - ((acc : Int) + 24) := by unfold wrap64; omega
      have w4 : wrap64 ((i : Int) + 1) = ((i + 1 : Nat) : Int) := by unfold wrap64; omega
      rw [if_pos (by omega), w1, hr, hd, wt_cons]
      by_cases h1 : acc + 24 > 268435456
      · rw [if_pos (by omega), decide_eq_true (by omega)]
      · rw [if_neg (by omega), if_pos (by omega), w2]
        by_cases h2 : acc + 24 + X[i].f1.size > 268435456
        · rw [if_pos (by omega), decide_eq_true (by omega)]
        · rw [if_neg (by omega)]
          have w3 : wrap64 ((acc : Int) + 24 + (X[i].f1.size : Int)) = ((acc + 24 + X[i].f1.size : Nat) : Int) := by unfold wrap64; omega
          rw [w3, w4, beyond_l0 X hb k (i + 1) (acc + 24 + X[i].f1.size) (by omega) (by omega) (by omega)]
          congr 2
          apply propext
          constructor <;> intro h <;> omega
    · rw [if_neg (by omega), show X.drop i = [] from List.drop_eq_nil_of_le (by omega), decide_eq_false (by simp [wt]; omega)]
theorem beyond_calls (X : List S28) (A : Option Addr) (c : Nat) (w : World) (hX : Kd.C k28 w A X.length X) (hc : X.length ≤ c) (hb : X.length ≤ 9223372036854775807) : Calls Tryz.prog 4 #[.slice A X.length c] w fun e w' => e = .returned (.bool (decide (268435456 < wt X))) ∧ Drawn0 w w' := by
  refine kilnlaw7_beyond.calls (X.length + 1) A c X _ w hX hc ?_
  have := beyond_l0 X hb (X.length + 1) 0 0 (Nat.zero_le _) (by omega) (by omega)
  rw [List.drop_zero, Nat.zero_add] at this
  exact this
structure Bd (X : List S28) : Prop where
  sum : wt X ≤ 268435456
  num : ∀ x ∈ X, -9223372036854775808 ≤ x.f2 ∧ x.f2 ≤ 9223372036854775807
theorem wt_mem {X : List S28} {x : S28} (h : x ∈ X) : 24 + x.f1.size ≤ wt X := by
  induction X with
  | nil => cases h
  | cons y r ih =>
    rw [wt_cons]
    rcases List.mem_cons.1 h with rfl | h
    · omega
    · have := ih h; omega
theorem wt_len (X : List S28) : 24 * X.length ≤ wt X := by
  induction X with
  | nil => simp [wt]
  | cons y r ih => rw [wt_cons, List.length_cons]; omega
theorem spB_len (x : S28) (h0 : -9223372036854775808 ≤ x.f2) (h1 : x.f2 ≤ 9223372036854775807) : (spB x).size + 1 ≤ 2 * (24 + x.f1.size) := by
  have hd := dbl_len (bl x.f1)
  have hi := Lib.itoa_length_le x.f2 h0 h1
  have hs := bl_len x.f1
  have hm : (markCh x.f0).length ≤ 1 := by unfold markCh; repeat' split
                                           all_goals simp
  have key : (spellL x.f0 (bl x.f1) x.f2).length + 1 ≤ 2 * (24 + x.f1.size) := by
    unfold spellL
    repeat' split
    all_goals try simp
    all_goals omega
  have : (spB x).size = (spellL x.f0 (bl x.f1) x.f2).length := by rw [← bl_len]; rfl
  omega
theorem join_len : ∀ ls : List (List UInt8), (Lib.join ls [32]).length ≤ (ls.map (fun l => l.length + 1)).sum
  | [] => by simp [Lib.join_nil]
  | [a] => by rw [Lib.join_one]; simp
  | a :: b :: r => by
    have := join_len (b :: r)
    have e : Lib.join (a :: b :: r) [32] = a ++ 32 :: Lib.join (b :: r) [32] := by
      unfold Lib.join; simp [List.intercalate]
    rw [e, List.map_cons, List.sum_cons, List.length_append, List.length_cons]
    omega
theorem spB_sum : ∀ {X : List S28}, (∀ x ∈ X, -9223372036854775808 ≤ x.f2 ∧ x.f2 ≤ 9223372036854775807) → ((X.map fun x => bl (spB x)).map (fun l => l.length + 1)).sum ≤ 2 * wt X
  | [], _ => by simp
  | x :: X, h => by
    have h1 := spB_len x (h x List.mem_cons_self).1 (h x List.mem_cons_self).2
    have h2 := spB_sum (X := X) (fun y hy => h y (List.mem_cons_of_mem _ hy))
    rw [List.map_cons, List.map_cons, List.sum_cons, wt_cons, bl_len]
    omega
theorem wt_take (X : List S28) (m : Nat) : wt (X.take m) ≤ wt X := by
  induction X generalizing m with
  | nil => simp
  | cons x r ih =>
    cases m with
    | zero => simp [wt]
    | succ m => rw [List.take_succ_cons, wt_cons, wt_cons]; have := ih m; omega
/-- what Print takes -/
def PrintOk (X : List S28) (Y : List S28) (z : S28) : Prop := X = Y ++ [z] ∧ z.f0 = 18 ∧ bl z.f1 = [] ∧ z.f2 = 0 ∧ ∀ t ∈ Y.map tk, may t = true
def PPost (X : List S28) (v : Value) : Prop := (∃ Y z, PrintOk X Y z ∧ v = .tuple #[.string (sB (joinW (Y.map tk))), .int .i64 0]) ∨ ((∀ Y z, ¬ PrintOk X Y z) ∧ v = .tuple #[.string ⟨#[]⟩, .int .i64 1])
theorem print_calls (X : List S28) (hB : Bd X) (A : Option Addr) (c : Nat) (w : World) (E : PEnv w) (hC : Kd.C k28 w A X.length X) (hc : X.length ≤ c) : Calls Tryz.prog 9 #[.slice A X.length c] w fun e w' => (∃ v, e = .returned v ∧ PPost X v) ∧ Below w.heap.size w w' := by
  by_cases hX : X = []
  · subst hX
    refine (print_none A c w).mono fun e w' ⟨he, hb⟩ => ⟨⟨_, he, .inr ⟨fun Y z h => ?_, rfl⟩⟩, hb⟩
    have := congrArg List.length h.1
    simp at this
  · obtain ⟨Y, z, rfl⟩ : ∃ Y z, X = Y ++ [z] := ⟨X.dropLast, X.getLast hX, (List.dropLast_concat_getLast hX).symm⟩
    have hl : (Y ++ [z]).length = Y.length + 1 := by simp
    have hlen := wt_len (Y ++ [z])
    have hs := hB.sum
    have hz : (Y ++ [z])[Y.length]? = some z := by simp
    have inj : ∀ {Y2 z2}, PrintOk (Y ++ [z]) Y2 z2 → Y2 = Y ∧ z2 = z := fun {Y2 z2} h => by
      have := h.1
      obtain ⟨h1, h2⟩ := List.append_inj' this rfl
      exact ⟨h1.symm, (List.cons.inj h2).1.symm⟩
    by_cases hst : z.f0 = 18 ∧ bl z.f1 = [] ∧ z.f2 = 0
    · have htk : (Y ++ [z]).take Y.length = Y := by simp
      by_cases hm : ∀ t ∈ Y.map tk, may t = true
      · refine (print_main (Y ++ [z]) Y.length hl (by omega) z hz A c w hC hc false ⟨rfl⟩ hst E (fun i x hx => ?_) ?_ (.tuple #[.string (sB (joinW (Y.map tk))), .int .i64 0]) ⟨fun _ => by rw [htk]⟩ ⟨fun ⟨t, ht, hf⟩ => ?_⟩).mono fun e w' ⟨he, hb⟩ => ⟨⟨_, he, .inl ⟨Y, z, ⟨rfl, hst.1, hst.2.1, hst.2.2, hm⟩, rfl⟩⟩, hb⟩
        · have hx := List.mem_of_getElem? hx
          have h1 := wt_mem hx
          have h2 := hB.num x hx
          have h3 := spB_len x h2.1 h2.2
          exact ⟨by omega, h2.1, h2.2, by omega⟩
        · have h1 := join_len (((Y ++ [z]).take Y.length).map fun x => bl (spB x))
          have h2 := spB_sum (X := (Y ++ [z]).take Y.length) (fun x hx => hB.num x (List.mem_of_mem_take hx))
          have h3 := wt_take (Y ++ [z]) Y.length
          omega
        · rw [htk] at ht; rw [hm t ht] at hf; cases hf
      · have hm2 : ∃ t ∈ Y.map tk, may t = false := by
          by_cases h : ∃ t ∈ Y.map tk, may t = false
          · exact h
          · exact absurd (fun t ht => by
              cases hc : may t with
              | true => rfl
              | false => exact absurd ⟨t, ht, hc⟩ h) hm
        refine (print_main (Y ++ [z]) Y.length hl (by omega) z hz A c w hC hc false ⟨rfl⟩ hst E (fun i x hx => ?_) ?_ (.tuple #[.string ⟨#[]⟩, .int .i64 1]) ⟨fun h => ?_⟩ ⟨fun _ => rfl⟩).mono fun e w' ⟨he, hb⟩ => ⟨⟨_, he, .inr ⟨fun Y2 z2 h => ?_, rfl⟩⟩, hb⟩
        · have hx := List.mem_of_getElem? hx
          have h1 := wt_mem hx
          have h2 := hB.num x hx
          have h3 := spB_len x h2.1 h2.2
          exact ⟨by omega, h2.1, h2.2, by omega⟩
        · have h1 := join_len (((Y ++ [z]).take Y.length).map fun x => bl (spB x))
          have h2 := spB_sum (X := (Y ++ [z]).take Y.length) (fun x hx => hB.num x (List.mem_of_mem_take hx))
          have h3 := wt_take (Y ++ [z]) Y.length
          omega
        · rw [htk] at h; exact absurd h hm
        · obtain ⟨rfl, rfl⟩ := inj h
          exact hm h.2.2.2.2
    · refine (print_nostop (Y ++ [z]) Y.length hl (by omega) z hz A c w hC hc true ⟨rfl⟩ hst).mono fun e w' ⟨he, hb⟩ => ⟨⟨_, he, .inr ⟨fun Y2 z2 h => ?_, rfl⟩⟩, hb⟩
      obtain ⟨rfl, rfl⟩ := inj h
      exact hst ⟨h.2.1, h.2.2.1, h.2.2.2.1⟩
end Go.Proofs.YtjibdaigclgmhaaGreatDoor.LexW
