/- beyond (the print's lines), the bounds that it gives, Print's answer by cases, cutsTo. Conditions: those that each theorem states. -/
import Derived.Test.YtjibdaigclgmhaaDoorLexDD
import Derived.Test.YtjibdaigclgmhaaDoorLexP
import Derived.Lib.ItoaLen
namespace Go.Proofs.YtjibdaigclgmhaaDoor.LexW
open Go.RowKit Go.Proofs.YtjibdaigclgmhaaDoor.Lex Go.Proofs.YtjibdaigclgmhaaDoor.Facts Go.Proofs.YtjibdaigclgmhaaDoor.PLexTokens Go.Proofs.YtjibdaigclgmhaaDoorW.PrintWords Go.Proofs.YtjibdaigclgmhaaDoorW.PrintLast Go.Proofs.YtjibdaigclgmhaaDoorW.PrintMore
attribute [local go_sem] max2_int min2_int max_two min_two max_three min_three max_four min_four
set_option linter.unusedVariables false
set_option linter.unusedSimpArgs false
/-! ### kilnlaw7_beyond: function 23 -/
def kilnlaw7_beyond.l0 : Nat → List (S42) → Int → Int → Option (Bool)
  | 0, _, _, _ => none
  | k + 1, x0, x3, x4 => if x4 < (x0.length : Int) then (if (wrap64 (x3 + 24)) > 268435456 then (some true) else (if 0 ≤ x4 then (if (((rd_T42 x0 x4).f1).size : Int) > (wrap64 (268435456 - (wrap64 (x3 + 24)))) then (some true) else (kilnlaw7_beyond.l0 k x0 (wrap64 ((wrap64 (x3 + 24)) + (((rd_T42 x0 x4).f1).size : Int))) (wrap64 (x4 + 1)))) else (none))) else (some false)
def kilnlaw7_beyond.f (k : Nat) (l0 : List (S42)) : Option (Bool) := kilnlaw7_beyond.l0 k l0 0 0
theorem kilnlaw7_beyond.mono_l : ∀ k, (∀ y0 y1 y2, LeO (kilnlaw7_beyond.l0 k y0 y1 y2) (kilnlaw7_beyond.l0 (k + 1) y0 y1 y2))
  | 0 => fun _ _ _ r h => by simp [kilnlaw7_beyond.l0] at h
  | k + 1 => by
    have ih0 := kilnlaw7_beyond.mono_l k
    · intro y0 y1 y2
      unfold kilnlaw7_beyond.l0
      repeat' first
      | (with_reducible exact ih0 _ _ _)
      | (with_reducible exact LeO.refl _)
      | (with_reducible exact LeO.none _)
      | (with_reducible refine LeO.ite ?_ ?_)
      | (with_reducible refine LeO.bind ?_ (fun _ => ?_))
      | exact ih0 _ _ _
      | exact LeO.none _
      | refine LeO.ite ?_ ?_
      | refine LeO.bind ?_ (fun _ => ?_)
theorem kilnlaw7_beyond.mono : ∀ a0 k, LeO (kilnlaw7_beyond.f k a0) (kilnlaw7_beyond.f (k + 1) a0) := by
  intro a0 k
  have ih0 := kilnlaw7_beyond.mono_l k
  unfold kilnlaw7_beyond.f
  repeat' first
      | (with_reducible exact ih0 _ _ _)
      | (with_reducible exact LeO.refl _)
      | (with_reducible exact LeO.none _)
      | (with_reducible refine LeO.ite ?_ ?_)
      | (with_reducible refine LeO.bind ?_ (fun _ => ?_))
      | exact ih0 _ _ _
      | exact LeO.none _
      | refine LeO.ite ?_ ?_
      | refine LeO.bind ?_ (fun _ => ?_)
set_option maxHeartbeats 8000000 in
set_option maxRecDepth 100000 in
theorem kilnlaw7_beyond.calls (k : Nat) (A0 : Option Addr) (c0 : Nat) (l0 : List (S42)) (r : Bool) (w : World) (hr0 : Kd.C k42 w A0 l0.length l0) (hc0 : l0.length ≤ c0) (h : kilnlaw7_beyond.f k l0 = some r) :
    Calls Tryd.prog 23 #[.slice A0 l0.length c0] w fun e w' => e = .returned (.bool r) ∧ Drawn0 w w' := by
  have HR0 := Aside0.mk hr0
  have HC0 := Aside0.mk hc0
  clear hr0 hc0
  have H : (kilnlaw7_beyond.l0 k l0 0 0) = some r := h
  clear h
  have H' := Aside0.mk H
  clear H
  go_enter Tryd.func23, Tryd.ntmps23
  go_wp2
  go_loopg [3, 4] k (fun kq v3 v4 w' => ∃ (x3_1 : Int) (x4_1 : Int), v3 = .int .i64 x3_1 ∧ v4 = .int .i64 x4_1 ∧ Aside0 (kilnlaw7_beyond.l0 kq l0 x3_1 x4_1 = some r) ∧ Aside0 (kq ≤ k) ∧ Drawn0 w w')
  case atStart => exact ⟨(0), (0), (by first | rfl | (simp; done) | (simp [*]; done)), (by first | rfl | (simp; done) | (simp [*]; done)), H', ⟨Nat.le_refl _⟩, by repeat (first | exact Drawn0.refl _ | apply Drawn0.step)⟩
  case round =>
    clear H'
    obtain ⟨x3_1, x4_1, rfl, rfl, HA, HK1, ⟨m1, rfl⟩⟩ := hrel
    cases gk with
    | zero => exact absurd HA.out (by simp [kilnlaw7_beyond.l0])
    | succ k1 =>
      have H := HA.out
      clear HA
      simp only [kilnlaw7_beyond.l0] at H
      by_cases c2 : x4_1 < (l0.length : Int)
      · rw [if_pos c2] at H
        have c2b0 : decide (x4_1 < (l0.length : Int)) = true := decide_eq_true c2
        clear c2
        by_cases c3 : (wrap64 (x3_1 + 24)) > 268435456
        · rw [if_pos c3] at H
          have c3b0 : decide (268435456 < (wrap64 (x3_1 + 24))) = true := decide_eq_true c3
          clear c3
          obtain rfl := Option.some.inj H
          go_wp2
          go_ret
          exact ⟨by first | rfl | (simp; done) | (simp [*]; done), by repeat (first | exact Drawn0.refl _ | apply Drawn0.step)⟩
        · rw [if_neg c3] at H
          have c3b0 : decide (268435456 < (wrap64 (x3_1 + 24))) = false := decide_eq_false c3
          clear c3
          by_cases c4 : 0 ≤ x4_1
          · rw [if_pos c4] at H
            have c4b0 : decide (0 ≤ x4_1) = true := decide_eq_true c4
            clear c4
            by_cases c5 : (((rd_T42 l0 x4_1).f1).size : Int) > (wrap64 (268435456 - (wrap64 (x3_1 + 24))))
            · rw [if_pos c5] at H
              have c5b0 : decide ((wrap64 (268435456 - (wrap64 (x3_1 + 24)))) < (((rd_T42 l0 x4_1).f1).size : Int)) = true := decide_eq_true c5
              clear c5
              obtain rfl := Option.some.inj H
              have p168 : 0 ≤ (x4_1 : Int) := of_decide_eq_true (by first | (with_reducible assumption) | assumption)
              have q168 : x4_1 < (l0.length : Int) := of_decide_eq_true (by first | (with_reducible assumption) | assumption)
              obtain ⟨ad168, e168, hx168_0, hx168_1, hx168_2, hx168_3⟩ := at_T42 HR0.out x4_1 p168 q168
              cases e168
              replace p168 := eq_true p168
              replace q168 := eq_true q168
              go_wp2
              go_ret
              exact ⟨by first | rfl | (simp; done) | (simp [*]; done), by repeat (first | exact Drawn0.refl _ | apply Drawn0.step)⟩
            · rw [if_neg c5] at H
              have c5b0 : decide ((wrap64 (268435456 - (wrap64 (x3_1 + 24)))) < (((rd_T42 l0 x4_1).f1).size : Int)) = false := decide_eq_false c5
              clear c5
              have H' := Aside0.mk H
              clear H
              have p168 : 0 ≤ (x4_1 : Int) := of_decide_eq_true (by first | (with_reducible assumption) | assumption)
              have q168 : x4_1 < (l0.length : Int) := of_decide_eq_true (by first | (with_reducible assumption) | assumption)
              obtain ⟨ad168, e168, hx168_0, hx168_1, hx168_2, hx168_3⟩ := at_T42 HR0.out x4_1 p168 q168
              cases e168
              replace p168 := eq_true p168
              replace q168 := eq_true q168
              have p169 : 0 ≤ (x4_1 : Int) := of_decide_eq_true (by first | (with_reducible assumption) | assumption)
              have q169 : x4_1 < (l0.length : Int) := of_decide_eq_true (by first | (with_reducible assumption) | assumption)
              obtain ⟨ad169, e169, hx169_0, hx169_1, hx169_2, hx169_3⟩ := at_T42 HR0.out x4_1 p169 q169
              obtain rfl : ad168 = ad169 := (by injection e169)
              replace p169 := eq_true p169
              replace q169 := eq_true q169
              go_wp2
              go_roundg k1
              case measure => have := HK1.out; omega
              case rel => exact ⟨(wrap64 ((wrap64 (x3_1 + 24)) + (((rd_T42 l0 x4_1).f1).size : Int))), (wrap64 (x4_1 + 1)), (by first | rfl | (simp; done) | (simp [*]; done)), (by first | rfl | (simp; done) | (simp [*]; done)), H', ⟨by have := HK1.out; omega⟩, by repeat (first | exact Drawn0.refl _ | apply Drawn0.step)⟩
          · rw [if_neg c4] at H
            exact absurd H (by simp)
      · rw [if_neg c2] at H
        have c2b0 : decide (x4_1 < (l0.length : Int)) = false := decide_eq_false c2
        clear c2
        obtain rfl := Option.some.inj H
        go_wp2
        go_ret
        exact ⟨by first | rfl | (simp; done) | (simp [*]; done), by repeat (first | exact Drawn0.refl _ | apply Drawn0.step)⟩

def wt (X : List S42) : Nat := (X.map fun x => 24 + x.f1.size).sum
theorem wt_cons (x : S42) (X : List S42) : wt (x :: X) = 24 + x.f1.size + wt X := by unfold wt; simp
theorem beyond_l0 (X : List S42) (hb : X.length ≤ 9223372036854775807) : ∀ (k i acc : Nat), i ≤ X.length → X.length - i < k → acc ≤ 268435456 → kilnlaw7_beyond.l0 k X (acc : Int) (i : Int) = some (decide (268435456 < acc + wt (X.drop i)))
  | 0, i, acc, hi, hk, ha => by omega
  | k + 1, i, acc, hi, hk, ha => by
    rw [kilnlaw7_beyond.l0]
    by_cases h : i < X.length
    · have hd : X.drop i = X[i] :: X.drop (i + 1) := List.drop_eq_getElem_cons h
      have hr : rd_T42 X (i : Int) = X[i] := rd_at X i h
      have w1 : wrap64 ((acc : Int) + 24) = (acc : Int) + 24 := by unfold wrap64; omega
      have w2 : wrap64 (268435456 - ((acc : Int) + 24)) = 268435456 - ((acc : Int) + 24) := by unfold wrap64; omega
      have w4 : wrap64 ((i : Int) + 1) = ((i + 1 : Nat) : Int) := by unfold wrap64; omega
      rw [if_pos (by omega), w1, hr, hd, wt_cons]
      by_cases h1 : acc + 24 > 268435456
      · rw [if_pos (by omega), decide_eq_true (by omega)]
      · rw [if_neg (by omega), if_pos (by omega), w2]
        by_cases h2 : acc + 24 + X[i].f1.size > 268435456
        · rw [if_pos (by omega), decide_eq_true (by omega)]
        · rw [if_neg (by omega)]
          have w3 : wrap64 ((acc : Int) + 24 + (X[i].f1.size : Int)) = ((acc + 24 + X[i].f1.size : Nat) : Int) := by unfold wrap64; omega
          rw [w3, w4, beyond_l0 X hb k (i + 1) (acc + 24 + X[i].f1.size) (by omega) (by omega) (by omega)]
          congr 2
          apply propext
          constructor <;> intro h <;> omega
    · rw [if_neg (by omega), show X.drop i = [] from List.drop_eq_nil_of_le (by omega), decide_eq_false (by simp [wt]; omega)]
theorem beyond_calls (X : List S42) (A : Option Addr) (c : Nat) (w : World) (hX : Kd.C k42 w A X.length X) (hc : X.length ≤ c) (hb : X.length ≤ 9223372036854775807) : Calls Tryd.prog 23 #[.slice A X.length c] w fun e w' => e = .returned (.bool (decide (268435456 < wt X))) ∧ Drawn0 w w' := by
  refine kilnlaw7_beyond.calls (X.length + 1) A c X _ w hX hc ?_
  have := beyond_l0 X hb (X.length + 1) 0 0 (Nat.zero_le _) (by omega) (by omega)
  rw [List.drop_zero, Nat.zero_add] at this
  exact this
structure Bd (X : List S42) : Prop where
  sum : wt X ≤ 268435456
  num : ∀ x ∈ X, -9223372036854775808 ≤ x.f2 ∧ x.f2 ≤ 9223372036854775807
theorem wt_mem {X : List S42} {x : S42} (h : x ∈ X) : 24 + x.f1.size ≤ wt X := by
  induction X with
  | nil => cases h
  | cons y r ih =>
    rw [wt_cons]
    rcases List.mem_cons.1 h with rfl | h
    · omega
    · have := ih h; omega
theorem wt_len (X : List S42) : 24 * X.length ≤ wt X := by
  induction X with
  | nil => simp [wt]
  | cons y r ih => rw [wt_cons, List.length_cons]; omega
theorem spB_len (x : S42) (h0 : -9223372036854775808 ≤ x.f2) (h1 : x.f2 ≤ 9223372036854775807) : (spB x).size + 1 ≤ 2 * (24 + x.f1.size) := by
  have hd := dbl_len (bl x.f1)
  have hi := Lib.itoa_length_le x.f2 h0 h1
  have hs := bl_len x.f1
  have hm : (markCh x.f0).length ≤ 1 := by unfold markCh; repeat' split
                                           all_goals simp
  have key : (spellL x.f0 (bl x.f1) x.f2).length + 1 ≤ 2 * (24 + x.f1.size) := by
    unfold spellL
    repeat' split
    all_goals try simp
    all_goals omega
  have : (spB x).size = (spellL x.f0 (bl x.f1) x.f2).length := by rw [← bl_len]; rfl
  omega
theorem join_len : ∀ ls : List (List UInt8), (Lib.join ls [32]).length ≤ (ls.map (fun l => l.length + 1)).sum
  | [] => by simp [Lib.join_nil]
  | [a] => by rw [Lib.join_one]; simp
  | a :: b :: r => by
    have := join_len (b :: r)
    have e : Lib.join (a :: b :: r) [32] = a ++ 32 :: Lib.join (b :: r) [32] := by
      unfold Lib.join; simp [List.intercalate]
    rw [e, List.map_cons, List.sum_cons, List.length_append, List.length_cons]
    omega
theorem spB_sum : ∀ {X : List S42}, (∀ x ∈ X, -9223372036854775808 ≤ x.f2 ∧ x.f2 ≤ 9223372036854775807) → ((X.map fun x => bl (spB x)).map (fun l => l.length + 1)).sum ≤ 2 * wt X
  | [], _ => by simp
  | x :: X, h => by
    have h1 := spB_len x (h x List.mem_cons_self).1 (h x List.mem_cons_self).2
    have h2 := spB_sum (X := X) (fun y hy => h y (List.mem_cons_of_mem _ hy))
    rw [List.map_cons, List.map_cons, List.sum_cons, wt_cons, bl_len]
    omega
theorem wt_take (X : List S42) (m : Nat) : wt (X.take m) ≤ wt X := by
  induction X generalizing m with
  | nil => simp
  | cons x r ih =>
    cases m with
    | zero => simp [wt]
    | succ m => rw [List.take_succ_cons, wt_cons, wt_cons]; have := ih m; omega
/-- what Print takes -/
def PrintOk (X : List S42) (Y : List S42) (z : S42) : Prop := X = Y ++ [z] ∧ z.f0 = 18 ∧ bl z.f1 = [] ∧ z.f2 = 0 ∧ ∀ t ∈ Y.map tk, may t = true
def PPost (X : List S42) (v : Value) : Prop := (∃ Y z, PrintOk X Y z ∧ v = .tuple #[.string (sB (joinW (Y.map tk))), .int .i64 0]) ∨ ((∀ Y z, ¬ PrintOk X Y z) ∧ v = .tuple #[.string ⟨#[]⟩, .int .i64 1])
theorem print_calls (X : List S42) (hB : Bd X) (A : Option Addr) (c : Nat) (w : World) (E : PEnv w) (hC : Kd.C k42 w A X.length X) (hc : X.length ≤ c) : Calls Tryd.prog 24 #[.slice A X.length c] w fun e w' => (∃ v, e = .returned v ∧ PPost X v) ∧ Below w.heap.size w w' := by
  by_cases hX : X = []
  · subst hX
    refine (print_none A c w).mono fun e w' ⟨he, hb⟩ => ⟨⟨_, he, .inr ⟨fun Y z h => ?_, rfl⟩⟩, hb⟩
    have := congrArg List.length h.1
    simp at this
  · obtain ⟨Y, z, rfl⟩ : ∃ Y z, X = Y ++ [z] := ⟨X.dropLast, X.getLast hX, (List.dropLast_concat_getLast hX).symm⟩
    have hl : (Y ++ [z]).length = Y.length + 1 := by simp
    have hlen := wt_len (Y ++ [z])
    have hs := hB.sum
    have hz : (Y ++ [z])[Y.length]? = some z := by simp
    have inj : ∀ {Y2 z2}, PrintOk (Y ++ [z]) Y2 z2 → Y2 = Y ∧ z2 = z := fun {Y2 z2} h => by
      have := h.1
      obtain ⟨h1, h2⟩ := List.append_inj' this rfl
      exact ⟨h1.symm, (List.cons.inj h2).1.symm⟩
    by_cases hst : z.f0 = 18 ∧ bl z.f1 = [] ∧ z.f2 = 0
    · have htk : (Y ++ [z]).take Y.length = Y := by simp
      by_cases hm : ∀ t ∈ Y.map tk, may t = true
      · refine (print_main (Y ++ [z]) Y.length hl (by omega) z hz A c w hC hc false ⟨rfl⟩ hst E (fun i x hx => ?_) ?_ (.tuple #[.string (sB (joinW (Y.map tk))), .int .i64 0]) ⟨fun _ => by rw [htk]⟩ ⟨fun ⟨t, ht, hf⟩ => ?_⟩).mono fun e w' ⟨he, hb⟩ => ⟨⟨_, he, .inl ⟨Y, z, ⟨rfl, hst.1, hst.2.1, hst.2.2, hm⟩, rfl⟩⟩, hb⟩
        · have hx := List.mem_of_getElem? hx
          have h1 := wt_mem hx
          have h2 := hB.num x hx
          have h3 := spB_len x h2.1 h2.2
          exact ⟨by omega, h2.1, h2.2, by omega⟩
        · have h1 := join_len (((Y ++ [z]).take Y.length).map fun x => bl (spB x))
          have h2 := spB_sum (X := (Y ++ [z]).take Y.length) (fun x hx => hB.num x (List.mem_of_mem_take hx))
          have h3 := wt_take (Y ++ [z]) Y.length
          omega
        · rw [htk] at ht; rw [hm t ht] at hf; cases hf
      · have hm2 : ∃ t ∈ Y.map tk, may t = false := by
          by_cases h : ∃ t ∈ Y.map tk, may t = false
          · exact h
          · exact absurd (fun t ht => by
              cases hc : may t with
              | true => rfl
              | false => exact absurd ⟨t, ht, hc⟩ h) hm
        refine (print_main (Y ++ [z]) Y.length hl (by omega) z hz A c w hC hc false ⟨rfl⟩ hst E (fun i x hx => ?_) ?_ (.tuple #[.string ⟨#[]⟩, .int .i64 1]) ⟨fun h => ?_⟩ ⟨fun _ => rfl⟩).mono fun e w' ⟨he, hb⟩ => ⟨⟨_, he, .inr ⟨fun Y2 z2 h => ?_, rfl⟩⟩, hb⟩
        · have hx := List.mem_of_getElem? hx
          have h1 := wt_mem hx
          have h2 := hB.num x hx
          have h3 := spB_len x h2.1 h2.2
          exact ⟨by omega, h2.1, h2.2, by omega⟩
        · have h1 := join_len (((Y ++ [z]).take Y.length).map fun x => bl (spB x))
          have h2 := spB_sum (X := (Y ++ [z]).take Y.length) (fun x hx => hB.num x (List.mem_of_mem_take hx))
          have h3 := wt_take (Y ++ [z]) Y.length
          omega
        · rw [htk] at h; exact absurd h hm
        · obtain ⟨rfl, rfl⟩ := inj h
          exact hm h.2.2.2.2
    · refine (print_nostop (Y ++ [z]) Y.length hl (by omega) z hz A c w hC hc true ⟨rfl⟩ hst).mono fun e w' ⟨he, hb⟩ => ⟨⟨_, he, .inr ⟨fun Y2 z2 h => ?_, rfl⟩⟩, hb⟩
      obtain ⟨rfl, rfl⟩ := inj h
      exact hst ⟨h.2.1, h.2.2.1, h.2.2.2.1⟩
end Go.Proofs.YtjibdaigclgmhaaDoor.LexW
