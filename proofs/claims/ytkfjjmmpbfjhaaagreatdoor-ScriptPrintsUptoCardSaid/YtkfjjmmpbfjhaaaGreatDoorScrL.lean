/- An act's line and what PrintAct answers, in plain words; same, walked. Conditions: those that each theorem states. -/
import Derived.Test.YtkfjjmmpbfjhaaaGreatDoorScrK
namespace Go.Proofs.YtkfjjmmpbfjhaaaGreatDoor.Tells
open Go.RowKit Go.Proofs.YtkfjjmmpbfjhaaaGreatDoor.Facts Go.Proofs.YtkfjjmmpbfjhaaaGreatDoor.PScriptActs Go.Proofs.YtkfjjmmpbfjhaaaGreatDoorW.PrintWords Go.Proofs.YtkfjjmmpbfjhaaaGreatDoorW.PrintLast Go.Proofs.YtkfjjmmpbfjhaaaGreatDoorW.PrintMore
attribute [local go_sem] max2_int min2_int max_two min_two max_three min_three max_four min_four
set_option linter.unusedVariables false
set_option linter.unusedSimpArgs false
theorem equal_l0 (X Y : List ByteArray) (hl : X.length = Y.length) (hb : X.length ≤ 1073741824) : ∀ (k i : Nat), i ≤ X.length → X.length - i < k → slices_Equal_string_string.l0 k X Y (X.length : Int) (i : Int) = some (decide (X.drop i = Y.drop i))
  | 0, i, hi, hk => by omega
  | k + 1, i, hi, hk => by
    rw [slices_Equal_string_string.l0]
    by_cases h : i < X.length
    · have hx : X.drop i = X[i] :: X.drop (i + 1) := List.drop_eq_getElem_cons h
      have hy : Y.drop i = Y[i]'(by omega) :: Y.drop (i + 1) := List.drop_eq_getElem_cons (by omega)
      have rx : rdOf ByteArray.empty X (i : Int) = X[i] := by unfold rdOf; rw [Int.toNat_natCast, List.getD_eq_getElem?_getD, List.getElem?_eq_getElem h]; rfl
      have ry : rdOf ByteArray.empty Y (i : Int) = Y[i]'(by omega) := by unfold rdOf; rw [Int.toNat_natCast, List.getD_eq_getElem?_getD, List.getElem?_eq_getElem (by omega)]; rfl
      have w4 : wrap64 ((i : Int) + 1) = ((i + 1 : Nat) : Int) := by unfold wrap64; omega
      rw [if_pos (by omega), if_pos (by omega), if_pos (by omega), if_pos (by omega), rx, ry, w4, hx, hy]
      by_cases he : X[i] = Y[i]'(by omega)
      · rw [if_pos (by rw [he]), equal_l0 X Y hl hb k (i + 1) (by omega) (by omega)]
        congr 1
        apply decide_eq_decide.2
        constructor
        · intro h2; rw [he, h2]
        · intro h2; exact (List.cons.inj h2).2
      · rw [if_neg (by rw [ByteArray.toList_eq, ByteArray.toList_eq]; intro h2; exact he (by apply ByteArray.ext; exact Array.toList_inj.1 h2))]
        rw [decide_eq_false (fun h2 => he (List.cons.inj h2).1)]
    · rw [if_neg (by omega), List.drop_of_length_le (by omega), List.drop_of_length_le (by omega)]
      rfl
theorem equal_f (X Y : List ByteArray) (hb : X.length ≤ 1073741824) : slices_Equal_string_string.f (X.length + 1) X Y = some (decide (X = Y)) := by
  unfold slices_Equal_string_string.f
  by_cases h : X.length = Y.length
  · rw [if_pos (by omega)]
    have := equal_l0 X Y h hb (X.length + 1) 0 (Nat.zero_le _) (by omega)
    rw [List.drop_zero, List.drop_zero] at this
    exact this
  · rw [if_neg (by omega), decide_eq_false (fun e => h (by rw [e]))]
theorem ba_toList {s t : ByteArray} : s.toList = t.toList ↔ s = t := by
  rw [ByteArray.toList_eq, ByteArray.toList_eq]
  constructor
  · intro h; apply ByteArray.ext; exact Array.toList_inj.1 h
  · intro h; rw [h]
def sameA (a b : S31) : Bool := decide (a.f0 = b.f0) && (decide (a.f1 = b.f1) && (decide (a.f2 = b.f2) && (decide (a.f4 = b.f4) && (decide (a.f5 = b.f5) && (decide (a.f6 = b.f6) && decide (a.f3 = b.f3))))))
theorem same_f (a b : S31) (hb : a.f3.length ≤ 1073741824) : script_same.f (a.f3.length + 1) a.f0 a.f1 a.f2 a.f3 a.f4 a.f5 a.f6 b.f0 b.f1 b.f2 b.f3 b.f4 b.f5 b.f6 = some (sameA a b) := by
  unfold script_same.f sameA
  by_cases h0 : a.f0 = b.f0
  · rw [if_pos h0, decide_eq_true h0, Bool.true_and]
    by_cases h1 : a.f1 = b.f1
    · rw [if_pos (ba_toList.2 h1), decide_eq_true h1, Bool.true_and]
      by_cases h2 : a.f2 = b.f2
      · rw [if_pos (ba_toList.2 h2), decide_eq_true h2, Bool.true_and]
        by_cases h4 : a.f4 = b.f4
        · rw [if_pos (ba_toList.2 h4), decide_eq_true h4, Bool.true_and]
          by_cases h5 : a.f5 = b.f5
          · rw [if_pos h5, decide_eq_true h5, Bool.true_and]
            by_cases h6 : a.f6 = b.f6
            · rw [if_pos h6, decide_eq_true h6, Bool.true_and, equal_f _ _ hb]; rfl
            · rw [if_neg h6, decide_eq_false h6]; rfl
          · rw [if_neg h5, decide_eq_false h5]; rfl
        · rw [if_neg (fun h => h4 (ba_toList.1 h)), decide_eq_false h4]; rfl
      · rw [if_neg (fun h => h2 (ba_toList.1 h)), decide_eq_false h2]; rfl
    · rw [if_neg (fun h => h1 (ba_toList.1 h)), decide_eq_false h1]; rfl
  · rw [if_neg h0, decide_eq_false h0]; rfl
theorem same_calls (a b : S31) (A B : Option Addr) (c d : Nat) (w : World) (hA : Kd.C Kd.string w A a.f3.length a.f3) (hc : a.f3.length ≤ c) (hB : Kd.C Kd.string w B b.f3.length b.f3) (hd : b.f3.length ≤ d) (hb : a.f3.length ≤ 1073741824) : Calls Tryz.prog 30 #[actV a A c, actV b B d] w fun e w' => e = .returned (.bool (sameA a b)) ∧ Below w.heap.size w w' :=
  script_same.calls (a.f3.length + 1) a.f0 a.f1 a.f2 A c a.f3 a.f4 a.f5 a.f6 b.f0 b.f1 b.f2 B d b.f3 b.f4 b.f5 b.f6 (sameA a b) w hA hc hB hd (same_f a b hb)
/-- an act's line -/
def lineL (a : S31) : List UInt8 := Lib.join ((nameOf a.f0 :: behind a).map (·.data.toList)) [32]
/-- what PrintAct answers -/
def printA (a : S31) : ByteArray × Int :=
  if 1 ≤ a.f0 ∧ a.f0 ≤ 12 then
    if sameA a (only a) = true then (if 262144 < (lineL a).length then (⟨#[]⟩, 241) else (⟨(lineL a).toArray⟩, 0)) else (⟨#[]⟩, 245)
  else (⟨#[]⟩, 242)
theorem join_len2 : ∀ ls : List (List UInt8), (Lib.join ls [32]).length ≤ (ls.map (fun l => l.length + 1)).sum
  | [] => by simp [Lib.join_nil]
  | [a] => by rw [Lib.join_one]; simp
  | a :: b :: r => by
    have := join_len2 (b :: r)
    have e : Lib.join (a :: b :: r) [32] = a ++ 32 :: Lib.join (b :: r) [32] := by
      unfold Lib.join; simp [List.intercalate]
    rw [e, List.map_cons, List.sum_cons, List.length_append, List.length_cons]
    omega
theorem word_len (s : ByteArray) : (wordB s).data.toList.length ≤ 3 * s.size + 1 := by
  have h1 := encw_len s.data.toList
  have h2 : s.data.toList.length = s.size := bl_len s
  have e : (wordB s).data.toList = 61 :: encw s.data.toList := bl_word s
  rw [e, List.length_cons]; omega
theorem words_len : ∀ l : List ByteArray, ((l.map wordB).map (·.data.toList) |>.map (fun x => x.length + 1)).sum ≤ 3 * (l.map (·.size)).sum + 2 * l.length
  | [] => by simp
  | s :: l => by
    have h1 := word_len s
    have h2 := words_len l
    simp only [List.map_cons, List.sum_cons, List.length_cons]
    omega
theorem num_len (n : Int) (h : inI n) : (itoaB n).data.toList.length ≤ 21 := by
  have e : (itoaB n).data.toList = Lib.itoa n := by unfold itoaB; simp
  rw [e]
  exact Lib.itoa_length_le n h.1 h.2
theorem name_len (k : Int) : (nameOf k).data.toList.length ≤ 7 := by
  have key : ∀ j, j < 13 → (nameL.getD j ⟨#[]⟩).data.toList.length ≤ 7 := by decide +kernel
  unfold nameOf
  by_cases h : k.toNat - 1 < 12
  · exact key _ (by omega)
  · have : nameL.getD (k.toNat - 1) ⟨#[]⟩ = ⟨#[]⟩ := by rw [List.getD_eq_getElem?_getD, List.getElem?_eq_none (by show 12 ≤ _; omega)]; rfl
    rw [this]; simp
theorem line_len (a : S31) (ha : Aok a) : (lineL a).length ≤ 16777216 := by
  have h := join_len2 ((nameOf a.f0 :: behind a).map (·.data.toList))
  have hn := name_len a.f0
  have k1 := word_len a.f1
  have k2 := word_len a.f2
  have k4 := word_len a.f4
  have k3 := words_len a.f3
  have k5 := num_len a.f5 ha.number
  have k6 := num_len a.f6 ha.fuel
  have s1 := ha.name; have s2 := ha.other; have s4 := ha.text; have s3 := ha.sum; have sc := ha.count
  refine Nat.le_trans h ?_
  rw [List.map_cons, List.map_cons, List.sum_cons]
  unfold behind
  repeat' split
  all_goals simp only [List.map_cons, List.map_nil, List.sum_cons, List.sum_nil] at k3 ⊢
  all_goals omega
end Go.Proofs.YtkfjjmmpbfjhaaaGreatDoor.Tells
