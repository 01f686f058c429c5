/- The print's lines of kilnref24.read (its own texts fall at another function). Conditions: those that each theorem states. -/
import Derived.Test.YtkfjjmmpbfjhaaaGreatDoorScrPC
import Derived.Test.YtkfjjmmpbfjhaaaGreatDoorScrPD
namespace Go.Proofs.YtkfjjmmpbfjhaaaGreatDoor.PScriptActs
open Go.RowKit Go.Proofs.YtkfjjmmpbfjhaaaGreatDoorW.PrintWords Go.Proofs.YtkfjjmmpbfjhaaaGreatDoorW.PrintLast Go.Proofs.YtkfjjmmpbfjhaaaGreatDoorW.PrintMore
attribute [local go_sem] max2_int min2_int max_two min_two max_three min_three max_four min_four   -- for this text's walks alone
set_option linter.unusedVariables false
set_option linter.unusedSimpArgs false

/-! ### kilnref24_read: function 40 -/
mutual
def kilnref24_read.j0 : Nat → List ByteArray → ByteArray → Int → Bool → Int → ByteArray → ByteArray → ByteArray → Int → Int → Option (Int × ByteArray × ByteArray × List ByteArray × ByteArray × Int × Int × Int)
  | 0, _, _, _, _, _, _, _, _, _, _ => none
  | k + 1, x1, x8, x9, x10, x247000, x247001, x247002, x247004, x247005, x247006 => if x10 = true then (kilnref24_read.j1 k x1 x8 (wrap64 (x9 - 1)) x10 x247000 x247001 x247002 x247004 x247005 x247006) else (kilnref24_read.j1 k x1 x8 x9 x10 x247000 x247001 x247002 x247004 x247005 x247006)
def kilnref24_read.j1 : Nat → List ByteArray → ByteArray → Int → Bool → Int → ByteArray → ByteArray → ByteArray → Int → Int → Option (Int × ByteArray × ByteArray × List ByteArray × ByteArray × Int × Int × Int)
  | 0, _, _, _, _, _, _, _, _, _, _ => none
  | k + 1, x1, x8, x9, x10, x247000, x247001, x247002, x247004, x247005, x247006 => if (x1.length : Int) < x9 then (kilnref24_read.j2 k x1 x8 x9 true x247000 x247001 x247002 x247004 x247005 x247006) else (if (x1.length : Int) > x9 then (kilnref24_read.j2 k x1 x8 x9 (!x10) x247000 x247001 x247002 x247004 x247005 x247006) else (kilnref24_read.j2 k x1 x8 x9 false x247000 x247001 x247002 x247004 x247005 x247006))
def kilnref24_read.j2 : Nat → List ByteArray → ByteArray → Int → Bool → Int → ByteArray → ByteArray → ByteArray → Int → Int → Option (Int × ByteArray × ByteArray × List ByteArray × ByteArray × Int × Int × Int)
  | 0, _, _, _, _, _, _, _, _, _, _ => none
  | k + 1, x1, x8, x9, x52, x247000, x247001, x247002, x247004, x247005, x247006 => if x52 = true then (some (x247000, x247001, x247002, ([] : List ByteArray), x247004, x247005, x247006, 243)) else (kilnref24_read.l0 k x1 x8 x9 0 x247000 x247001 x247002 ([] : List ByteArray) x247004 x247005 x247006)
def kilnref24_read.l0 : Nat → List ByteArray → ByteArray → Int → Int → Int → ByteArray → ByteArray → List ByteArray → ByteArray → Int → Int → Option (Int × ByteArray × ByteArray × List ByteArray × ByteArray × Int × Int × Int)
  | 0, _, _, _, _, _, _, _, _, _, _, _ => none
  | k + 1, x1, x8, x9, x11, x247000, x247001, x247002, x247003, x247004, x247005, x247006 => if x11 < (x1.length : Int) then (if x11 < x9 then (if 0 ≤ x11 then (if x11 < (x8.size : Int) then (kilnref24_read.j4 k x1 x8 x9 x11 (bt x8 x11) x247000 x247001 x247002 x247003 x247004 x247005 x247006) else (none)) else (none)) else (kilnref24_read.j4 k x1 x8 x9 x11 42 x247000 x247001 x247002 x247003 x247004 x247005 x247006)) else (some (x247000, x247001, x247002, x247003, x247004, x247005, x247006, 0))
def kilnref24_read.j4 : Nat → List ByteArray → ByteArray → Int → Int → Int → Int → ByteArray → ByteArray → List ByteArray → ByteArray → Int → Int → Option (Int × ByteArray × ByteArray × List ByteArray × ByteArray × Int × Int × Int)
  | 0, _, _, _, _, _, _, _, _, _, _, _, _ => none
  | k + 1, x1, x8, x9, x11, x12, x247000, x247001, x247002, x247003, x247004, x247005, x247006 => if 0 ≤ x11 then (if x11 < (x1.length : Int) then ((kilnref24_Unwritten.f k (rdOf ByteArray.empty x1 x11)).bind fun bt252 => ((kilnref24_number.f k (rdOf ByteArray.empty x1 x11)).bind fun bt255 => (if x12 = 110 then (if bt252.2 = true then (kilnref24_read.l0 k x1 x8 x9 (wrap64 (x11 + 1)) x247000 bt252.1 x247002 x247003 x247004 x247005 x247006) else (some (x247000, bt252.1, x247002, x247003, x247004, x247005, x247006, 244))) else (if x12 = 111 then (if bt252.2 = true then (kilnref24_read.l0 k x1 x8 x9 (wrap64 (x11 + 1)) x247000 x247001 bt252.1 x247003 x247004 x247005 x247006) else (some (x247000, x247001, bt252.1, x247003, x247004, x247005, x247006, 244))) else (if x12 = 116 then (if bt252.2 = true then (kilnref24_read.l0 k x1 x8 x9 (wrap64 (x11 + 1)) x247000 x247001 x247002 x247003 bt252.1 x247005 x247006) else (some (x247000, x247001, x247002, x247003, bt252.1, x247005, x247006, 244))) else (if x12 = 42 then (if x247003.length < 8796093022208 then ((some (x247003 ++ [bt252.1] : List ByteArray)).bind fun y257 => (if bt252.2 = true then (kilnref24_read.l0 k x1 x8 x9 (wrap64 (x11 + 1)) x247000 x247001 x247002 y257 x247004 x247005 x247006) else (some (x247000, x247001, x247002, y257, x247004, x247005, x247006, 244)))) else (none)) else (if x12 = 35 then (if bt255.2 = true then (kilnref24_read.l0 k x1 x8 x9 (wrap64 (x11 + 1)) x247000 x247001 x247002 x247003 x247004 bt255.1 x247006) else (some (x247000, x247001, x247002, x247003, x247004, bt255.1, x247006, 244))) else (if x12 = 102 then (if bt255.2 = true then (kilnref24_read.l0 k x1 x8 x9 (wrap64 (x11 + 1)) x247000 x247001 x247002 x247003 x247004 x247005 bt255.1) else (some (x247000, x247001, x247002, x247003, x247004, x247005, bt255.1, 244))) else (if bt252.2 = true then (kilnref24_read.l0 k x1 x8 x9 (wrap64 (x11 + 1)) x247000 x247001 x247002 x247003 x247004 x247005 x247006) else (some (x247000, x247001, x247002, x247003, x247004, x247005, x247006, 244))))))))))) else (none)) else (none)
end
def kilnref24_read.f (k : Nat) (a0 : Int) (l1 : List ByteArray) : Option (Int × ByteArray × ByteArray × List ByteArray × ByteArray × Int × Int × Int) := (kilnref24_shapes.f).bind fun t247 => (if 0 ≤ a0 then (if a0 < (t247.length : Int) then (if ((rdOf ByteArray.empty t247 a0).size : Int) > 0 then (if 0 ≤ (wrap64 (((rdOf ByteArray.empty t247 a0).size : Int) - 1)) then (if (wrap64 (((rdOf ByteArray.empty t247 a0).size : Int) - 1)) < ((rdOf ByteArray.empty t247 a0).size : Int) then (kilnref24_read.j0 k l1 (rdOf ByteArray.empty t247 a0) ((rdOf ByteArray.empty t247 a0).size : Int) ((bt (rdOf ByteArray.empty t247 a0) (wrap64 (((rdOf ByteArray.empty t247 a0).size : Int) - 1))) == 42) a0 (⟨#[]⟩ : ByteArray) (⟨#[]⟩ : ByteArray) (⟨#[]⟩ : ByteArray) 0 0) else (none)) else (none)) else (kilnref24_read.j0 k l1 (rdOf ByteArray.empty t247 a0) ((rdOf ByteArray.empty t247 a0).size : Int) false a0 (⟨#[]⟩ : ByteArray) (⟨#[]⟩ : ByteArray) (⟨#[]⟩ : ByteArray) 0 0)) else (none)) else (none))
theorem kilnref24_read.mono_l : ∀ k, (∀ y0 y1 y2 y3 y4 y5 y6 y7 y8 y9, LeO (kilnref24_read.j0 k y0 y1 y2 y3 y4 y5 y6 y7 y8 y9) (kilnref24_read.j0 (k + 1) y0 y1 y2 y3 y4 y5 y6 y7 y8 y9)) ∧ (∀ y0 y1 y2 y3 y4 y5 y6 y7 y8 y9, LeO (kilnref24_read.j1 k y0 y1 y2 y3 y4 y5 y6 y7 y8 y9) (kilnref24_read.j1 (k + 1) y0 y1 y2 y3 y4 y5 y6 y7 y8 y9)) ∧ (∀ y0 y1 y2 y3 y4 y5 y6 y7 y8 y9, LeO (kilnref24_read.j2 k y0 y1 y2 y3 y4 y5 y6 y7 y8 y9) (kilnref24_read.j2 (k + 1) y0 y1 y2 y3 y4 y5 y6 y7 y8 y9)) ∧ (∀ y0 y1 y2 y3 y4 y5 y6 y7 y8 y9 y10, LeO (kilnref24_read.l0 k y0 y1 y2 y3 y4 y5 y6 y7 y8 y9 y10) (kilnref24_read.l0 (k + 1) y0 y1 y2 y3 y4 y5 y6 y7 y8 y9 y10)) ∧ (∀ y0 y1 y2 y3 y4 y5 y6 y7 y8 y9 y10 y11, LeO (kilnref24_read.j4 k y0 y1 y2 y3 y4 y5 y6 y7 y8 y9 y10 y11) (kilnref24_read.j4 (k + 1) y0 y1 y2 y3 y4 y5 y6 y7 y8 y9 y10 y11))
  | 0 => ⟨fun _ _ _ _ _ _ _ _ _ _ r h => by simp [kilnref24_read.j0] at h, fun _ _ _ _ _ _ _ _ _ _ r h => by simp [kilnref24_read.j1] at h, fun _ _ _ _ _ _ _ _ _ _ r h => by simp [kilnref24_read.j2] at h, fun _ _ _ _ _ _ _ _ _ _ _ r h => by simp [kilnref24_read.l0] at h, fun _ _ _ _ _ _ _ _ _ _ _ _ r h => by simp [kilnref24_read.j4] at h⟩
  | k + 1 => by
    obtain ⟨ih0, ih1, ih2, ih3, ih4⟩ := kilnref24_read.mono_l k
    refine ⟨?_, ?_, ?_, ?_, ?_⟩
    · intro y0 y1 y2 y3 y4 y5 y6 y7 y8 y9
      unfold kilnref24_read.j0
      repeat' first
      | (with_reducible exact ih0 _ _ _ _ _ _ _ _ _ _)
      | (with_reducible exact ih1 _ _ _ _ _ _ _ _ _ _)
      | (with_reducible exact ih2 _ _ _ _ _ _ _ _ _ _)
      | (with_reducible exact ih3 _ _ _ _ _ _ _ _ _ _ _)
      | (with_reducible exact ih4 _ _ _ _ _ _ _ _ _ _ _ _)
      | (with_reducible exact kilnref24_Unwritten.mono _ _)
      | (with_reducible exact kilnref24_number.mono _ _)
      | (with_reducible exact LeO.refl _)
      | (with_reducible exact LeO.none _)
      | (with_reducible refine LeO.ite ?_ ?_)
      | (with_reducible refine LeO.bind ?_ (fun _ => ?_))
      | exact ih0 _ _ _ _ _ _ _ _ _ _
      | exact ih1 _ _ _ _ _ _ _ _ _ _
      | exact ih2 _ _ _ _ _ _ _ _ _ _
      | exact ih3 _ _ _ _ _ _ _ _ _ _ _
      | exact ih4 _ _ _ _ _ _ _ _ _ _ _ _
      | exact kilnref24_Unwritten.mono _ _
      | exact kilnref24_number.mono _ _
      | exact LeO.none _
      | refine LeO.ite ?_ ?_
      | refine LeO.bind ?_ (fun _ => ?_)
    · intro y0 y1 y2 y3 y4 y5 y6 y7 y8 y9
      unfold kilnref24_read.j1
      repeat' first
      | (with_reducible exact ih0 _ _ _ _ _ _ _ _ _ _)
      | (with_reducible exact ih1 _ _ _ _ _ _ _ _ _ _)
      | (with_reducible exact ih2 _ _ _ _ _ _ _ _ _ _)
      | (with_reducible exact ih3 _ _ _ _ _ _ _ _ _ _ _)
      | (with_reducible exact ih4 _ _ _ _ _ _ _ _ _ _ _ _)
      | (with_reducible exact kilnref24_Unwritten.mono _ _)
      | (with_reducible exact kilnref24_number.mono _ _)
      | (with_reducible exact LeO.refl _)
      | (with_reducible exact LeO.none _)
      | (with_reducible refine LeO.ite ?_ ?_)
      | (with_reducible refine LeO.bind ?_ (fun _ => ?_))
      | exact ih0 _ _ _ _ _ _ _ _ _ _
      | exact ih1 _ _ _ _ _ _ _ _ _ _
      | exact ih2 _ _ _ _ _ _ _ _ _ _
      | exact ih3 _ _ _ _ _ _ _ _ _ _ _
      | exact ih4 _ _ _ _ _ _ _ _ _ _ _ _
      | exact kilnref24_Unwritten.mono _ _
      | exact kilnref24_number.mono _ _
      | exact LeO.none _
      | refine LeO.ite ?_ ?_
      | refine LeO.bind ?_ (fun _ => ?_)
    · intro y0 y1 y2 y3 y4 y5 y6 y7 y8 y9
      unfold kilnref24_read.j2
      repeat' first
      | (with_reducible exact ih0 _ _ _ _ _ _ _ _ _ _)
      | (with_reducible exact ih1 _ _ _ _ _ _ _ _ _ _)
      | (with_reducible exact ih2 _ _ _ _ _ _ _ _ _ _)
      | (with_reducible exact ih3 _ _ _ _ _ _ _ _ _ _ _)
      | (with_reducible exact ih4 _ _ _ _ _ _ _ _ _ _ _ _)
      | (with_reducible exact kilnref24_Unwritten.mono _ _)
      | (with_reducible exact kilnref24_number.mono _ _)
      | (with_reducible exact LeO.refl _)
      | (with_reducible exact LeO.none _)
      | (with_reducible refine LeO.ite ?_ ?_)
      | (with_reducible refine LeO.bind ?_ (fun _ => ?_))
      | exact ih0 _ _ _ _ _ _ _ _ _ _
      | exact ih1 _ _ _ _ _ _ _ _ _ _
      | exact ih2 _ _ _ _ _ _ _ _ _ _
      | exact ih3 _ _ _ _ _ _ _ _ _ _ _
      | exact ih4 _ _ _ _ _ _ _ _ _ _ _ _
      | exact kilnref24_Unwritten.mono _ _
      | exact kilnref24_number.mono _ _
      | exact LeO.none _
      | refine LeO.ite ?_ ?_
      | refine LeO.bind ?_ (fun _ => ?_)
    · intro y0 y1 y2 y3 y4 y5 y6 y7 y8 y9 y10
      unfold kilnref24_read.l0
      repeat' first
      | (with_reducible exact ih0 _ _ _ _ _ _ _ _ _ _)
      | (with_reducible exact ih1 _ _ _ _ _ _ _ _ _ _)
      | (with_reducible exact ih2 _ _ _ _ _ _ _ _ _ _)
      | (with_reducible exact ih3 _ _ _ _ _ _ _ _ _ _ _)
      | (with_reducible exact ih4 _ _ _ _ _ _ _ _ _ _ _ _)
      | (with_reducible exact kilnref24_Unwritten.mono _ _)
      | (with_reducible exact kilnref24_number.mono _ _)
      | (with_reducible exact LeO.refl _)
      | (with_reducible exact LeO.none _)
      | (with_reducible refine LeO.ite ?_ ?_)
      | (with_reducible refine LeO.bind ?_ (fun _ => ?_))
      | exact ih0 _ _ _ _ _ _ _ _ _ _
      | exact ih1 _ _ _ _ _ _ _ _ _ _
      | exact ih2 _ _ _ _ _ _ _ _ _ _
      | exact ih3 _ _ _ _ _ _ _ _ _ _ _
      | exact ih4 _ _ _ _ _ _ _ _ _ _ _ _
      | exact kilnref24_Unwritten.mono _ _
      | exact kilnref24_number.mono _ _
      | exact LeO.none _
      | refine LeO.ite ?_ ?_
      | refine LeO.bind ?_ (fun _ => ?_)
    · intro y0 y1 y2 y3 y4 y5 y6 y7 y8 y9 y10 y11
      unfold kilnref24_read.j4
      repeat' first
      | (with_reducible exact ih0 _ _ _ _ _ _ _ _ _ _)
      | (with_reducible exact ih1 _ _ _ _ _ _ _ _ _ _)
      | (with_reducible exact ih2 _ _ _ _ _ _ _ _ _ _)
      | (with_reducible exact ih3 _ _ _ _ _ _ _ _ _ _ _)
      | (with_reducible exact ih4 _ _ _ _ _ _ _ _ _ _ _ _)
      | (with_reducible exact kilnref24_Unwritten.mono _ _)
      | (with_reducible exact kilnref24_number.mono _ _)
      | (with_reducible exact LeO.refl _)
      | (with_reducible exact LeO.none _)
      | (with_reducible refine LeO.ite ?_ ?_)
      | (with_reducible refine LeO.bind ?_ (fun _ => ?_))
      | exact ih0 _ _ _ _ _ _ _ _ _ _
      | exact ih1 _ _ _ _ _ _ _ _ _ _
      | exact ih2 _ _ _ _ _ _ _ _ _ _
      | exact ih3 _ _ _ _ _ _ _ _ _ _ _
      | exact ih4 _ _ _ _ _ _ _ _ _ _ _ _
      | exact kilnref24_Unwritten.mono _ _
      | exact kilnref24_number.mono _ _
      | exact LeO.none _
      | refine LeO.ite ?_ ?_
      | refine LeO.bind ?_ (fun _ => ?_)
theorem kilnref24_read.mono : ∀ a0 a1 k, LeO (kilnref24_read.f k a0 a1) (kilnref24_read.f (k + 1) a0 a1) := by
  intro a0 a1 k
  obtain ⟨ih0, ih1, ih2, ih3, ih4⟩ := kilnref24_read.mono_l k
  unfold kilnref24_read.f
  repeat' first
      | (with_reducible exact ih0 _ _ _ _ _ _ _ _ _ _)
      | (with_reducible exact ih1 _ _ _ _ _ _ _ _ _ _)
      | (with_reducible exact ih2 _ _ _ _ _ _ _ _ _ _)
      | (with_reducible exact ih3 _ _ _ _ _ _ _ _ _ _ _)
      | (with_reducible exact ih4 _ _ _ _ _ _ _ _ _ _ _ _)
      | (with_reducible exact kilnref24_Unwritten.mono _ _)
      | (with_reducible exact kilnref24_number.mono _ _)
      | (with_reducible exact LeO.refl _)
      | (with_reducible exact LeO.none _)
      | (with_reducible refine LeO.ite ?_ ?_)
      | (with_reducible refine LeO.bind ?_ (fun _ => ?_))
      | exact ih0 _ _ _ _ _ _ _ _ _ _
      | exact ih1 _ _ _ _ _ _ _ _ _ _
      | exact ih2 _ _ _ _ _ _ _ _ _ _
      | exact ih3 _ _ _ _ _ _ _ _ _ _ _
      | exact ih4 _ _ _ _ _ _ _ _ _ _ _ _
      | exact kilnref24_Unwritten.mono _ _
      | exact kilnref24_number.mono _ _
      | exact LeO.none _
      | refine LeO.ite ?_ ?_
      | refine LeO.bind ?_ (fun _ => ?_)
set_option maxHeartbeats 8000000 in
set_option maxRecDepth 100000 in
theorem kilnref24_read.calls (k : Nat) (a0 : Int) (A1 : Option Addr) (c1 : Nat) (l1 : List ByteArray) (r1 : Int) (r2 : ByteArray) (r3 : ByteArray) (r4 : List ByteArray) (r5 : ByteArray) (r6 : Int) (r7 : Int) (r8 : Int) (w : World) (hr1 : Kd.C Kd.string w A1 l1.length l1) (hc1 : l1.length ≤ c1) (h : kilnref24_read.f k a0 l1 = some (r1, r2, r3, r4, r5, r6, r7, r8)) :
    Calls Tryz.prog 40 #[.int .i64 a0, .slice A1 l1.length c1] w fun e w' => ∃ v3_ : Value, e = .returned (.tuple #[.agg #[.int .i64 r1, .string r2, .string r3, v3_, .string r5, .int .i64 r6, .int .i64 r7], .int .i64 r8]) ∧ Kd.R Kd.string 9 w' w.heap.size (fun _ => True) v3_ r4 ∧ Below w.heap.size w w' := by
  have hu31 := Tryz.underlying31
  have HR1 := Aside0.mk hr1
  have HC1 := Aside0.mk hc1
  clear hr1 hc1
  have HB := Aside0.mk (Below.refl w.heap.size w)
  have H : ((kilnref24_shapes.f).bind fun t247 => (if 0 ≤ a0 then (if a0 < (t247.length : Int) then (if ((rdOf ByteArray.empty t247 a0).size : Int) > 0 then (if 0 ≤ (wrap64 (((rdOf ByteArray.empty t247 a0).size : Int) - 1)) then (if (wrap64 (((rdOf ByteArray.empty t247 a0).size : Int) - 1)) < ((rdOf ByteArray.empty t247 a0).size : Int) then (kilnref24_read.j0 k l1 (rdOf ByteArray.empty t247 a0) ((rdOf ByteArray.empty t247 a0).size : Int) ((bt (rdOf ByteArray.empty t247 a0) (wrap64 (((rdOf ByteArray.empty t247 a0).size : Int) - 1))) == 42) a0 (⟨#[]⟩ : ByteArray) (⟨#[]⟩ : ByteArray) (⟨#[]⟩ : ByteArray) 0 0) else (none)) else (none)) else (kilnref24_read.j0 k l1 (rdOf ByteArray.empty t247 a0) ((rdOf ByteArray.empty t247 a0).size : Int) false a0 (⟨#[]⟩ : ByteArray) (⟨#[]⟩ : ByteArray) (⟨#[]⟩ : ByteArray) 0 0)) else (none)) else (none))) = some (r1, r2, r3, r4, r5, r6, r7, r8) := h
  clear h
  replace H := Option.bind_eq_some_iff.mp H
  obtain ⟨t247, A30, H⟩ := H
  replace H : (if 0 ≤ a0 then (if a0 < (t247.length : Int) then (if ((rdOf ByteArray.empty t247 a0).size : Int) > 0 then (if 0 ≤ (wrap64 (((rdOf ByteArray.empty t247 a0).size : Int) - 1)) then (if (wrap64 (((rdOf ByteArray.empty t247 a0).size : Int) - 1)) < ((rdOf ByteArray.empty t247 a0).size : Int) then (kilnref24_read.j0 k l1 (rdOf ByteArray.empty t247 a0) ((rdOf ByteArray.empty t247 a0).size : Int) ((bt (rdOf ByteArray.empty t247 a0) (wrap64 (((rdOf ByteArray.empty t247 a0).size : Int) - 1))) == 42) a0 (⟨#[]⟩ : ByteArray) (⟨#[]⟩ : ByteArray) (⟨#[]⟩ : ByteArray) 0 0) else (none)) else (none)) else (kilnref24_read.j0 k l1 (rdOf ByteArray.empty t247 a0) ((rdOf ByteArray.empty t247 a0).size : Int) false a0 (⟨#[]⟩ : ByteArray) (⟨#[]⟩ : ByteArray) (⟨#[]⟩ : ByteArray) 0 0)) else (none)) else (none)) = some (r1, r2, r3, r4, r5, r6, r7, r8) := H
  have A3 := Aside0.mk A30
  clear A30
  by_cases c4 : 0 ≤ a0
  · rw [if_pos c4] at H
    have c4b0 : decide (0 ≤ a0) = true := decide_eq_true c4
    clear c4
    by_cases c5 : a0 < (t247.length : Int)
    · rw [if_pos c5] at H
      have c5b0 : decide (a0 < (t247.length : Int)) = true := decide_eq_true c5
      clear c5
      have HC6 := Aside0.mk H
      clear H
      go_enter Tryz.func40, Tryz.ntmps40
      go_upto_region 5 with (first | ((with_reducible refine gate_dst (N := 4) rfl ?_); (try (refine gate_guard (by rfl) ?_; dsimp only)); refine box_event ?hg (N := 4) ?hd (cs := #[.int .i64 0, .string (⟨#[]⟩ : ByteArray), .string (⟨#[]⟩ : ByteArray), .slice none 0 0, .string (⟨#[]⟩ : ByteArray), .int .i64 0, .int .i64 0]) (t := 31) ?hr ?_; (case hd => rfl); (case hg => rfl); (case hr => first | (go_simp; done) | (go_simp; rfl)); intro gb245 hg w7 hbox hb; have n0_ := Aside0.mk (below_step (by repeat (first | (with_reducible first | exact HB.out | apply below_alloc | apply pw_below_drewN | apply below_drew1) | exact HB.out)) hb); have n1_ := Aside0.mk (hbox); have n2_ := Aside0.mk ((by rw [hg]; exact (below_size (by repeat (first | (with_reducible first | exact HB.out | apply below_alloc | apply pw_below_drewN | apply below_drew1) | exact HB.out))) : w.heap.size ≤ gb245)); have n3_ := Aside0.mk ((by rw [hg]; exact (below_size (by repeat (first | (with_reducible first | exact HB.out | apply below_alloc | apply pw_below_drewN | apply below_drew1) | exact HB.out))) : w.heap.size ≤ gb245)); clear HB; have HB := n0_; have BK245 := n1_; have GW245 := n2_; have GE245 := n3_; clear n0_ n1_ n2_ n3_; clear hb hbox hg) | ((with_reducible refine gate_dst (N := 6) rfl ?_); (try (refine gate_guard (by rfl) ?_; dsimp only)); refine box_event ?hg (N := 6) ?hd (cs := #[.int .i64 0, .string (⟨#[]⟩ : ByteArray), .string (⟨#[]⟩ : ByteArray), .slice none 0 0, .string (⟨#[]⟩ : ByteArray), .int .i64 0, .int .i64 0]) (t := 31) ?hr ?_; (case hd => rfl); (case hg => rfl); (case hr => first | (go_simp; done) | (go_simp; rfl)); intro gb246 hg w8 hbox hb; have n0_ := Aside0.mk (blk_below (g := gb245) (o := .cells #[.int .i64 0, .string (⟨#[]⟩ : ByteArray), .string (⟨#[]⟩ : ByteArray), .slice none 0 0, .string (⟨#[]⟩ : ByteArray), .int .i64 0, .int .i64 0] 31 (0, 0)) (by (with_reducible repeat (first | refine blk_drewN ?_ _ | refine blk_drew ?_ | refine blk_alloc ?_ _)); exact BK245.out) hb); have n1_ := Aside0.mk (below_step (by repeat (first | (with_reducible first | exact HB.out | apply below_alloc | apply pw_below_drewN | apply below_drew1 | refine below_set ?_ GE245.out) | exact HB.out)) hb); have n2_ := Aside0.mk (hbox); have n3_ := Aside0.mk ((by rw [hg]; exact (below_size (by repeat (first | (with_reducible first | exact HB.out | apply below_alloc | apply pw_below_drewN | apply below_drew1 | refine below_set ?_ GE245.out) | exact HB.out))) : w.heap.size ≤ gb246)); have n4_ := Aside0.mk ((by rw [hg]; exact (below_size (by repeat (first | (with_reducible first | exact HB.out | apply below_alloc | apply pw_below_drewN | apply below_drew1 | refine below_set ?_ GE245.out) | exact HB.out))) : w.heap.size ≤ gb246)); have n5_ := Aside0.mk ((by rw [hg]; exact Nat.ne_of_lt (blk_lt (g := gb245) (o := .cells #[.int .i64 0, .string (⟨#[]⟩ : ByteArray), .string (⟨#[]⟩ : ByteArray), .slice none 0 0, .string (⟨#[]⟩ : ByteArray), .int .i64 0, .int .i64 0] 31 (0, 0)) (by (with_reducible repeat (first | refine blk_drewN ?_ _ | refine blk_drew ?_ | refine blk_alloc ?_ _)); exact BK245.out)) : gb245 ≠ gb246)); have n6_ := Aside0.mk ((by rw [hg]; exact Nat.ne_of_gt (blk_lt (g := gb245) (o := .cells #[.int .i64 0, .string (⟨#[]⟩ : ByteArray), .string (⟨#[]⟩ : ByteArray), .slice none 0 0, .string (⟨#[]⟩ : ByteArray), .int .i64 0, .int .i64 0] 31 (0, 0)) (by (with_reducible repeat (first | refine blk_drewN ?_ _ | refine blk_drew ?_ | refine blk_alloc ?_ _)); exact BK245.out)) : gb246 ≠ gb245)); clear BK245; clear HB; have BK245 := n0_; have HB := n1_; have BK246 := n2_; have GW246 := n3_; have GE246 := n4_; have NB245_246 := n5_; have NB246_245 := n6_; clear n0_ n1_ n2_ n3_ n4_ n5_ n6_; clear hb hbox hg; have hnb9 := NB246_245.out; have hnc9 := NB245_246.out; have hcz10_0 : w8.cell? ⟨gb246, 0, none⟩ = some (.int .i64 0) := (blk_cell BK246.out 0).trans rfl; have hcz10_1 : w8.cell? ⟨gb246, 1, none⟩ = some (.string (⟨#[]⟩ : ByteArray)) := (blk_cell BK246.out 1).trans rfl; have hcz10_2 : w8.cell? ⟨gb246, 2, none⟩ = some (.string (⟨#[]⟩ : ByteArray)) := (blk_cell BK246.out 2).trans rfl; have hcz10_3 : w8.cell? ⟨gb246, 3, none⟩ = some (.slice none 0 0) := (blk_cell BK246.out 3).trans rfl; have hcz10_4 : w8.cell? ⟨gb246, 4, none⟩ = some (.string (⟨#[]⟩ : ByteArray)) := (blk_cell BK246.out 4).trans rfl; have hcz10_5 : w8.cell? ⟨gb246, 5, none⟩ = some (.int .i64 0) := (blk_cell BK246.out 5).trans rfl; have hcz10_6 : w8.cell? ⟨gb246, 6, none⟩ = some (.int .i64 0) := (blk_cell BK246.out 6).trans rfl; have hfz10_0 := blk_frozen BK246.out 0; have hfz10_1 := blk_frozen BK246.out 1; have hfz10_2 := blk_frozen BK246.out 2; have hfz10_3 := blk_frozen BK246.out 3; have hfz10_4 := blk_frozen BK246.out 4; have hfz10_5 := blk_frozen BK246.out 5; have hfz10_6 := blk_frozen BK246.out 6) | ((with_reducible refine gate_callee (f := 46) rfl ?_); refine goesL_ (some 20) rfl rfl Tryz.func46 (by kernel_rfl) rfl #[] rfl (by (try simp only [List.map_toArray, List.map_cons, List.map_nil]); first | done | rfl | (simp only [List.length_drop, List.length_take]; rfl)) ?_; (with_reducible refine (kilnref24_shapes.calls  t247 _ A3.out).mono ?_); rintro e w11 ⟨v248, rfl, ho0, hb⟩; refine ⟨_, rfl, ?_⟩; have n0_ := Aside0.mk (Kd.R_lower ho0 (below_size (by repeat (first | (with_reducible first | exact HB.out | apply below_alloc | apply pw_below_drewN | apply below_drew1 | refine below_set ?_ GE245.out | refine below_set ?_ GE246.out) | exact HB.out)))); have n1_ := Aside0.mk (blk_below (g := gb245) (o := .cells #[.int .i64 0, .string (⟨#[]⟩ : ByteArray), .string (⟨#[]⟩ : ByteArray), .slice none 0 0, .string (⟨#[]⟩ : ByteArray), .int .i64 0, .int .i64 0] 31 (0, 0)) (by (with_reducible repeat (first | refine blk_drewN ?_ _ | refine blk_drew ?_ | refine blk_alloc ?_ _)); refine blk_far ?_ NB245_246.out _; (with_reducible repeat (first | refine blk_drewN ?_ _ | refine blk_drew ?_ | refine blk_alloc ?_ _)); refine blk_far ?_ NB245_246.out _; (with_reducible repeat (first | refine blk_drewN ?_ _ | refine blk_drew ?_ | refine blk_alloc ?_ _)); refine blk_far ?_ NB245_246.out _; (with_reducible repeat (first | refine blk_drewN ?_ _ | refine blk_drew ?_ | refine blk_alloc ?_ _)); refine blk_far ?_ NB245_246.out _; (with_reducible repeat (first | refine blk_drewN ?_ _ | refine blk_drew ?_ | refine blk_alloc ?_ _)); refine blk_far ?_ NB245_246.out _; (with_reducible repeat (first | refine blk_drewN ?_ _ | refine blk_drew ?_ | refine blk_alloc ?_ _)); refine blk_far ?_ NB245_246.out _; (with_reducible repeat (first | refine blk_drewN ?_ _ | refine blk_drew ?_ | refine blk_alloc ?_ _)); refine blk_far ?_ NB245_246.out _; (with_reducible repeat (first | refine blk_drewN ?_ _ | refine blk_drew ?_ | refine blk_alloc ?_ _)); exact BK245.out) hb); have n2_ := Aside0.mk (blk_below (g := gb246) (o := .cells #[.int .i64 a0, .string (⟨#[]⟩ : ByteArray), .string (⟨#[]⟩ : ByteArray), .slice none 0 0, .string (⟨#[]⟩ : ByteArray), .int .i64 0, .int .i64 0] 31 (0, 0)) (by (with_reducible repeat (first | refine blk_drewN ?_ _ | refine blk_drew ?_ | refine blk_alloc ?_ _)); refine blk_put (cs := #[.int .i64 a0, .string (⟨#[]⟩ : ByteArray), .string (⟨#[]⟩ : ByteArray), .slice none 0 0, .string (⟨#[]⟩ : ByteArray), .int .i64 0, .int .i64 0]) ?_ 6 _ rfl; (with_reducible repeat (first | refine blk_drewN ?_ _ | refine blk_drew ?_ | refine blk_alloc ?_ _)); refine blk_put (cs := #[.int .i64 a0, .string (⟨#[]⟩ : ByteArray), .string (⟨#[]⟩ : ByteArray), .slice none 0 0, .string (⟨#[]⟩ : ByteArray), .int .i64 0, .int .i64 0]) ?_ 5 _ rfl; (with_reducible repeat (first | refine blk_drewN ?_ _ | refine blk_drew ?_ | refine blk_alloc ?_ _)); refine blk_put (cs := #[.int .i64 a0, .string (⟨#[]⟩ : ByteArray), .string (⟨#[]⟩ : ByteArray), .slice none 0 0, .string (⟨#[]⟩ : ByteArray), .int .i64 0, .int .i64 0]) ?_ 4 _ rfl; (with_reducible repeat (first | refine blk_drewN ?_ _ | refine blk_drew ?_ | refine blk_alloc ?_ _)); refine blk_put (cs := #[.int .i64 a0, .string (⟨#[]⟩ : ByteArray), .string (⟨#[]⟩ : ByteArray), .slice none 0 0, .string (⟨#[]⟩ : ByteArray), .int .i64 0, .int .i64 0]) ?_ 3 _ rfl; (with_reducible repeat (first | refine blk_drewN ?_ _ | refine blk_drew ?_ | refine blk_alloc ?_ _)); refine blk_put (cs := #[.int .i64 a0, .string (⟨#[]⟩ : ByteArray), .string (⟨#[]⟩ : ByteArray), .slice none 0 0, .string (⟨#[]⟩ : ByteArray), .int .i64 0, .int .i64 0]) ?_ 2 _ rfl; (with_reducible repeat (first | refine blk_drewN ?_ _ | refine blk_drew ?_ | refine blk_alloc ?_ _)); refine blk_put (cs := #[.int .i64 a0, .string (⟨#[]⟩ : ByteArray), .string (⟨#[]⟩ : ByteArray), .slice none 0 0, .string (⟨#[]⟩ : ByteArray), .int .i64 0, .int .i64 0]) ?_ 1 _ rfl; (with_reducible repeat (first | refine blk_drewN ?_ _ | refine blk_drew ?_ | refine blk_alloc ?_ _)); refine blk_put (cs := #[.int .i64 0, .string (⟨#[]⟩ : ByteArray), .string (⟨#[]⟩ : ByteArray), .slice none 0 0, .string (⟨#[]⟩ : ByteArray), .int .i64 0, .int .i64 0]) ?_ 0 _ rfl; (with_reducible repeat (first | refine blk_drewN ?_ _ | refine blk_drew ?_ | refine blk_alloc ?_ _)); exact BK246.out) hb); have n3_ := Aside0.mk (below_step (by repeat (first | (with_reducible first | exact HB.out | apply below_alloc | apply pw_below_drewN | apply below_drew1 | refine below_set ?_ GE245.out | refine below_set ?_ GE246.out) | exact HB.out)) hb); clear BK245; clear BK246; clear HB; have HO249 := n0_; have BK245 := n1_; have BK246 := n2_; have HB := n3_; clear n0_ n1_ n2_ n3_; (try clear hb); (try clear hb2); (try clear hk); (try clear hi); (try clear ho0); obtain ⟨Ao12, co12, eo12⟩ := Kd.R_slice HO249.out; subst eo12; have p250 : 0 ≤ (a0 : Int) := of_decide_eq_true (by first | (with_reducible assumption) | assumption); have q250 : a0 < (t247.length : Int) := of_decide_eq_true (by first | (with_reducible assumption) | assumption); obtain ⟨ad250, e250, hx250_0⟩ := Kd.at_string (Kd.R_reads' HO249.out).2.2 a0 p250 q250; cases e250; replace p250 := eq_true p250; replace q250 := eq_true q250))
      (try simp only [Act.put, List.setIfInBounds_toArray, List.set_cons_zero, List.set_cons_succ])
      go_cut [10] (fun v10 wc => ∃ (kq : Nat) (x10_5 : Bool), v10 = .bool x10_5 ∧ Aside0 (kilnref24_read.j0 kq l1 (rdOf ByteArray.empty t247 a0) ((rdOf ByteArray.empty t247 a0).size : Int) x10_5 a0 (⟨#[]⟩ : ByteArray) (⟨#[]⟩ : ByteArray) (⟨#[]⟩ : ByteArray) 0 0 = some (r1, r2, r3, r4, r5, r6, r7, r8)) ∧ Aside0 (kq ≤ k) ∧ Aside0 (wc.heap[gb245]? = some (.cells #[.int .i64 0, .string (⟨#[]⟩ : ByteArray), .string (⟨#[]⟩ : ByteArray), (.slice none 0 0), .string (⟨#[]⟩ : ByteArray), .int .i64 0, .int .i64 0] 31 (0, 0))) ∧ Aside0 (wc.heap[gb246]? = some (.cells #[.int .i64 a0, .string (⟨#[]⟩ : ByteArray), .string (⟨#[]⟩ : ByteArray), (.slice none 0 0), .string (⟨#[]⟩ : ByteArray), .int .i64 0, .int .i64 0] 31 (0, 0))) ∧ Aside0 (Below w.heap.size w wc))
      case first =>
        have H := HC6.out
        clear HC6
        by_cases c13 : ((rdOf ByteArray.empty t247 a0).size : Int) > 0
        · rw [if_pos c13] at H
          have c13b0 : decide (0 < ((rdOf ByteArray.empty t247 a0).size : Int)) = true := decide_eq_true c13
          have c13b1 : decide (0 < (rdOf ByteArray.empty t247 a0).size) = true := decide_eq_true (by omega)
          clear c13
          (first | rw [c13b0] | (simp only [i64_w, i32_w]; rw [c13b0]) | skip)
          obtain ⟨ji14, hji14⟩ : ∃ j_ : Int, (wrap64 (((rdOf ByteArray.empty t247 a0).size : Int) - 1)) = j_ := ⟨_, rfl⟩
          replace H : (if 0 ≤ (ji14) then (if (ji14) < ((rdOf ByteArray.empty t247 a0).size : Int) then (kilnref24_read.j0 k l1 (rdOf ByteArray.empty t247 a0) ((rdOf ByteArray.empty t247 a0).size : Int) ((bt (rdOf ByteArray.empty t247 a0) (ji14)) == 42) a0 (⟨#[]⟩ : ByteArray) (⟨#[]⟩ : ByteArray) (⟨#[]⟩ : ByteArray) 0 0) else (none)) else (none)) = some (r1, r2, r3, r4, r5, r6, r7, r8) := by first | (rw [hji14] at H; exact H) | (simp only [hji14] at H ⊢; exact H)
          have hji14w : (IntKind.i64.wrap (((rdOf ByteArray.empty t247 a0).size : Int) - 1)) = ji14 := (i64_w _).trans hji14
          by_cases c15 : 0 ≤ (ji14)
          · rw [if_pos c15] at H
            have c15b0 : decide (0 ≤ (ji14)) = true := decide_eq_true c15
            clear c15
            by_cases c16 : (ji14) < ((rdOf ByteArray.empty t247 a0).size : Int)
            · rw [if_pos c16] at H
              have c16b0 : decide ((ji14) < ((rdOf ByteArray.empty t247 a0).size : Int)) = true := decide_eq_true c16
              clear c16
              have H' := Aside0.mk H
              clear H
              have p17 : 0 ≤ ((ji14) : Int) := of_decide_eq_true (by first | (with_reducible assumption) | assumption)
              have q17 : (ji14) < ((rdOf ByteArray.empty t247 a0).size : Int) := of_decide_eq_true (by first | (with_reducible assumption) | assumption)
              have hx17 := bt_at (rdOf ByteArray.empty t247 a0) (ji14)
              replace p17 := eq_true p17
              replace q17 := eq_true q17
              go_wp2
              go_meet
              case rel => exact ⟨_, (((bt (rdOf ByteArray.empty t247 a0) (ji14)) == 42)), (by first | rfl | (simp; done) | (simp only [← hji14] <;> (first | rfl | simp)) | (simp [*]; done)), H', ⟨by first | omega | exact Nat.le_refl _⟩, ⟨by (with_reducible repeat (first | refine blk_drewN ?_ _ | refine blk_drew ?_ | refine blk_alloc ?_ _)); exact BK245.out⟩, ⟨by (with_reducible repeat (first | refine blk_drewN ?_ _ | refine blk_drew ?_ | refine blk_alloc ?_ _)); exact BK246.out⟩, ⟨by repeat (first | (with_reducible first | exact HB.out | apply below_alloc | apply pw_below_drewN | apply below_drew1 | refine below_set ?_ GE245.out | refine below_set ?_ GE246.out) | exact HB.out)⟩⟩
            · rw [if_neg c16] at H
              exact absurd H (by simp)
          · rw [if_neg c15] at H
            exact absurd H (by simp)
        · rw [if_neg c13] at H
          have c13b0 : decide (0 < ((rdOf ByteArray.empty t247 a0).size : Int)) = false := decide_eq_false c13
          have c13b1 : decide (0 < (rdOf ByteArray.empty t247 a0).size) = false := decide_eq_false (by omega)
          clear c13
          (first | rw [c13b0] | (simp only [i64_w, i32_w]; rw [c13b0]) | skip)
          have H' := Aside0.mk H
          clear H
          go_wp2
          go_meet
          case rel => exact ⟨_, (false), (by first | rfl | (simp; done) | (simp [*]; done)), H', ⟨by first | omega | exact Nat.le_refl _⟩, ⟨by (with_reducible repeat (first | refine blk_drewN ?_ _ | refine blk_drew ?_ | refine blk_alloc ?_ _)); exact BK245.out⟩, ⟨by (with_reducible repeat (first | refine blk_drewN ?_ _ | refine blk_drew ?_ | refine blk_alloc ?_ _)); exact BK246.out⟩, ⟨by repeat (first | (with_reducible first | exact HB.out | apply below_alloc | apply pw_below_drewN | apply below_drew1 | refine below_set ?_ GE245.out | refine below_set ?_ GE246.out) | exact HB.out)⟩⟩
      case rest =>
        clear HC6
        try clear c1
        try clear p1
        try clear q1
        try clear hx1
        try clear p2
        try clear q2
        try clear hx2
        try clear c4
        try clear c4b0
        try clear c5
        try clear c5b0
        try clear p6
        try clear c9
        try clear c13
        try clear c13b0
        try clear c13b1
        try clear c15
        try clear c15b0
        try clear c16
        try clear c16b0
        try clear p17
        try clear q17
        try clear hx17
        try clear hcz10_0
        try clear hcz10_1
        try clear hcz10_2
        try clear hcz10_3
        try clear hcz10_4
        try clear hcz10_5
        try clear hcz10_6
        try clear hfz10_0
        try clear hfz10_1
        try clear hfz10_2
        try clear hfz10_3
        try clear hfz10_4
        try clear hfz10_5
        try clear hfz10_6
        try clear hx250_0
        try clear p17
        try clear p250
        try clear q17
        try clear q250
        obtain ⟨kq, x10_5, rfl, HA, HJ5, BK245, BK246, HB⟩ := hcut
        cases kq with
        | zero => exact absurd HA.out (by simp [kilnref24_read.j0])
        | succ kj5 =>
          have H := HA.out
          clear HA
          simp only [kilnref24_read.j0] at H
          have HC18 := Aside0.mk H
          clear H
          go_upto_if 36 with (fail)
          go_cut [9] (fun v9 wc => ∃ (kq : Nat) (x9_17 : Int), v9 = .int .i64 x9_17 ∧ Aside0 (kilnref24_read.j1 kq l1 (rdOf ByteArray.empty t247 a0) x9_17 x10_5 a0 (⟨#[]⟩ : ByteArray) (⟨#[]⟩ : ByteArray) (⟨#[]⟩ : ByteArray) 0 0 = some (r1, r2, r3, r4, r5, r6, r7, r8)) ∧ Aside0 (kq ≤ kj5) ∧ Aside0 (wc.heap[gb245]? = some (.cells #[.int .i64 0, .string (⟨#[]⟩ : ByteArray), .string (⟨#[]⟩ : ByteArray), (.slice none 0 0), .string (⟨#[]⟩ : ByteArray), .int .i64 0, .int .i64 0] 31 (0, 0))) ∧ Aside0 (wc.heap[gb246]? = some (.cells #[.int .i64 a0, .string (⟨#[]⟩ : ByteArray), .string (⟨#[]⟩ : ByteArray), (.slice none 0 0), .string (⟨#[]⟩ : ByteArray), .int .i64 0, .int .i64 0] 31 (0, 0))) ∧ Aside0 (Below w.heap.size w wc))
          case first =>
            have H := HC18.out
            clear HC18
            by_cases c19 : x10_5 = true
            · subst c19
              have H1 : (kilnref24_read.j1 kj5 l1 (rdOf ByteArray.empty t247 a0) (wrap64 (((rdOf ByteArray.empty t247 a0).size : Int) - 1)) true a0 (⟨#[]⟩ : ByteArray) (⟨#[]⟩ : ByteArray) (⟨#[]⟩ : ByteArray) 0 0) = some (r1, r2, r3, r4, r5, r6, r7, r8) := by rw [if_pos rfl] at H; exact H
              clear H
              have H := H1
              clear H1
              have H' := Aside0.mk H
              clear H
              go_wp2
              go_meet
              case rel => exact ⟨_, (wrap64 (((rdOf ByteArray.empty t247 a0).size : Int) - 1)), (by first | rfl | (simp; done) | (simp [*]; done)), H', ⟨by have := HJ5.out; first | omega | exact Nat.le_refl _⟩, ⟨by (with_reducible repeat (first | refine blk_drewN ?_ _ | refine blk_drew ?_ | refine blk_alloc ?_ _)); exact BK245.out⟩, ⟨by (with_reducible repeat (first | refine blk_drewN ?_ _ | refine blk_drew ?_ | refine blk_alloc ?_ _)); exact BK246.out⟩, ⟨by repeat (first | (with_reducible first | exact HB.out | apply below_alloc | apply pw_below_drewN | apply below_drew1 | refine below_set ?_ GE245.out | refine below_set ?_ GE246.out) | exact HB.out)⟩⟩
            · replace c19 := Bool.eq_false_iff.mpr c19
              subst c19
              have H1 : (kilnref24_read.j1 kj5 l1 (rdOf ByteArray.empty t247 a0) ((rdOf ByteArray.empty t247 a0).size : Int) false a0 (⟨#[]⟩ : ByteArray) (⟨#[]⟩ : ByteArray) (⟨#[]⟩ : ByteArray) 0 0) = some (r1, r2, r3, r4, r5, r6, r7, r8) := by rw [if_neg (show ¬ (false = true) by decide)] at H; exact H
              clear H
              have H := H1
              clear H1
              have H' := Aside0.mk H
              clear H
              go_wp2
              go_meet
              case rel => exact ⟨_, (((rdOf ByteArray.empty t247 a0).size : Int)), (by first | rfl | (simp; done) | (simp [*]; done)), H', ⟨by have := HJ5.out; first | omega | exact Nat.le_refl _⟩, ⟨by (with_reducible repeat (first | refine blk_drewN ?_ _ | refine blk_drew ?_ | refine blk_alloc ?_ _)); exact BK245.out⟩, ⟨by (with_reducible repeat (first | refine blk_drewN ?_ _ | refine blk_drew ?_ | refine blk_alloc ?_ _)); exact BK246.out⟩, ⟨by repeat (first | (with_reducible first | exact HB.out | apply below_alloc | apply pw_below_drewN | apply below_drew1 | refine below_set ?_ GE245.out | refine below_set ?_ GE246.out) | exact HB.out)⟩⟩
          case rest =>
            clear HC18
            try clear c1
            try clear p1
            try clear q1
            try clear hx1
            try clear p2
            try clear q2
            try clear hx2
            try clear c4
            try clear c4b0
            try clear c5
            try clear c5b0
            try clear p6
            try clear c9
            try clear c13
            try clear c13b0
            try clear c13b1
            try clear c15
            try clear c15b0
            try clear c16
            try clear c16b0
            try clear p17
            try clear q17
            try clear hx17
            try clear c19
            try clear hcz10_0
            try clear hcz10_1
            try clear hcz10_2
            try clear hcz10_3
            try clear hcz10_4
            try clear hcz10_5
            try clear hcz10_6
            try clear hfz10_0
            try clear hfz10_1
            try clear hfz10_2
            try clear hfz10_3
            try clear hfz10_4
            try clear hfz10_5
            try clear hfz10_6
            try clear hx250_0
            try clear p1
            try clear p17
            try clear p2
            try clear p250
            try clear p6
            try clear q1
            try clear q17
            try clear q2
            try clear q250
            obtain ⟨kq, x9_17, rfl, HA, HJ17, BK245, BK246, HB⟩ := hcut
            cases kq with
            | zero => exact absurd HA.out (by simp [kilnref24_read.j1])
            | succ kj17 =>
              have H := HA.out
              clear HA
              simp only [kilnref24_read.j1] at H
              have HC20 := Aside0.mk H
              clear H
              go_upto_region 8 with (fail)
              go_cut [52] (fun v52 wc => ∃ (kq : Nat) (x52_19 : Bool), v52 = .bool x52_19 ∧ Aside0 (kilnref24_read.j2 kq l1 (rdOf ByteArray.empty t247 a0) x9_17 x52_19 a0 (⟨#[]⟩ : ByteArray) (⟨#[]⟩ : ByteArray) (⟨#[]⟩ : ByteArray) 0 0 = some (r1, r2, r3, r4, r5, r6, r7, r8)) ∧ Aside0 (kq ≤ kj17) ∧ Aside0 (wc.heap[gb245]? = some (.cells #[.int .i64 0, .string (⟨#[]⟩ : ByteArray), .string (⟨#[]⟩ : ByteArray), (.slice none 0 0), .string (⟨#[]⟩ : ByteArray), .int .i64 0, .int .i64 0] 31 (0, 0))) ∧ Aside0 (wc.heap[gb246]? = some (.cells #[.int .i64 a0, .string (⟨#[]⟩ : ByteArray), .string (⟨#[]⟩ : ByteArray), (.slice none 0 0), .string (⟨#[]⟩ : ByteArray), .int .i64 0, .int .i64 0] 31 (0, 0))) ∧ Aside0 (Below w.heap.size w wc))
              case first =>
                have H := HC20.out
                clear HC20
                by_cases c21 : (l1.length : Int) < x9_17
                · rw [if_pos c21] at H
                  have c21b0 : decide ((l1.length : Int) < x9_17) = true := decide_eq_true c21
                  clear c21
                  (first | rw [c21b0] | (simp only [i64_w, i32_w]; rw [c21b0]) | skip)
                  have H' := Aside0.mk H
                  clear H
                  go_wp2
                  go_meet
                  case rel => exact ⟨_, (true), (by first | rfl | (simp; done) | (simp [*]; done)), H', ⟨by have := HJ5.out; have := HJ17.out; first | omega | exact Nat.le_refl _⟩, ⟨by (with_reducible repeat (first | refine blk_drewN ?_ _ | refine blk_drew ?_ | refine blk_alloc ?_ _)); exact BK245.out⟩, ⟨by (with_reducible repeat (first | refine blk_drewN ?_ _ | refine blk_drew ?_ | refine blk_alloc ?_ _)); exact BK246.out⟩, ⟨by repeat (first | (with_reducible first | exact HB.out | apply below_alloc | apply pw_below_drewN | apply below_drew1 | refine below_set ?_ GE245.out | refine below_set ?_ GE246.out) | exact HB.out)⟩⟩
                · rw [if_neg c21] at H
                  have c21b0 : decide ((l1.length : Int) < x9_17) = false := decide_eq_false c21
                  clear c21
                  (first | rw [c21b0] | (simp only [i64_w, i32_w]; rw [c21b0]) | skip)
                  by_cases c22 : (l1.length : Int) > x9_17
                  · rw [if_pos c22] at H
                    have c22b0 : decide (x9_17 < (l1.length : Int)) = true := decide_eq_true c22
                    clear c22
                    have H' := Aside0.mk H
                    clear H
                    go_wp2
                    go_meet
                    case rel => exact ⟨_, (!x10_5), (by first | rfl | (simp; done) | (simp [*]; done)), H', ⟨by have := HJ5.out; have := HJ17.out; first | omega | exact Nat.le_refl _⟩, ⟨by (with_reducible repeat (first | refine blk_drewN ?_ _ | refine blk_drew ?_ | refine blk_alloc ?_ _)); exact BK245.out⟩, ⟨by (with_reducible repeat (first | refine blk_drewN ?_ _ | refine blk_drew ?_ | refine blk_alloc ?_ _)); exact BK246.out⟩, ⟨by repeat (first | (with_reducible first | exact HB.out | apply below_alloc | apply pw_below_drewN | apply below_drew1 | refine below_set ?_ GE245.out | refine below_set ?_ GE246.out) | exact HB.out)⟩⟩
                  · rw [if_neg c22] at H
                    have c22b0 : decide (x9_17 < (l1.length : Int)) = false := decide_eq_false c22
                    clear c22
                    have H' := Aside0.mk H
                    clear H
                    go_wp2
                    go_meet
                    case rel => exact ⟨_, (false), (by first | rfl | (simp; done) | (simp [*]; done)), H', ⟨by have := HJ5.out; have := HJ17.out; first | omega | exact Nat.le_refl _⟩, ⟨by (with_reducible repeat (first | refine blk_drewN ?_ _ | refine blk_drew ?_ | refine blk_alloc ?_ _)); exact BK245.out⟩, ⟨by (with_reducible repeat (first | refine blk_drewN ?_ _ | refine blk_drew ?_ | refine blk_alloc ?_ _)); exact BK246.out⟩, ⟨by repeat (first | (with_reducible first | exact HB.out | apply below_alloc | apply pw_below_drewN | apply below_drew1 | refine below_set ?_ GE245.out | refine below_set ?_ GE246.out) | exact HB.out)⟩⟩
              case rest =>
                clear HC20
                try clear c1
                try clear p1
                try clear q1
                try clear hx1
                try clear c2
                try clear p2
                try clear q2
                try clear hx2
                try clear c4
                try clear c4b0
                try clear c5
                try clear c5b0
                try clear p6
                try clear c9
                try clear c13
                try clear c13b0
                try clear c13b1
                try clear c15
                try clear c15b0
                try clear c16
                try clear c16b0
                try clear p17
                try clear q17
                try clear hx17
                try clear c19
                try clear c21
                try clear c21b0
                try clear c22
                try clear c22b0
                try clear hcz10_0
                try clear hcz10_1
                try clear hcz10_2
                try clear hcz10_3
                try clear hcz10_4
                try clear hcz10_5
                try clear hcz10_6
                try clear hfz10_0
                try clear hfz10_1
                try clear hfz10_2
                try clear hfz10_3
                try clear hfz10_4
                try clear hfz10_5
                try clear hfz10_6
                try clear hx250_0
                try clear p1
                try clear p17
                try clear p2
                try clear p250
                try clear p6
                try clear q1
                try clear q17
                try clear q2
                try clear q250
                obtain ⟨kq, x52_19, rfl, HA, HJ19, BK245, BK246, HB⟩ := hcut
                cases kq with
                | zero => exact absurd HA.out (by simp [kilnref24_read.j2])
                | succ kj19 =>
                  have H := HA.out
                  clear HA
                  simp only [kilnref24_read.j2] at H
                  by_cases c23 : x52_19 = true
                  · subst c23
                    have H1 : (some (a0, (⟨#[]⟩ : ByteArray), (⟨#[]⟩ : ByteArray), ([] : List ByteArray), (⟨#[]⟩ : ByteArray), 0, 0, 243)) = some (r1, r2, r3, r4, r5, r6, r7, r8) := by rw [if_pos rfl] at H; exact H
                    clear H
                    have H := H1
                    clear H1
                    simp only [Option.some.injEq, Prod.mk.injEq] at H
                    obtain ⟨rfl, rfl, rfl, rfl, rfl, rfl, rfl, rfl⟩ := H
                    have hnb24 := NB246_245.out
                    have hnc24 := NB245_246.out
                    have hcz25_0 : wc.cell? ⟨gb246, 0, none⟩ = some (.int .i64 a0) := (blk_cell BK246.out 0).trans rfl
                    have hcz25_1 : wc.cell? ⟨gb246, 1, none⟩ = some (.string (⟨#[]⟩ : ByteArray)) := (blk_cell BK246.out 1).trans rfl
                    have hcz25_2 : wc.cell? ⟨gb246, 2, none⟩ = some (.string (⟨#[]⟩ : ByteArray)) := (blk_cell BK246.out 2).trans rfl
                    have hcz25_3 : wc.cell? ⟨gb246, 3, none⟩ = some (.slice none 0 0) := (blk_cell BK246.out 3).trans rfl
                    have hcz25_4 : wc.cell? ⟨gb246, 4, none⟩ = some (.string (⟨#[]⟩ : ByteArray)) := (blk_cell BK246.out 4).trans rfl
                    have hcz25_5 : wc.cell? ⟨gb246, 5, none⟩ = some (.int .i64 0) := (blk_cell BK246.out 5).trans rfl
                    have hcz25_6 : wc.cell? ⟨gb246, 6, none⟩ = some (.int .i64 0) := (blk_cell BK246.out 6).trans rfl
                    have hfz25_0 := blk_frozen BK246.out 0
                    have hfz25_1 := blk_frozen BK246.out 1
                    have hfz25_2 := blk_frozen BK246.out 2
                    have hfz25_3 := blk_frozen BK246.out 3
                    have hfz25_4 := blk_frozen BK246.out 4
                    have hfz25_5 := blk_frozen BK246.out 5
                    have hfz25_6 := blk_frozen BK246.out 6
                    have hcz26_0 : wc.cell? ⟨gb245, 0, none⟩ = some (.int .i64 0) := (blk_cell BK245.out 0).trans rfl
                    have hcz26_1 : wc.cell? ⟨gb245, 1, none⟩ = some (.string (⟨#[]⟩ : ByteArray)) := (blk_cell BK245.out 1).trans rfl
                    have hcz26_2 : wc.cell? ⟨gb245, 2, none⟩ = some (.string (⟨#[]⟩ : ByteArray)) := (blk_cell BK245.out 2).trans rfl
                    have hcz26_3 : wc.cell? ⟨gb245, 3, none⟩ = some (.slice none 0 0) := (blk_cell BK245.out 3).trans rfl
                    have hcz26_4 : wc.cell? ⟨gb245, 4, none⟩ = some (.string (⟨#[]⟩ : ByteArray)) := (blk_cell BK245.out 4).trans rfl
                    have hcz26_5 : wc.cell? ⟨gb245, 5, none⟩ = some (.int .i64 0) := (blk_cell BK245.out 5).trans rfl
                    have hcz26_6 : wc.cell? ⟨gb245, 6, none⟩ = some (.int .i64 0) := (blk_cell BK245.out 6).trans rfl
                    have hfz26_0 := blk_frozen BK245.out 0
                    have hfz26_1 := blk_frozen BK245.out 1
                    have hfz26_2 := blk_frozen BK245.out 2
                    have hfz26_3 := blk_frozen BK245.out 3
                    have hfz26_4 := blk_frozen BK245.out 4
                    have hfz26_5 := blk_frozen BK245.out 5
                    have hfz26_6 := blk_frozen BK245.out 6
                    go_wp2
                    refine bodyPost_ret (results_ct rfl _ _ gb245 31 #[.int .i64 a0, .string (⟨#[]⟩ : ByteArray), .string (⟨#[]⟩ : ByteArray), .slice none 0 0, .string (⟨#[]⟩ : ByteArray), .int .i64 0, .int .i64 0] (0, 0) _ rfl (by (with_reducible repeat (first | refine blk_drewN ?_ _ | refine blk_drew ?_ | refine blk_alloc ?_ _)); refine blk_put (cs := #[.int .i64 a0, .string (⟨#[]⟩ : ByteArray), .string (⟨#[]⟩ : ByteArray), .slice none 0 0, .string (⟨#[]⟩ : ByteArray), .int .i64 0, .int .i64 0]) ?_ 6 _ rfl; (with_reducible repeat (first | refine blk_drewN ?_ _ | refine blk_drew ?_ | refine blk_alloc ?_ _)); refine blk_put (cs := #[.int .i64 a0, .string (⟨#[]⟩ : ByteArray), .string (⟨#[]⟩ : ByteArray), .slice none 0 0, .string (⟨#[]⟩ : ByteArray), .int .i64 0, .int .i64 0]) ?_ 5 _ rfl; (with_reducible repeat (first | refine blk_drewN ?_ _ | refine blk_drew ?_ | refine blk_alloc ?_ _)); refine blk_put (cs := #[.int .i64 a0, .string (⟨#[]⟩ : ByteArray), .string (⟨#[]⟩ : ByteArray), .slice none 0 0, .string (⟨#[]⟩ : ByteArray), .int .i64 0, .int .i64 0]) ?_ 4 _ rfl; (with_reducible repeat (first | refine blk_drewN ?_ _ | refine blk_drew ?_ | refine blk_alloc ?_ _)); refine blk_put (cs := #[.int .i64 a0, .string (⟨#[]⟩ : ByteArray), .string (⟨#[]⟩ : ByteArray), .slice none 0 0, .string (⟨#[]⟩ : ByteArray), .int .i64 0, .int .i64 0]) ?_ 3 _ rfl; (with_reducible repeat (first | refine blk_drewN ?_ _ | refine blk_drew ?_ | refine blk_alloc ?_ _)); refine blk_put (cs := #[.int .i64 a0, .string (⟨#[]⟩ : ByteArray), .string (⟨#[]⟩ : ByteArray), .slice none 0 0, .string (⟨#[]⟩ : ByteArray), .int .i64 0, .int .i64 0]) ?_ 2 _ rfl; (with_reducible repeat (first | refine blk_drewN ?_ _ | refine blk_drew ?_ | refine blk_alloc ?_ _)); refine blk_put (cs := #[.int .i64 a0, .string (⟨#[]⟩ : ByteArray), .string (⟨#[]⟩ : ByteArray), .slice none 0 0, .string (⟨#[]⟩ : ByteArray), .int .i64 0, .int .i64 0]) ?_ 1 _ rfl; (with_reducible repeat (first | refine blk_drewN ?_ _ | refine blk_drew ?_ | refine blk_alloc ?_ _)); refine blk_put (cs := #[.int .i64 0, .string (⟨#[]⟩ : ByteArray), .string (⟨#[]⟩ : ByteArray), .slice none 0 0, .string (⟨#[]⟩ : ByteArray), .int .i64 0, .int .i64 0]) ?_ 0 _ rfl; (with_reducible repeat (first | refine blk_drewN ?_ _ | refine blk_drew ?_ | refine blk_alloc ?_ _)); exact BK245.out) Tryz.underlying31 rfl (by kernel_rfl)) rfl ?_
                    exact ⟨_, by first | rfl | (simp [errW_none, errW_some] <;> rfl) | (simp [*, errW_none, errW_some] <;> rfl), by first | exact Kd.R_nil _ _ _ _ _ | exact Kd.N_nil _ _ _ _ _ | exact Kd.V_nil _ _ _ _ _ | exact Kd.Q_nil _ _ _ _ _ | exact Kd.S_nil _ _ _ _ _, by repeat (first | (with_reducible first | exact HB.out | apply below_alloc | apply pw_below_drewN | apply below_drew1 | refine below_set ?_ GE245.out | refine below_set ?_ GE246.out) | exact HB.out)⟩
                  · replace c23 := Bool.eq_false_iff.mpr c23
                    subst c23
                    have H1 : (kilnref24_read.l0 kj19 l1 (rdOf ByteArray.empty t247 a0) x9_17 0 a0 (⟨#[]⟩ : ByteArray) (⟨#[]⟩ : ByteArray) ([] : List ByteArray) (⟨#[]⟩ : ByteArray) 0 0) = some (r1, r2, r3, r4, r5, r6, r7, r8) := by rw [if_neg (show ¬ (false = true) by decide)] at H; exact H
                    clear H
                    have H := H1
                    clear H1
                    have H' := Aside0.mk H
                    clear H
                    go_wp2
                    go_loopg [11] kj19 (fun kq v11 w' => ∃ (x11_4 : Int) (x246000_4 : Int) (x246001_4 : ByteArray) (x246002_4 : ByteArray) (x246004_4 : ByteArray) (x246005_4 : Int) (x246006_4 : Int) (x247001_4 : ByteArray) (x247002_4 : ByteArray) (x247003_4 : List ByteArray) (x247004_4 : ByteArray) (x247005_4 : Int) (x247006_4 : Int) (u247003 : Value), v11 = .int .i64 x11_4 ∧ Aside0 (kilnref24_read.l0 kq l1 (rdOf ByteArray.empty t247 a0) x9_17 x11_4 a0 x247001_4 x247002_4 x247003_4 x247004_4 x247005_4 x247006_4 = some (r1, r2, r3, r4, r5, r6, r7, r8)) ∧ Aside0 (kq ≤ kj19) ∧ Aside0 (Kd.R Kd.string 9 w' w.heap.size (fun _ => True) u247003 x247003_4) ∧ Aside0 (w'.heap[gb245]? = some (.cells #[.int .i64 x246000_4, .string x246001_4, .string x246002_4, (.slice none 0 0), .string x246004_4, .int .i64 x246005_4, .int .i64 x246006_4] 31 (0, 0))) ∧ Aside0 (w'.heap[gb246]? = some (.cells #[.int .i64 a0, .string x247001_4, .string x247002_4, u247003, .string x247004_4, .int .i64 x247005_4, .int .i64 x247006_4] 31 (0, 0))) ∧ Aside0 (Below w.heap.size w w'))
                    case atStart => exact ⟨(0), (0), ((⟨#[]⟩ : ByteArray)), ((⟨#[]⟩ : ByteArray)), ((⟨#[]⟩ : ByteArray)), (0), (0), ((⟨#[]⟩ : ByteArray)), ((⟨#[]⟩ : ByteArray)), (([] : List ByteArray)), ((⟨#[]⟩ : ByteArray)), (0), (0), (.slice none 0 0), (by first | rfl | (simp; done) | (simp [*]; done)), H', ⟨Nat.le_refl _⟩, ⟨by first | exact Kd.R_nil _ _ _ _ _ | exact Kd.N_nil _ _ _ _ _ | exact Kd.V_nil _ _ _ _ _ | exact Kd.Q_nil _ _ _ _ _ | exact Kd.S_nil _ _ _ _ _⟩, ⟨by (with_reducible repeat (first | refine blk_drewN ?_ _ | refine blk_drew ?_ | refine blk_alloc ?_ _)); exact BK245.out⟩, ⟨by (with_reducible repeat (first | refine blk_drewN ?_ _ | refine blk_drew ?_ | refine blk_alloc ?_ _)); exact BK246.out⟩, ⟨by repeat (first | (with_reducible first | exact HB.out | apply below_alloc | apply pw_below_drewN | apply below_drew1 | refine below_set ?_ GE245.out | refine below_set ?_ GE246.out) | exact HB.out)⟩⟩
                    case round =>
                      clear H'
                      try clear c1
                      try clear p1
                      try clear q1
                      try clear hx1
                      try clear c2
                      try clear p2
                      try clear q2
                      try clear hx2
                      try clear c4
                      try clear c4b0
                      try clear c5
                      try clear c5b0
                      try clear p6
                      try clear c9
                      try clear c13
                      try clear c13b0
                      try clear c13b1
                      try clear c15
                      try clear c15b0
                      try clear c16
                      try clear c16b0
                      try clear p17
                      try clear q17
                      try clear hx17
                      try clear c19
                      try clear c21
                      try clear c21b0
                      try clear c22
                      try clear c22b0
                      try clear c23
                      try clear c24
                      try clear p25
                      try clear q25
                      try clear hx25
                      try clear hcz10_0
                      try clear hcz10_1
                      try clear hcz10_2
                      try clear hcz10_3
                      try clear hcz10_4
                      try clear hcz10_5
                      try clear hcz10_6
                      try clear hcz25_0
                      try clear hcz25_1
                      try clear hcz25_2
                      try clear hcz25_3
                      try clear hcz25_4
                      try clear hcz25_5
                      try clear hcz25_6
                      try clear hcz26_0
                      try clear hcz26_1
                      try clear hcz26_2
                      try clear hcz26_3
                      try clear hcz26_4
                      try clear hcz26_5
                      try clear hcz26_6
                      try clear hfz10_0
                      try clear hfz10_1
                      try clear hfz10_2
                      try clear hfz10_3
                      try clear hfz10_4
                      try clear hfz10_5
                      try clear hfz10_6
                      try clear hfz25_0
                      try clear hfz25_1
                      try clear hfz25_2
                      try clear hfz25_3
                      try clear hfz25_4
                      try clear hfz25_5
                      try clear hfz25_6
                      try clear hfz26_0
                      try clear hfz26_1
                      try clear hfz26_2
                      try clear hfz26_3
                      try clear hfz26_4
                      try clear hfz26_5
                      try clear hfz26_6
                      try clear hx250_0
                      try clear p1
                      try clear p17
                      try clear p2
                      try clear p250
                      try clear p6
                      try clear q1
                      try clear q17
                      try clear q2
                      try clear q250
                      obtain ⟨x11_4, x246000_4, x246001_4, x246002_4, x246004_4, x246005_4, x246006_4, x247001_4, x247002_4, x247003_4, x247004_4, x247005_4, x247006_4, u247003, rfl, HA, HK4, HO_247003, BK245, BK246, HB⟩ := hrel
                      cases gk with
                      | zero => exact absurd HA.out (by simp [kilnref24_read.l0])
                      | succ k4 =>
                        have H := HA.out
                        clear HA
                        simp only [kilnref24_read.l0] at H
                        by_cases c27 : x11_4 < (l1.length : Int)
                        · rw [if_pos c27] at H
                          have c27b0 : decide (x11_4 < (l1.length : Int)) = true := decide_eq_true c27
                          clear c27
                          have HC28 := Aside0.mk H
                          clear H
                          go_upto_if 62 with (fail)
                          go_cut [12] (fun v12 wc => ∃ (kq : Nat) (x12_27 : Int), v12 = .int .u8 x12_27 ∧ Aside0 (kilnref24_read.j4 kq l1 (rdOf ByteArray.empty t247 a0) x9_17 x11_4 x12_27 a0 x247001_4 x247002_4 x247003_4 x247004_4 x247005_4 x247006_4 = some (r1, r2, r3, r4, r5, r6, r7, r8)) ∧ Aside0 (kq ≤ k4) ∧ Aside0 (Kd.R Kd.string 9 wc w.heap.size (fun _ => True) u247003 x247003_4) ∧ Aside0 (wc.heap[gb245]? = some (.cells #[.int .i64 x246000_4, .string x246001_4, .string x246002_4, (.slice none 0 0), .string x246004_4, .int .i64 x246005_4, .int .i64 x246006_4] 31 (0, 0))) ∧ Aside0 (wc.heap[gb246]? = some (.cells #[.int .i64 a0, .string x247001_4, .string x247002_4, u247003, .string x247004_4, .int .i64 x247005_4, .int .i64 x247006_4] 31 (0, 0))) ∧ Aside0 (Below w.heap.size w wc))
                          case first =>
                            have H := HC28.out
                            clear HC28
                            by_cases c29 : x11_4 < x9_17
                            · rw [if_pos c29] at H
                              have c29b0 : decide (x11_4 < x9_17) = true := decide_eq_true c29
                              clear c29
                              (first | rw [c29b0] | (simp only [i64_w, i32_w]; rw [c29b0]) | skip)
                              by_cases c30 : 0 ≤ x11_4
                              · rw [if_pos c30] at H
                                have c30b0 : decide (0 ≤ x11_4) = true := decide_eq_true c30
                                clear c30
                                by_cases c31 : x11_4 < ((rdOf ByteArray.empty t247 a0).size : Int)
                                · rw [if_pos c31] at H
                                  have c31b0 : decide (x11_4 < ((rdOf ByteArray.empty t247 a0).size : Int)) = true := decide_eq_true c31
                                  clear c31
                                  have H' := Aside0.mk H
                                  clear H
                                  have p32 : 0 ≤ (x11_4 : Int) := of_decide_eq_true (by first | (with_reducible assumption) | assumption)
                                  have q32 : x11_4 < ((rdOf ByteArray.empty t247 a0).size : Int) := of_decide_eq_true (by first | (with_reducible assumption) | assumption)
                                  have hx32 := bt_at (rdOf ByteArray.empty t247 a0) x11_4
                                  replace p32 := eq_true p32
                                  replace q32 := eq_true q32
                                  go_wp2
                                  go_meet
                                  case rel => exact ⟨_, (bt (rdOf ByteArray.empty t247 a0) x11_4), (by first | rfl | (simp; done) | (simp [*]; done)), H', ⟨by have := HJ5.out; have := HJ17.out; have := HJ19.out; have := HK4.out; first | omega | exact Nat.le_refl _⟩, ⟨by (with_reducible repeat (first | apply Kd.R_alloc | apply Kd.R_drewN | apply Kd.R_drew)); exact HO_247003.out⟩, ⟨by (with_reducible repeat (first | refine blk_drewN ?_ _ | refine blk_drew ?_ | refine blk_alloc ?_ _)); exact BK245.out⟩, ⟨by (with_reducible repeat (first | refine blk_drewN ?_ _ | refine blk_drew ?_ | refine blk_alloc ?_ _)); exact BK246.out⟩, ⟨by repeat (first | (with_reducible first | exact HB.out | apply below_alloc | apply pw_below_drewN | apply below_drew1 | refine below_set ?_ GE245.out | refine below_set ?_ GE246.out) | exact HB.out)⟩⟩
                                · rw [if_neg c31] at H
                                  exact absurd H (by simp)
                              · rw [if_neg c30] at H
                                exact absurd H (by simp)
                            · rw [if_neg c29] at H
                              have c29b0 : decide (x11_4 < x9_17) = false := decide_eq_false c29
                              clear c29
                              (first | rw [c29b0] | (simp only [i64_w, i32_w]; rw [c29b0]) | skip)
                              have H' := Aside0.mk H
                              clear H
                              go_wp2
                              go_meet
                              case rel => exact ⟨_, (42), (by first | rfl | (simp; done) | (simp [*]; done)), H', ⟨by have := HJ5.out; have := HJ17.out; have := HJ19.out; have := HK4.out; first | omega | exact Nat.le_refl _⟩, ⟨by (with_reducible repeat (first | apply Kd.R_alloc | apply Kd.R_drewN | apply Kd.R_drew)); exact HO_247003.out⟩, ⟨by (with_reducible repeat (first | refine blk_drewN ?_ _ | refine blk_drew ?_ | refine blk_alloc ?_ _)); exact BK245.out⟩, ⟨by (with_reducible repeat (first | refine blk_drewN ?_ _ | refine blk_drew ?_ | refine blk_alloc ?_ _)); exact BK246.out⟩, ⟨by repeat (first | (with_reducible first | exact HB.out | apply below_alloc | apply pw_below_drewN | apply below_drew1 | refine below_set ?_ GE245.out | refine below_set ?_ GE246.out) | exact HB.out)⟩⟩
                          case rest =>
                            clear HC28
                            try clear c1
                            try clear p1
                            try clear q1
                            try clear hx1
                            try clear c2
                            try clear p2
                            try clear q2
                            try clear hx2
                            try clear c3
                            try clear p3
                            try clear q3
                            try clear hx3
                            try clear c4
                            try clear c4b0
                            try clear c5
                            try clear c5b0
                            try clear p6
                            try clear c9
                            try clear c13
                            try clear c13b0
                            try clear c13b1
                            try clear c15
                            try clear c15b0
                            try clear c16
                            try clear c16b0
                            try clear p17
                            try clear q17
                            try clear hx17
                            try clear c19
                            try clear c21
                            try clear c21b0
                            try clear c22
                            try clear c22b0
                            try clear c23
                            try clear c24
                            try clear p25
                            try clear q25
                            try clear hx25
                            try clear c27
                            try clear c27b0
                            try clear c29
                            try clear c29b0
                            try clear c30
                            try clear c30b0
                            try clear c31
                            try clear c31b0
                            try clear p32
                            try clear q32
                            try clear hx32
                            try clear hcz10_0
                            try clear hcz10_1
                            try clear hcz10_2
                            try clear hcz10_3
                            try clear hcz10_4
                            try clear hcz10_5
                            try clear hcz10_6
                            try clear hcz25_0
                            try clear hcz25_1
                            try clear hcz25_2
                            try clear hcz25_3
                            try clear hcz25_4
                            try clear hcz25_5
                            try clear hcz25_6
                            try clear hcz26_0
                            try clear hcz26_1
                            try clear hcz26_2
                            try clear hcz26_3
                            try clear hcz26_4
                            try clear hcz26_5
                            try clear hcz26_6
                            try clear hfz10_0
                            try clear hfz10_1
                            try clear hfz10_2
                            try clear hfz10_3
                            try clear hfz10_4
                            try clear hfz10_5
                            try clear hfz10_6
                            try clear hfz25_0
                            try clear hfz25_1
                            try clear hfz25_2
                            try clear hfz25_3
                            try clear hfz25_4
                            try clear hfz25_5
                            try clear hfz25_6
                            try clear hfz26_0
                            try clear hfz26_1
                            try clear hfz26_2
                            try clear hfz26_3
                            try clear hfz26_4
                            try clear hfz26_5
                            try clear hfz26_6
                            try clear hx250_0
                            try clear p1
                            try clear p17
                            try clear p2
                            try clear p25
                            try clear p250
                            try clear p32
                            try clear p6
                            try clear q1
                            try clear q17
                            try clear q2
                            try clear q25
                            try clear q250
                            try clear q32
                            obtain ⟨kq, x12_27, rfl, HA, HJ27, HO_247003, BK245, BK246, HB⟩ := hcut
                            cases kq with
                            | zero => exact absurd HA.out (by simp [kilnref24_read.j4])
                            | succ kj27 =>
                              have H := HA.out
                              clear HA
                              simp only [kilnref24_read.j4] at H
                              by_cases c33 : 0 ≤ x11_4
                              · rw [if_pos c33] at H
                                have c33b0 : decide (0 ≤ x11_4) = true := decide_eq_true c33
                                clear c33
                                by_cases c34 : x11_4 < (l1.length : Int)
                                · rw [if_pos c34] at H
                                  have c34b0 : decide (x11_4 < (l1.length : Int)) = true := decide_eq_true c34
                                  clear c34
                                  replace H := Option.bind_eq_some_iff.mp H
                                  obtain ⟨⟨t252, t253⟩, A350, H⟩ := H
                                  replace H : ((kilnref24_number.f kj27 (rdOf ByteArray.empty l1 x11_4)).bind fun bt255 => (if x12_27 = 110 then (if t253 = true then (kilnref24_read.l0 kj27 l1 (rdOf ByteArray.empty t247 a0) x9_17 (wrap64 (x11_4 + 1)) a0 t252 x247002_4 x247003_4 x247004_4 x247005_4 x247006_4) else (some (a0, t252, x247002_4, x247003_4, x247004_4, x247005_4, x247006_4, 244))) else (if x12_27 = 111 then (if t253 = true then (kilnref24_read.l0 kj27 l1 (rdOf ByteArray.empty t247 a0) x9_17 (wrap64 (x11_4 + 1)) a0 x247001_4 t252 x247003_4 x247004_4 x247005_4 x247006_4) else (some (a0, x247001_4, t252, x247003_4, x247004_4, x247005_4, x247006_4, 244))) else (if x12_27 = 116 then (if t253 = true then (kilnref24_read.l0 kj27 l1 (rdOf ByteArray.empty t247 a0) x9_17 (wrap64 (x11_4 + 1)) a0 x247001_4 x247002_4 x247003_4 t252 x247005_4 x247006_4) else (some (a0, x247001_4, x247002_4, x247003_4, t252, x247005_4, x247006_4, 244))) else (if x12_27 = 42 then (if x247003_4.length < 8796093022208 then ((some (x247003_4 ++ [t252] : List ByteArray)).bind fun y257 => (if t253 = true then (kilnref24_read.l0 kj27 l1 (rdOf ByteArray.empty t247 a0) x9_17 (wrap64 (x11_4 + 1)) a0 x247001_4 x247002_4 y257 x247004_4 x247005_4 x247006_4) else (some (a0, x247001_4, x247002_4, y257, x247004_4, x247005_4, x247006_4, 244)))) else (none)) else (if x12_27 = 35 then (if bt255.2 = true then (kilnref24_read.l0 kj27 l1 (rdOf ByteArray.empty t247 a0) x9_17 (wrap64 (x11_4 + 1)) a0 x247001_4 x247002_4 x247003_4 x247004_4 bt255.1 x247006_4) else (some (a0, x247001_4, x247002_4, x247003_4, x247004_4, bt255.1, x247006_4, 244))) else (if x12_27 = 102 then (if bt255.2 = true then (kilnref24_read.l0 kj27 l1 (rdOf ByteArray.empty t247 a0) x9_17 (wrap64 (x11_4 + 1)) a0 x247001_4 x247002_4 x247003_4 x247004_4 x247005_4 bt255.1) else (some (a0, x247001_4, x247002_4, x247003_4, x247004_4, x247005_4, bt255.1, 244))) else (if t253 = true then (kilnref24_read.l0 kj27 l1 (rdOf ByteArray.empty t247 a0) x9_17 (wrap64 (x11_4 + 1)) a0 x247001_4 x247002_4 x247003_4 x247004_4 x247005_4 x247006_4) else (some (a0, x247001_4, x247002_4, x247003_4, x247004_4, x247005_4, x247006_4, 244)))))))))) = some (r1, r2, r3, r4, r5, r6, r7, r8) := H
                                  have A35 := Aside0.mk A350
                                  clear A350
                                  replace H := Option.bind_eq_some_iff.mp H
                                  obtain ⟨⟨t255, t256⟩, A360, H⟩ := H
                                  replace H : (if x12_27 = 110 then (if t253 = true then (kilnref24_read.l0 kj27 l1 (rdOf ByteArray.empty t247 a0) x9_17 (wrap64 (x11_4 + 1)) a0 t252 x247002_4 x247003_4 x247004_4 x247005_4 x247006_4) else (some (a0, t252, x247002_4, x247003_4, x247004_4, x247005_4, x247006_4, 244))) else (if x12_27 = 111 then (if t253 = true then (kilnref24_read.l0 kj27 l1 (rdOf ByteArray.empty t247 a0) x9_17 (wrap64 (x11_4 + 1)) a0 x247001_4 t252 x247003_4 x247004_4 x247005_4 x247006_4) else (some (a0, x247001_4, t252, x247003_4, x247004_4, x247005_4, x247006_4, 244))) else (if x12_27 = 116 then (if t253 = true then (kilnref24_read.l0 kj27 l1 (rdOf ByteArray.empty t247 a0) x9_17 (wrap64 (x11_4 + 1)) a0 x247001_4 x247002_4 x247003_4 t252 x247005_4 x247006_4) else (some (a0, x247001_4, x247002_4, x247003_4, t252, x247005_4, x247006_4, 244))) else (if x12_27 = 42 then (if x247003_4.length < 8796093022208 then ((some (x247003_4 ++ [t252] : List ByteArray)).bind fun y257 => (if t253 = true then (kilnref24_read.l0 kj27 l1 (rdOf ByteArray.empty t247 a0) x9_17 (wrap64 (x11_4 + 1)) a0 x247001_4 x247002_4 y257 x247004_4 x247005_4 x247006_4) else (some (a0, x247001_4, x247002_4, y257, x247004_4, x247005_4, x247006_4, 244)))) else (none)) else (if x12_27 = 35 then (if t256 = true then (kilnref24_read.l0 kj27 l1 (rdOf ByteArray.empty t247 a0) x9_17 (wrap64 (x11_4 + 1)) a0 x247001_4 x247002_4 x247003_4 x247004_4 t255 x247006_4) else (some (a0, x247001_4, x247002_4, x247003_4, x247004_4, t255, x247006_4, 244))) else (if x12_27 = 102 then (if t256 = true then (kilnref24_read.l0 kj27 l1 (rdOf ByteArray.empty t247 a0) x9_17 (wrap64 (x11_4 + 1)) a0 x247001_4 x247002_4 x247003_4 x247004_4 x247005_4 t255) else (some (a0, x247001_4, x247002_4, x247003_4, x247004_4, x247005_4, t255, 244))) else (if t253 = true then (kilnref24_read.l0 kj27 l1 (rdOf ByteArray.empty t247 a0) x9_17 (wrap64 (x11_4 + 1)) a0 x247001_4 x247002_4 x247003_4 x247004_4 x247005_4 x247006_4) else (some (a0, x247001_4, x247002_4, x247003_4, x247004_4, x247005_4, x247006_4, 244))))))))) = some (r1, r2, r3, r4, r5, r6, r7, r8) := H
                                  have A36 := Aside0.mk A360
                                  clear A360
                                  by_cases c37 : x12_27 = 110
                                  · rw [if_pos c37] at H
                                    have c37b0 : (x12_27 == 110) = true := beq_iff_eq.mpr c37
                                    have c37b1 : (x12_27 != 110) = false := bne_eq_false_iff_eq.mpr c37
                                    clear c37
                                    by_cases c38 : t253 = true
                                    · subst c38
                                      have H1 : (kilnref24_read.l0 kj27 l1 (rdOf ByteArray.empty t247 a0) x9_17 (wrap64 (x11_4 + 1)) a0 t252 x247002_4 x247003_4 x247004_4 x247005_4 x247006_4) = some (r1, r2, r3, r4, r5, r6, r7, r8) := by rw [if_pos rfl] at H; exact H
                                      clear H
                                      have H := H1
                                      clear H1
                                      have H' := Aside0.mk H
                                      clear H
                                      have p251 : 0 ≤ (x11_4 : Int) := of_decide_eq_true (by first | (with_reducible assumption) | assumption)
                                      have q251 : x11_4 < (l1.length : Int) := of_decide_eq_true (by first | (with_reducible assumption) | assumption)
                                      obtain ⟨ad251, e251, hx251_0⟩ := Kd.at_string HR1.out x11_4 p251 q251
                                      cases e251
                                      replace hx251_0 := (HB.out.cell (World.block_lt_of_cell? w _ hx251_0)).trans hx251_0
                                      replace p251 := eq_true p251
                                      replace q251 := eq_true q251
                                      go_wp2_with (first | ((with_reducible refine gate_callee (f := 79) rfl ?_); refine goesL_ (some 71) rfl rfl Tryz.func79 (by kernel_rfl) rfl #[.string (rdOf ByteArray.empty l1 x11_4)] rfl (by (try simp only [List.map_toArray, List.map_cons, List.map_nil]); first | done | rfl | (simp only [List.length_drop, List.length_take]; rfl)) ?_; (with_reducible refine (kilnref24_Unwritten.calls kj27 (rdOf ByteArray.empty l1 x11_4) t252 true _ A35.out).mono ?_); rintro e w39 ⟨rfl, hb⟩; refine ⟨_, rfl, ?_⟩; have n0_ := Aside0.mk (Kd.R_below (by (with_reducible repeat (first | apply Kd.R_alloc | apply Kd.R_drewN | apply Kd.R_drew)); exact HO_247003.out) hb); have n1_ := Aside0.mk (blk_below (g := gb245) (o := .cells #[.int .i64 x246000_4, .string x246001_4, .string x246002_4, .slice none 0 0, .string x246004_4, .int .i64 x246005_4, .int .i64 x246006_4] 31 (0, 0)) (by (with_reducible repeat (first | refine blk_drewN ?_ _ | refine blk_drew ?_ | refine blk_alloc ?_ _)); exact BK245.out) hb); have n2_ := Aside0.mk (blk_below (g := gb246) (o := .cells #[.int .i64 a0, .string x247001_4, .string x247002_4, u247003, .string x247004_4, .int .i64 x247005_4, .int .i64 x247006_4] 31 (0, 0)) (by (with_reducible repeat (first | refine blk_drewN ?_ _ | refine blk_drew ?_ | refine blk_alloc ?_ _)); exact BK246.out) hb); have n3_ := Aside0.mk (below_step (by repeat (first | (with_reducible first | exact HB.out | apply below_alloc | apply pw_below_drewN | apply below_drew1 | refine below_set ?_ GE245.out | refine below_set ?_ GE246.out) | exact HB.out)) hb); clear HO_247003; clear BK245; clear BK246; clear HB; have HO_247003 := n0_; have BK245 := n1_; have BK246 := n2_; have HB := n3_; clear n0_ n1_ n2_ n3_; (try clear hb); (try clear hb2); (try clear hk); (try clear hi); have p254 : 0 ≤ (x11_4 : Int) := of_decide_eq_true (by first | (with_reducible assumption) | assumption); have q254 : x11_4 < (l1.length : Int) := of_decide_eq_true (by first | (with_reducible assumption) | assumption); obtain ⟨ad254, e254, hx254_0⟩ := Kd.at_string HR1.out x11_4 p254 q254; obtain rfl : ad251 = ad254 := (by injection e254); replace hx254_0 := (HB.out.cell (World.block_lt_of_cell? w _ hx254_0)).trans hx254_0; replace p254 := eq_true p254; replace q254 := eq_true q254) | ((with_reducible refine gate_callee (f := 78) rfl ?_); refine goesL_ (some 79) rfl rfl Tryz.func78 (by kernel_rfl) rfl #[.string (rdOf ByteArray.empty l1 x11_4)] rfl (by (try simp only [List.map_toArray, List.map_cons, List.map_nil]); first | done | rfl | (simp only [List.length_drop, List.length_take]; rfl)) ?_; (with_reducible refine (kilnref24_number.calls kj27 (rdOf ByteArray.empty l1 x11_4) t255 t256 _ A36.out).mono ?_); rintro e w' ⟨rfl, ⟨nd, rfl⟩⟩; refine ⟨_, rfl, ?_⟩; (try (rw [drewN_self w39]; generalize hq_ : World.drewN w39 _ = w39; have n0_ : Aside0 (Kd.R Kd.string 9 w39 w.heap.size (fun _ => True) u247003 x247003_4) := ⟨by rw [← hq_]; exact (by (with_reducible repeat (first | apply Kd.R_alloc | apply Kd.R_drewN | apply Kd.R_drew)); exact HO_247003.out)⟩; have n1_ : Aside0 (w39.heap[gb245]? = some (.cells #[.int .i64 x246000_4, .string x246001_4, .string x246002_4, .slice none 0 0, .string x246004_4, .int .i64 x246005_4, .int .i64 x246006_4] 31 (0, 0))) := ⟨by rw [← hq_]; exact (by (with_reducible repeat (first | refine blk_drewN ?_ _ | refine blk_drew ?_ | refine blk_alloc ?_ _)); exact BK245.out)⟩; have n2_ : Aside0 (w39.heap[gb246]? = some (.cells #[.int .i64 a0, .string x247001_4, .string x247002_4, u247003, .string x247004_4, .int .i64 x247005_4, .int .i64 x247006_4] 31 (0, 0))) := ⟨by rw [← hq_]; exact (by (with_reducible repeat (first | refine blk_drewN ?_ _ | refine blk_drew ?_ | refine blk_alloc ?_ _)); exact BK246.out)⟩; have n3_ : Aside0 (Below w.heap.size w w39) := ⟨by rw [← hq_]; exact (by repeat (first | (with_reducible first | exact HB.out | apply below_alloc | apply pw_below_drewN | apply below_drew1 | refine below_set ?_ GE245.out | refine below_set ?_ GE246.out) | exact HB.out))⟩; clear HO_247003 BK245 BK246 HB hq_; have HO_247003 := n0_; have BK245 := n1_; have BK246 := n2_; have HB := n3_; clear n0_ n1_ n2_ n3_)); have hnb40 := NB246_245.out; have hnc40 := NB245_246.out; have hcz41_0 : w39.cell? ⟨gb246, 0, none⟩ = some (.int .i64 a0) := (blk_cell BK246.out 0).trans rfl; have hcz41_1 : w39.cell? ⟨gb246, 1, none⟩ = some (.string x247001_4) := (blk_cell BK246.out 1).trans rfl; have hcz41_2 : w39.cell? ⟨gb246, 2, none⟩ = some (.string x247002_4) := (blk_cell BK246.out 2).trans rfl; have hcz41_3 : w39.cell? ⟨gb246, 3, none⟩ = some (u247003) := (blk_cell BK246.out 3).trans rfl; have hcz41_4 : w39.cell? ⟨gb246, 4, none⟩ = some (.string x247004_4) := (blk_cell BK246.out 4).trans rfl; have hcz41_5 : w39.cell? ⟨gb246, 5, none⟩ = some (.int .i64 x247005_4) := (blk_cell BK246.out 5).trans rfl; have hcz41_6 : w39.cell? ⟨gb246, 6, none⟩ = some (.int .i64 x247006_4) := (blk_cell BK246.out 6).trans rfl; have hfz41_0 := blk_frozen BK246.out 0; have hfz41_1 := blk_frozen BK246.out 1; have hfz41_2 := blk_frozen BK246.out 2; have hfz41_3 := blk_frozen BK246.out 3; have hfz41_4 := blk_frozen BK246.out 4; have hfz41_5 := blk_frozen BK246.out 5; have hfz41_6 := blk_frozen BK246.out 6))
                                      go_roundg kj27
                                      case measure => have := HJ5.out; have := HJ17.out; have := HJ19.out; have := HK4.out; have := HJ27.out; omega
                                      case rel => exact ⟨(wrap64 (x11_4 + 1)), (x246000_4), (x246001_4), (x246002_4), (x246004_4), (x246005_4), (x246006_4), (t252), (x247002_4), (x247003_4), (x247004_4), (x247005_4), (x247006_4), (u247003), (by first | rfl | (simp; done) | (simp [*]; done)), H', ⟨by have := HJ5.out; have := HJ17.out; have := HJ19.out; have := HK4.out; have := HJ27.out; omega⟩, ⟨by (with_reducible repeat (first | apply Kd.R_alloc | apply Kd.R_drewN | apply Kd.R_drew)); exact Kd.R_mono (Kd.R_far (p := ⟨gb246, 1, none⟩) (Kd.R_types HO_247003.out BK246.out (by decide)) (fun _ hk => hk.2) (.string t252)) (fun _ hk => trivial)⟩, ⟨by (with_reducible repeat (first | refine blk_drewN ?_ _ | refine blk_drew ?_ | refine blk_alloc ?_ _)); refine blk_far ?_ NB245_246.out _; (with_reducible repeat (first | refine blk_drewN ?_ _ | refine blk_drew ?_ | refine blk_alloc ?_ _)); exact BK245.out⟩, ⟨by (with_reducible repeat (first | refine blk_drewN ?_ _ | refine blk_drew ?_ | refine blk_alloc ?_ _)); refine blk_put (cs := #[.int .i64 a0, .string x247001_4, .string x247002_4, u247003, .string x247004_4, .int .i64 x247005_4, .int .i64 x247006_4]) ?_ 1 _ rfl; (with_reducible repeat (first | refine blk_drewN ?_ _ | refine blk_drew ?_ | refine blk_alloc ?_ _)); exact BK246.out⟩, ⟨by repeat (first | (with_reducible first | exact HB.out | apply below_alloc | apply pw_below_drewN | apply below_drew1 | refine below_set ?_ GE245.out | refine below_set ?_ GE246.out) | exact HB.out)⟩⟩
                                    · replace c38 := Bool.eq_false_iff.mpr c38
                                      subst c38
                                      have H1 : (some (a0, t252, x247002_4, x247003_4, x247004_4, x247005_4, x247006_4, 244)) = some (r1, r2, r3, r4, r5, r6, r7, r8) := by rw [if_neg (show ¬ (false = true) by decide)] at H; exact H
                                      clear H
                                      have H := H1
                                      clear H1
                                      simp only [Option.some.injEq, Prod.mk.injEq] at H
                                      obtain ⟨rfl, rfl, rfl, rfl, rfl, rfl, rfl, rfl⟩ := H
                                      have p251 : 0 ≤ (x11_4 : Int) := of_decide_eq_true (by first | (with_reducible assumption) | assumption)
                                      have q251 : x11_4 < (l1.length : Int) := of_decide_eq_true (by first | (with_reducible assumption) | assumption)
                                      obtain ⟨ad251, e251, hx251_0⟩ := Kd.at_string HR1.out x11_4 p251 q251
                                      cases e251
                                      replace hx251_0 := (HB.out.cell (World.block_lt_of_cell? w _ hx251_0)).trans hx251_0
                                      replace p251 := eq_true p251
                                      replace q251 := eq_true q251
                                      go_wp2_with (first | ((with_reducible refine gate_callee (f := 79) rfl ?_); refine goesL_ (some 71) rfl rfl Tryz.func79 (by kernel_rfl) rfl #[.string (rdOf ByteArray.empty l1 x11_4)] rfl (by (try simp only [List.map_toArray, List.map_cons, List.map_nil]); first | done | rfl | (simp only [List.length_drop, List.length_take]; rfl)) ?_; (with_reducible refine (kilnref24_Unwritten.calls kj27 (rdOf ByteArray.empty l1 x11_4) t252 false _ A35.out).mono ?_); rintro e w42 ⟨rfl, hb⟩; refine ⟨_, rfl, ?_⟩; have n0_ := Aside0.mk (Kd.R_below (by (with_reducible repeat (first | apply Kd.R_alloc | apply Kd.R_drewN | apply Kd.R_drew)); exact HO_247003.out) hb); have n1_ := Aside0.mk (blk_below (g := gb245) (o := .cells #[.int .i64 x246000_4, .string x246001_4, .string x246002_4, .slice none 0 0, .string x246004_4, .int .i64 x246005_4, .int .i64 x246006_4] 31 (0, 0)) (by (with_reducible repeat (first | refine blk_drewN ?_ _ | refine blk_drew ?_ | refine blk_alloc ?_ _)); exact BK245.out) hb); have n2_ := Aside0.mk (blk_below (g := gb246) (o := .cells #[.int .i64 a0, .string x247001_4, .string x247002_4, u247003, .string x247004_4, .int .i64 x247005_4, .int .i64 x247006_4] 31 (0, 0)) (by (with_reducible repeat (first | refine blk_drewN ?_ _ | refine blk_drew ?_ | refine blk_alloc ?_ _)); exact BK246.out) hb); have n3_ := Aside0.mk (below_step (by repeat (first | (with_reducible first | exact HB.out | apply below_alloc | apply pw_below_drewN | apply below_drew1 | refine below_set ?_ GE245.out | refine below_set ?_ GE246.out) | exact HB.out)) hb); clear HO_247003; clear BK245; clear BK246; clear HB; have HO_247003 := n0_; have BK245 := n1_; have BK246 := n2_; have HB := n3_; clear n0_ n1_ n2_ n3_; (try clear hb); (try clear hb2); (try clear hk); (try clear hi); have p254 : 0 ≤ (x11_4 : Int) := of_decide_eq_true (by first | (with_reducible assumption) | assumption); have q254 : x11_4 < (l1.length : Int) := of_decide_eq_true (by first | (with_reducible assumption) | assumption); obtain ⟨ad254, e254, hx254_0⟩ := Kd.at_string HR1.out x11_4 p254 q254; obtain rfl : ad251 = ad254 := (by injection e254); replace hx254_0 := (HB.out.cell (World.block_lt_of_cell? w _ hx254_0)).trans hx254_0; replace p254 := eq_true p254; replace q254 := eq_true q254) | ((with_reducible refine gate_callee (f := 78) rfl ?_); refine goesL_ (some 79) rfl rfl Tryz.func78 (by kernel_rfl) rfl #[.string (rdOf ByteArray.empty l1 x11_4)] rfl (by (try simp only [List.map_toArray, List.map_cons, List.map_nil]); first | done | rfl | (simp only [List.length_drop, List.length_take]; rfl)) ?_; (with_reducible refine (kilnref24_number.calls kj27 (rdOf ByteArray.empty l1 x11_4) t255 t256 _ A36.out).mono ?_); rintro e w' ⟨rfl, ⟨nd, rfl⟩⟩; refine ⟨_, rfl, ?_⟩; (try (rw [drewN_self w42]; generalize hq_ : World.drewN w42 _ = w42; have n0_ : Aside0 (Kd.R Kd.string 9 w42 w.heap.size (fun _ => True) u247003 x247003_4) := ⟨by rw [← hq_]; exact (by (with_reducible repeat (first | apply Kd.R_alloc | apply Kd.R_drewN | apply Kd.R_drew)); exact HO_247003.out)⟩; have n1_ : Aside0 (w42.heap[gb245]? = some (.cells #[.int .i64 x246000_4, .string x246001_4, .string x246002_4, .slice none 0 0, .string x246004_4, .int .i64 x246005_4, .int .i64 x246006_4] 31 (0, 0))) := ⟨by rw [← hq_]; exact (by (with_reducible repeat (first | refine blk_drewN ?_ _ | refine blk_drew ?_ | refine blk_alloc ?_ _)); exact BK245.out)⟩; have n2_ : Aside0 (w42.heap[gb246]? = some (.cells #[.int .i64 a0, .string x247001_4, .string x247002_4, u247003, .string x247004_4, .int .i64 x247005_4, .int .i64 x247006_4] 31 (0, 0))) := ⟨by rw [← hq_]; exact (by (with_reducible repeat (first | refine blk_drewN ?_ _ | refine blk_drew ?_ | refine blk_alloc ?_ _)); exact BK246.out)⟩; have n3_ : Aside0 (Below w.heap.size w w42) := ⟨by rw [← hq_]; exact (by repeat (first | (with_reducible first | exact HB.out | apply below_alloc | apply pw_below_drewN | apply below_drew1 | refine below_set ?_ GE245.out | refine below_set ?_ GE246.out) | exact HB.out))⟩; clear HO_247003 BK245 BK246 HB hq_; have HO_247003 := n0_; have BK245 := n1_; have BK246 := n2_; have HB := n3_; clear n0_ n1_ n2_ n3_)); have hnb43 := NB246_245.out; have hnc43 := NB245_246.out; have hcz44_0 : w42.cell? ⟨gb246, 0, none⟩ = some (.int .i64 a0) := (blk_cell BK246.out 0).trans rfl; have hcz44_1 : w42.cell? ⟨gb246, 1, none⟩ = some (.string x247001_4) := (blk_cell BK246.out 1).trans rfl; have hcz44_2 : w42.cell? ⟨gb246, 2, none⟩ = some (.string x247002_4) := (blk_cell BK246.out 2).trans rfl; have hcz44_3 : w42.cell? ⟨gb246, 3, none⟩ = some (u247003) := (blk_cell BK246.out 3).trans rfl; have hcz44_4 : w42.cell? ⟨gb246, 4, none⟩ = some (.string x247004_4) := (blk_cell BK246.out 4).trans rfl; have hcz44_5 : w42.cell? ⟨gb246, 5, none⟩ = some (.int .i64 x247005_4) := (blk_cell BK246.out 5).trans rfl; have hcz44_6 : w42.cell? ⟨gb246, 6, none⟩ = some (.int .i64 x247006_4) := (blk_cell BK246.out 6).trans rfl; have hfz44_0 := blk_frozen BK246.out 0; have hfz44_1 := blk_frozen BK246.out 1; have hfz44_2 := blk_frozen BK246.out 2; have hfz44_3 := blk_frozen BK246.out 3; have hfz44_4 := blk_frozen BK246.out 4; have hfz44_5 := blk_frozen BK246.out 5; have hfz44_6 := blk_frozen BK246.out 6; have hcz45_0 : w42.cell? ⟨gb245, 0, none⟩ = some (.int .i64 x246000_4) := (blk_cell BK245.out 0).trans rfl; have hcz45_1 : w42.cell? ⟨gb245, 1, none⟩ = some (.string x246001_4) := (blk_cell BK245.out 1).trans rfl; have hcz45_2 : w42.cell? ⟨gb245, 2, none⟩ = some (.string x246002_4) := (blk_cell BK245.out 2).trans rfl; have hcz45_3 : w42.cell? ⟨gb245, 3, none⟩ = some (.slice none 0 0) := (blk_cell BK245.out 3).trans rfl; have hcz45_4 : w42.cell? ⟨gb245, 4, none⟩ = some (.string x246004_4) := (blk_cell BK245.out 4).trans rfl; have hcz45_5 : w42.cell? ⟨gb245, 5, none⟩ = some (.int .i64 x246005_4) := (blk_cell BK245.out 5).trans rfl; have hcz45_6 : w42.cell? ⟨gb245, 6, none⟩ = some (.int .i64 x246006_4) := (blk_cell BK245.out 6).trans rfl; have hfz45_0 := blk_frozen BK245.out 0; have hfz45_1 := blk_frozen BK245.out 1; have hfz45_2 := blk_frozen BK245.out 2; have hfz45_3 := blk_frozen BK245.out 3; have hfz45_4 := blk_frozen BK245.out 4; have hfz45_5 := blk_frozen BK245.out 5; have hfz45_6 := blk_frozen BK245.out 6; obtain ⟨Ao46, co46, eo46⟩ := Kd.R_slice HO_247003.out; subst eo46))
                                      refine bodyPost_ret (results_ct rfl _ _ gb245 31 #[.int .i64 a0, .string t252, .string x247002_4, .slice Ao46 x247003_4.length co46, .string x247004_4, .int .i64 x247005_4, .int .i64 x247006_4] (0, 0) _ rfl (by (with_reducible repeat (first | refine blk_drewN ?_ _ | refine blk_drew ?_ | refine blk_alloc ?_ _)); refine blk_put (cs := #[.int .i64 a0, .string t252, .string x247002_4, .slice Ao46 x247003_4.length co46, .string x247004_4, .int .i64 x247005_4, .int .i64 x246006_4]) ?_ 6 _ rfl; (with_reducible repeat (first | refine blk_drewN ?_ _ | refine blk_drew ?_ | refine blk_alloc ?_ _)); refine blk_put (cs := #[.int .i64 a0, .string t252, .string x247002_4, .slice Ao46 x247003_4.length co46, .string x247004_4, .int .i64 x246005_4, .int .i64 x246006_4]) ?_ 5 _ rfl; (with_reducible repeat (first | refine blk_drewN ?_ _ | refine blk_drew ?_ | refine blk_alloc ?_ _)); refine blk_put (cs := #[.int .i64 a0, .string t252, .string x247002_4, .slice Ao46 x247003_4.length co46, .string x246004_4, .int .i64 x246005_4, .int .i64 x246006_4]) ?_ 4 _ rfl; (with_reducible repeat (first | refine blk_drewN ?_ _ | refine blk_drew ?_ | refine blk_alloc ?_ _)); refine blk_put (cs := #[.int .i64 a0, .string t252, .string x247002_4, .slice none 0 0, .string x246004_4, .int .i64 x246005_4, .int .i64 x246006_4]) ?_ 3 _ rfl; (with_reducible repeat (first | refine blk_drewN ?_ _ | refine blk_drew ?_ | refine blk_alloc ?_ _)); refine blk_put (cs := #[.int .i64 a0, .string t252, .string x246002_4, .slice none 0 0, .string x246004_4, .int .i64 x246005_4, .int .i64 x246006_4]) ?_ 2 _ rfl; (with_reducible repeat (first | refine blk_drewN ?_ _ | refine blk_drew ?_ | refine blk_alloc ?_ _)); refine blk_put (cs := #[.int .i64 a0, .string x246001_4, .string x246002_4, .slice none 0 0, .string x246004_4, .int .i64 x246005_4, .int .i64 x246006_4]) ?_ 1 _ rfl; (with_reducible repeat (first | refine blk_drewN ?_ _ | refine blk_drew ?_ | refine blk_alloc ?_ _)); refine blk_put (cs := #[.int .i64 x246000_4, .string x246001_4, .string x246002_4, .slice none 0 0, .string x246004_4, .int .i64 x246005_4, .int .i64 x246006_4]) ?_ 0 _ rfl; (with_reducible repeat (first | refine blk_drewN ?_ _ | refine blk_drew ?_ | refine blk_alloc ?_ _)); refine blk_far ?_ NB245_246.out _; (with_reducible repeat (first | refine blk_drewN ?_ _ | refine blk_drew ?_ | refine blk_alloc ?_ _)); exact BK245.out) Tryz.underlying31 rfl (by kernel_rfl)) rfl ?_
                                      exact ⟨_, by first | rfl | (simp [errW_none, errW_some] <;> rfl) | (simp [*, errW_none, errW_some] <;> rfl), by (with_reducible repeat (first | apply Kd.R_alloc | apply Kd.R_drewN | apply Kd.R_drew)); exact Kd.R_mono (Kd.R_far (p := ⟨gb245, 6, none⟩) (Kd.R_far (p := ⟨gb245, 5, none⟩) (Kd.R_far (p := ⟨gb245, 4, none⟩) (Kd.R_far (p := ⟨gb245, 3, none⟩) (Kd.R_far (p := ⟨gb245, 2, none⟩) (Kd.R_far (p := ⟨gb245, 1, none⟩) (Kd.R_far (p := ⟨gb245, 0, none⟩) (Kd.R_far (p := ⟨gb246, 1, none⟩) (Kd.R_types (Kd.R_types HO_247003.out BK246.out (by decide)) BK245.out (by decide)) (fun _ hk => hk.1.2) (.string t252)) (fun _ hk => hk.2) (.int .i64 a0)) (fun _ hk => hk.2) (.string t252)) (fun _ hk => hk.2) (.string x247002_4)) (fun _ hk => hk.2) (.slice Ao46 x247003_4.length co46)) (fun _ hk => hk.2) (.string x247004_4)) (fun _ hk => hk.2) (.int .i64 x247005_4)) (fun _ hk => hk.2) (.int .i64 x247006_4)) (fun _ hk => trivial), by repeat (first | (with_reducible first | exact HB.out | apply below_alloc | apply pw_below_drewN | apply below_drew1 | refine below_set ?_ GE245.out | refine below_set ?_ GE246.out) | exact HB.out)⟩
                                  · rw [if_neg c37] at H
                                    have c37b0 : (x12_27 == 110) = false := beq_eq_false_iff_ne.mpr c37
                                    have c37b1 : (x12_27 != 110) = true := bne_iff_ne.mpr c37
                                    by_cases c47 : x12_27 = 111
                                    · rw [if_pos c47] at H
                                      have c47b0 : (x12_27 == 111) = true := beq_iff_eq.mpr c47
                                      have c47b1 : (x12_27 != 111) = false := bne_eq_false_iff_eq.mpr c47
                                      clear c47
                                      by_cases c48 : t253 = true
                                      · subst c48
                                        have H1 : (kilnref24_read.l0 kj27 l1 (rdOf ByteArray.empty t247 a0) x9_17 (wrap64 (x11_4 + 1)) a0 x247001_4 t252 x247003_4 x247004_4 x247005_4 x247006_4) = some (r1, r2, r3, r4, r5, r6, r7, r8) := by rw [if_pos rfl] at H; exact H
                                        clear H
                                        have H := H1
                                        clear H1
                                        have H' := Aside0.mk H
                                        clear H
                                        have p251 : 0 ≤ (x11_4 : Int) := of_decide_eq_true (by first | (with_reducible assumption) | assumption)
                                        have q251 : x11_4 < (l1.length : Int) := of_decide_eq_true (by first | (with_reducible assumption) | assumption)
                                        obtain ⟨ad251, e251, hx251_0⟩ := Kd.at_string HR1.out x11_4 p251 q251
                                        cases e251
                                        replace hx251_0 := (HB.out.cell (World.block_lt_of_cell? w _ hx251_0)).trans hx251_0
                                        replace p251 := eq_true p251
                                        replace q251 := eq_true q251
                                        go_wp2_with (first | ((with_reducible refine gate_callee (f := 79) rfl ?_); refine goesL_ (some 71) rfl rfl Tryz.func79 (by kernel_rfl) rfl #[.string (rdOf ByteArray.empty l1 x11_4)] rfl (by (try simp only [List.map_toArray, List.map_cons, List.map_nil]); first | done | rfl | (simp only [List.length_drop, List.length_take]; rfl)) ?_; (with_reducible refine (kilnref24_Unwritten.calls kj27 (rdOf ByteArray.empty l1 x11_4) t252 true _ A35.out).mono ?_); rintro e w49 ⟨rfl, hb⟩; refine ⟨_, rfl, ?_⟩; have n0_ := Aside0.mk (Kd.R_below (by (with_reducible repeat (first | apply Kd.R_alloc | apply Kd.R_drewN | apply Kd.R_drew)); exact HO_247003.out) hb); have n1_ := Aside0.mk (blk_below (g := gb245) (o := .cells #[.int .i64 x246000_4, .string x246001_4, .string x246002_4, .slice none 0 0, .string x246004_4, .int .i64 x246005_4, .int .i64 x246006_4] 31 (0, 0)) (by (with_reducible repeat (first | refine blk_drewN ?_ _ | refine blk_drew ?_ | refine blk_alloc ?_ _)); exact BK245.out) hb); have n2_ := Aside0.mk (blk_below (g := gb246) (o := .cells #[.int .i64 a0, .string x247001_4, .string x247002_4, u247003, .string x247004_4, .int .i64 x247005_4, .int .i64 x247006_4] 31 (0, 0)) (by (with_reducible repeat (first | refine blk_drewN ?_ _ | refine blk_drew ?_ | refine blk_alloc ?_ _)); exact BK246.out) hb); have n3_ := Aside0.mk (below_step (by repeat (first | (with_reducible first | exact HB.out | apply below_alloc | apply pw_below_drewN | apply below_drew1 | refine below_set ?_ GE245.out | refine below_set ?_ GE246.out) | exact HB.out)) hb); clear HO_247003; clear BK245; clear BK246; clear HB; have HO_247003 := n0_; have BK245 := n1_; have BK246 := n2_; have HB := n3_; clear n0_ n1_ n2_ n3_; (try clear hb); (try clear hb2); (try clear hk); (try clear hi); have p254 : 0 ≤ (x11_4 : Int) := of_decide_eq_true (by first | (with_reducible assumption) | assumption); have q254 : x11_4 < (l1.length : Int) := of_decide_eq_true (by first | (with_reducible assumption) | assumption); obtain ⟨ad254, e254, hx254_0⟩ := Kd.at_string HR1.out x11_4 p254 q254; obtain rfl : ad251 = ad254 := (by injection e254); replace hx254_0 := (HB.out.cell (World.block_lt_of_cell? w _ hx254_0)).trans hx254_0; replace p254 := eq_true p254; replace q254 := eq_true q254) | ((with_reducible refine gate_callee (f := 78) rfl ?_); refine goesL_ (some 79) rfl rfl Tryz.func78 (by kernel_rfl) rfl #[.string (rdOf ByteArray.empty l1 x11_4)] rfl (by (try simp only [List.map_toArray, List.map_cons, List.map_nil]); first | done | rfl | (simp only [List.length_drop, List.length_take]; rfl)) ?_; (with_reducible refine (kilnref24_number.calls kj27 (rdOf ByteArray.empty l1 x11_4) t255 t256 _ A36.out).mono ?_); rintro e w' ⟨rfl, ⟨nd, rfl⟩⟩; refine ⟨_, rfl, ?_⟩; (try (rw [drewN_self w49]; generalize hq_ : World.drewN w49 _ = w49; have n0_ : Aside0 (Kd.R Kd.string 9 w49 w.heap.size (fun _ => True) u247003 x247003_4) := ⟨by rw [← hq_]; exact (by (with_reducible repeat (first | apply Kd.R_alloc | apply Kd.R_drewN | apply Kd.R_drew)); exact HO_247003.out)⟩; have n1_ : Aside0 (w49.heap[gb245]? = some (.cells #[.int .i64 x246000_4, .string x246001_4, .string x246002_4, .slice none 0 0, .string x246004_4, .int .i64 x246005_4, .int .i64 x246006_4] 31 (0, 0))) := ⟨by rw [← hq_]; exact (by (with_reducible repeat (first | refine blk_drewN ?_ _ | refine blk_drew ?_ | refine blk_alloc ?_ _)); exact BK245.out)⟩; have n2_ : Aside0 (w49.heap[gb246]? = some (.cells #[.int .i64 a0, .string x247001_4, .string x247002_4, u247003, .string x247004_4, .int .i64 x247005_4, .int .i64 x247006_4] 31 (0, 0))) := ⟨by rw [← hq_]; exact (by (with_reducible repeat (first | refine blk_drewN ?_ _ | refine blk_drew ?_ | refine blk_alloc ?_ _)); exact BK246.out)⟩; have n3_ : Aside0 (Below w.heap.size w w49) := ⟨by rw [← hq_]; exact (by repeat (first | (with_reducible first | exact HB.out | apply below_alloc | apply pw_below_drewN | apply below_drew1 | refine below_set ?_ GE245.out | refine below_set ?_ GE246.out) | exact HB.out))⟩; clear HO_247003 BK245 BK246 HB hq_; have HO_247003 := n0_; have BK245 := n1_; have BK246 := n2_; have HB := n3_; clear n0_ n1_ n2_ n3_)); have hnb50 := NB246_245.out; have hnc50 := NB245_246.out; have hcz51_0 : w49.cell? ⟨gb246, 0, none⟩ = some (.int .i64 a0) := (blk_cell BK246.out 0).trans rfl; have hcz51_1 : w49.cell? ⟨gb246, 1, none⟩ = some (.string x247001_4) := (blk_cell BK246.out 1).trans rfl; have hcz51_2 : w49.cell? ⟨gb246, 2, none⟩ = some (.string x247002_4) := (blk_cell BK246.out 2).trans rfl; have hcz51_3 : w49.cell? ⟨gb246, 3, none⟩ = some (u247003) := (blk_cell BK246.out 3).trans rfl; have hcz51_4 : w49.cell? ⟨gb246, 4, none⟩ = some (.string x247004_4) := (blk_cell BK246.out 4).trans rfl; have hcz51_5 : w49.cell? ⟨gb246, 5, none⟩ = some (.int .i64 x247005_4) := (blk_cell BK246.out 5).trans rfl; have hcz51_6 : w49.cell? ⟨gb246, 6, none⟩ = some (.int .i64 x247006_4) := (blk_cell BK246.out 6).trans rfl; have hfz51_0 := blk_frozen BK246.out 0; have hfz51_1 := blk_frozen BK246.out 1; have hfz51_2 := blk_frozen BK246.out 2; have hfz51_3 := blk_frozen BK246.out 3; have hfz51_4 := blk_frozen BK246.out 4; have hfz51_5 := blk_frozen BK246.out 5; have hfz51_6 := blk_frozen BK246.out 6))
                                        go_roundg kj27
                                        case measure => have := HJ5.out; have := HJ17.out; have := HJ19.out; have := HK4.out; have := HJ27.out; omega
                                        case rel => exact ⟨(wrap64 (x11_4 + 1)), (x246000_4), (x246001_4), (x246002_4), (x246004_4), (x246005_4), (x246006_4), (x247001_4), (t252), (x247003_4), (x247004_4), (x247005_4), (x247006_4), (u247003), (by first | rfl | (simp; done) | (simp [*]; done)), H', ⟨by have := HJ5.out; have := HJ17.out; have := HJ19.out; have := HK4.out; have := HJ27.out; omega⟩, ⟨by (with_reducible repeat (first | apply Kd.R_alloc | apply Kd.R_drewN | apply Kd.R_drew)); exact Kd.R_mono (Kd.R_far (p := ⟨gb246, 2, none⟩) (Kd.R_types HO_247003.out BK246.out (by decide)) (fun _ hk => hk.2) (.string t252)) (fun _ hk => trivial)⟩, ⟨by (with_reducible repeat (first | refine blk_drewN ?_ _ | refine blk_drew ?_ | refine blk_alloc ?_ _)); refine blk_far ?_ NB245_246.out _; (with_reducible repeat (first | refine blk_drewN ?_ _ | refine blk_drew ?_ | refine blk_alloc ?_ _)); exact BK245.out⟩, ⟨by (with_reducible repeat (first | refine blk_drewN ?_ _ | refine blk_drew ?_ | refine blk_alloc ?_ _)); refine blk_put (cs := #[.int .i64 a0, .string x247001_4, .string x247002_4, u247003, .string x247004_4, .int .i64 x247005_4, .int .i64 x247006_4]) ?_ 2 _ rfl; (with_reducible repeat (first | refine blk_drewN ?_ _ | refine blk_drew ?_ | refine blk_alloc ?_ _)); exact BK246.out⟩, ⟨by repeat (first | (with_reducible first | exact HB.out | apply below_alloc | apply pw_below_drewN | apply below_drew1 | refine below_set ?_ GE245.out | refine below_set ?_ GE246.out) | exact HB.out)⟩⟩
                                      · replace c48 := Bool.eq_false_iff.mpr c48
                                        subst c48
                                        have H1 : (some (a0, x247001_4, t252, x247003_4, x247004_4, x247005_4, x247006_4, 244)) = some (r1, r2, r3, r4, r5, r6, r7, r8) := by rw [if_neg (show ¬ (false = true) by decide)] at H; exact H
                                        clear H
                                        have H := H1
                                        clear H1
                                        simp only [Option.some.injEq, Prod.mk.injEq] at H
                                        obtain ⟨rfl, rfl, rfl, rfl, rfl, rfl, rfl, rfl⟩ := H
                                        have p251 : 0 ≤ (x11_4 : Int) := of_decide_eq_true (by first | (with_reducible assumption) | assumption)
                                        have q251 : x11_4 < (l1.length : Int) := of_decide_eq_true (by first | (with_reducible assumption) | assumption)
                                        obtain ⟨ad251, e251, hx251_0⟩ := Kd.at_string HR1.out x11_4 p251 q251
                                        cases e251
                                        replace hx251_0 := (HB.out.cell (World.block_lt_of_cell? w _ hx251_0)).trans hx251_0
                                        replace p251 := eq_true p251
                                        replace q251 := eq_true q251
                                        go_wp2_with (first | ((with_reducible refine gate_callee (f := 79) rfl ?_); refine goesL_ (some 71) rfl rfl Tryz.func79 (by kernel_rfl) rfl #[.string (rdOf ByteArray.empty l1 x11_4)] rfl (by (try simp only [List.map_toArray, List.map_cons, List.map_nil]); first | done | rfl | (simp only [List.length_drop, List.length_take]; rfl)) ?_; (with_reducible refine (kilnref24_Unwritten.calls kj27 (rdOf ByteArray.empty l1 x11_4) t252 false _ A35.out).mono ?_); rintro e w52 ⟨rfl, hb⟩; refine ⟨_, rfl, ?_⟩; have n0_ := Aside0.mk (Kd.R_below (by (with_reducible repeat (first | apply Kd.R_alloc | apply Kd.R_drewN | apply Kd.R_drew)); exact HO_247003.out) hb); have n1_ := Aside0.mk (blk_below (g := gb245) (o := .cells #[.int .i64 x246000_4, .string x246001_4, .string x246002_4, .slice none 0 0, .string x246004_4, .int .i64 x246005_4, .int .i64 x246006_4] 31 (0, 0)) (by (with_reducible repeat (first | refine blk_drewN ?_ _ | refine blk_drew ?_ | refine blk_alloc ?_ _)); exact BK245.out) hb); have n2_ := Aside0.mk (blk_below (g := gb246) (o := .cells #[.int .i64 a0, .string x247001_4, .string x247002_4, u247003, .string x247004_4, .int .i64 x247005_4, .int .i64 x247006_4] 31 (0, 0)) (by (with_reducible repeat (first | refine blk_drewN ?_ _ | refine blk_drew ?_ | refine blk_alloc ?_ _)); exact BK246.out) hb); have n3_ := Aside0.mk (below_step (by repeat (first | (with_reducible first | exact HB.out | apply below_alloc | apply pw_below_drewN | apply below_drew1 | refine below_set ?_ GE245.out | refine below_set ?_ GE246.out) | exact HB.out)) hb); clear HO_247003; clear BK245; clear BK246; clear HB; have HO_247003 := n0_; have BK245 := n1_; have BK246 := n2_; have HB := n3_; clear n0_ n1_ n2_ n3_; (try clear hb); (try clear hb2); (try clear hk); (try clear hi); have p254 : 0 ≤ (x11_4 : Int) := of_decide_eq_true (by first | (with_reducible assumption) | assumption); have q254 : x11_4 < (l1.length : Int) := of_decide_eq_true (by first | (with_reducible assumption) | assumption); obtain ⟨ad254, e254, hx254_0⟩ := Kd.at_string HR1.out x11_4 p254 q254; obtain rfl : ad251 = ad254 := (by injection e254); replace hx254_0 := (HB.out.cell (World.block_lt_of_cell? w _ hx254_0)).trans hx254_0; replace p254 := eq_true p254; replace q254 := eq_true q254) | ((with_reducible refine gate_callee (f := 78) rfl ?_); refine goesL_ (some 79) rfl rfl Tryz.func78 (by kernel_rfl) rfl #[.string (rdOf ByteArray.empty l1 x11_4)] rfl (by (try simp only [List.map_toArray, List.map_cons, List.map_nil]); first | done | rfl | (simp only [List.length_drop, List.length_take]; rfl)) ?_; (with_reducible refine (kilnref24_number.calls kj27 (rdOf ByteArray.empty l1 x11_4) t255 t256 _ A36.out).mono ?_); rintro e w' ⟨rfl, ⟨nd, rfl⟩⟩; refine ⟨_, rfl, ?_⟩; (try (rw [drewN_self w52]; generalize hq_ : World.drewN w52 _ = w52; have n0_ : Aside0 (Kd.R Kd.string 9 w52 w.heap.size (fun _ => True) u247003 x247003_4) := ⟨by rw [← hq_]; exact (by (with_reducible repeat (first | apply Kd.R_alloc | apply Kd.R_drewN | apply Kd.R_drew)); exact HO_247003.out)⟩; have n1_ : Aside0 (w52.heap[gb245]? = some (.cells #[.int .i64 x246000_4, .string x246001_4, .string x246002_4, .slice none 0 0, .string x246004_4, .int .i64 x246005_4, .int .i64 x246006_4] 31 (0, 0))) := ⟨by rw [← hq_]; exact (by (with_reducible repeat (first | refine blk_drewN ?_ _ | refine blk_drew ?_ | refine blk_alloc ?_ _)); exact BK245.out)⟩; have n2_ : Aside0 (w52.heap[gb246]? = some (.cells #[.int .i64 a0, .string x247001_4, .string x247002_4, u247003, .string x247004_4, .int .i64 x247005_4, .int .i64 x247006_4] 31 (0, 0))) := ⟨by rw [← hq_]; exact (by (with_reducible repeat (first | refine blk_drewN ?_ _ | refine blk_drew ?_ | refine blk_alloc ?_ _)); exact BK246.out)⟩; have n3_ : Aside0 (Below w.heap.size w w52) := ⟨by rw [← hq_]; exact (by repeat (first | (with_reducible first | exact HB.out | apply below_alloc | apply pw_below_drewN | apply below_drew1 | refine below_set ?_ GE245.out | refine below_set ?_ GE246.out) | exact HB.out))⟩; clear HO_247003 BK245 BK246 HB hq_; have HO_247003 := n0_; have BK245 := n1_; have BK246 := n2_; have HB := n3_; clear n0_ n1_ n2_ n3_)); have hnb53 := NB246_245.out; have hnc53 := NB245_246.out; have hcz54_0 : w52.cell? ⟨gb246, 0, none⟩ = some (.int .i64 a0) := (blk_cell BK246.out 0).trans rfl; have hcz54_1 : w52.cell? ⟨gb246, 1, none⟩ = some (.string x247001_4) := (blk_cell BK246.out 1).trans rfl; have hcz54_2 : w52.cell? ⟨gb246, 2, none⟩ = some (.string x247002_4) := (blk_cell BK246.out 2).trans rfl; have hcz54_3 : w52.cell? ⟨gb246, 3, none⟩ = some (u247003) := (blk_cell BK246.out 3).trans rfl; have hcz54_4 : w52.cell? ⟨gb246, 4, none⟩ = some (.string x247004_4) := (blk_cell BK246.out 4).trans rfl; have hcz54_5 : w52.cell? ⟨gb246, 5, none⟩ = some (.int .i64 x247005_4) := (blk_cell BK246.out 5).trans rfl; have hcz54_6 : w52.cell? ⟨gb246, 6, none⟩ = some (.int .i64 x247006_4) := (blk_cell BK246.out 6).trans rfl; have hfz54_0 := blk_frozen BK246.out 0; have hfz54_1 := blk_frozen BK246.out 1; have hfz54_2 := blk_frozen BK246.out 2; have hfz54_3 := blk_frozen BK246.out 3; have hfz54_4 := blk_frozen BK246.out 4; have hfz54_5 := blk_frozen BK246.out 5; have hfz54_6 := blk_frozen BK246.out 6; have hcz55_0 : w52.cell? ⟨gb245, 0, none⟩ = some (.int .i64 x246000_4) := (blk_cell BK245.out 0).trans rfl; have hcz55_1 : w52.cell? ⟨gb245, 1, none⟩ = some (.string x246001_4) := (blk_cell BK245.out 1).trans rfl; have hcz55_2 : w52.cell? ⟨gb245, 2, none⟩ = some (.string x246002_4) := (blk_cell BK245.out 2).trans rfl; have hcz55_3 : w52.cell? ⟨gb245, 3, none⟩ = some (.slice none 0 0) := (blk_cell BK245.out 3).trans rfl; have hcz55_4 : w52.cell? ⟨gb245, 4, none⟩ = some (.string x246004_4) := (blk_cell BK245.out 4).trans rfl; have hcz55_5 : w52.cell? ⟨gb245, 5, none⟩ = some (.int .i64 x246005_4) := (blk_cell BK245.out 5).trans rfl; have hcz55_6 : w52.cell? ⟨gb245, 6, none⟩ = some (.int .i64 x246006_4) := (blk_cell BK245.out 6).trans rfl; have hfz55_0 := blk_frozen BK245.out 0; have hfz55_1 := blk_frozen BK245.out 1; have hfz55_2 := blk_frozen BK245.out 2; have hfz55_3 := blk_frozen BK245.out 3; have hfz55_4 := blk_frozen BK245.out 4; have hfz55_5 := blk_frozen BK245.out 5; have hfz55_6 := blk_frozen BK245.out 6; obtain ⟨Ao56, co56, eo56⟩ := Kd.R_slice HO_247003.out; subst eo56))
                                        refine bodyPost_ret (results_ct rfl _ _ gb245 31 #[.int .i64 a0, .string x247001_4, .string t252, .slice Ao56 x247003_4.length co56, .string x247004_4, .int .i64 x247005_4, .int .i64 x247006_4] (0, 0) _ rfl (by (with_reducible repeat (first | refine blk_drewN ?_ _ | refine blk_drew ?_ | refine blk_alloc ?_ _)); refine blk_put (cs := #[.int .i64 a0, .string x247001_4, .string t252, .slice Ao56 x247003_4.length co56, .string x247004_4, .int .i64 x247005_4, .int .i64 x246006_4]) ?_ 6 _ rfl; (with_reducible repeat (first | refine blk_drewN ?_ _ | refine blk_drew ?_ | refine blk_alloc ?_ _)); refine blk_put (cs := #[.int .i64 a0, .string x247001_4, .string t252, .slice Ao56 x247003_4.length co56, .string x247004_4, .int .i64 x246005_4, .int .i64 x246006_4]) ?_ 5 _ rfl; (with_reducible repeat (first | refine blk_drewN ?_ _ | refine blk_drew ?_ | refine blk_alloc ?_ _)); refine blk_put (cs := #[.int .i64 a0, .string x247001_4, .string t252, .slice Ao56 x247003_4.length co56, .string x246004_4, .int .i64 x246005_4, .int .i64 x246006_4]) ?_ 4 _ rfl; (with_reducible repeat (first | refine blk_drewN ?_ _ | refine blk_drew ?_ | refine blk_alloc ?_ _)); refine blk_put (cs := #[.int .i64 a0, .string x247001_4, .string t252, .slice none 0 0, .string x246004_4, .int .i64 x246005_4, .int .i64 x246006_4]) ?_ 3 _ rfl; (with_reducible repeat (first | refine blk_drewN ?_ _ | refine blk_drew ?_ | refine blk_alloc ?_ _)); refine blk_put (cs := #[.int .i64 a0, .string x247001_4, .string x246002_4, .slice none 0 0, .string x246004_4, .int .i64 x246005_4, .int .i64 x246006_4]) ?_ 2 _ rfl; (with_reducible repeat (first | refine blk_drewN ?_ _ | refine blk_drew ?_ | refine blk_alloc ?_ _)); refine blk_put (cs := #[.int .i64 a0, .string x246001_4, .string x246002_4, .slice none 0 0, .string x246004_4, .int .i64 x246005_4, .int .i64 x246006_4]) ?_ 1 _ rfl; (with_reducible repeat (first | refine blk_drewN ?_ _ | refine blk_drew ?_ | refine blk_alloc ?_ _)); refine blk_put (cs := #[.int .i64 x246000_4, .string x246001_4, .string x246002_4, .slice none 0 0, .string x246004_4, .int .i64 x246005_4, .int .i64 x246006_4]) ?_ 0 _ rfl; (with_reducible repeat (first | refine blk_drewN ?_ _ | refine blk_drew ?_ | refine blk_alloc ?_ _)); refine blk_far ?_ NB245_246.out _; (with_reducible repeat (first | refine blk_drewN ?_ _ | refine blk_drew ?_ | refine blk_alloc ?_ _)); exact BK245.out) Tryz.underlying31 rfl (by kernel_rfl)) rfl ?_
                                        exact ⟨_, by first | rfl | (simp [errW_none, errW_some] <;> rfl) | (simp [*, errW_none, errW_some] <;> rfl), by (with_reducible repeat (first | apply Kd.R_alloc | apply Kd.R_drewN | apply Kd.R_drew)); exact Kd.R_mono (Kd.R_far (p := ⟨gb245, 6, none⟩) (Kd.R_far (p := ⟨gb245, 5, none⟩) (Kd.R_far (p := ⟨gb245, 4, none⟩) (Kd.R_far (p := ⟨gb245, 3, none⟩) (Kd.R_far (p := ⟨gb245, 2, none⟩) (Kd.R_far (p := ⟨gb245, 1, none⟩) (Kd.R_far (p := ⟨gb245, 0, none⟩) (Kd.R_far (p := ⟨gb246, 2, none⟩) (Kd.R_types (Kd.R_types HO_247003.out BK246.out (by decide)) BK245.out (by decide)) (fun _ hk => hk.1.2) (.string t252)) (fun _ hk => hk.2) (.int .i64 a0)) (fun _ hk => hk.2) (.string x247001_4)) (fun _ hk => hk.2) (.string t252)) (fun _ hk => hk.2) (.slice Ao56 x247003_4.length co56)) (fun _ hk => hk.2) (.string x247004_4)) (fun _ hk => hk.2) (.int .i64 x247005_4)) (fun _ hk => hk.2) (.int .i64 x247006_4)) (fun _ hk => trivial), by repeat (first | (with_reducible first | exact HB.out | apply below_alloc | apply pw_below_drewN | apply below_drew1 | refine below_set ?_ GE245.out | refine below_set ?_ GE246.out) | exact HB.out)⟩
                                    · rw [if_neg c47] at H
                                      have c47b0 : (x12_27 == 111) = false := beq_eq_false_iff_ne.mpr c47
                                      have c47b1 : (x12_27 != 111) = true := bne_iff_ne.mpr c47
                                      by_cases c57 : x12_27 = 116
                                      · rw [if_pos c57] at H
                                        have c57b0 : (x12_27 == 116) = true := beq_iff_eq.mpr c57
                                        have c57b1 : (x12_27 != 116) = false := bne_eq_false_iff_eq.mpr c57
                                        clear c57
                                        by_cases c58 : t253 = true
                                        · subst c58
                                          have H1 : (kilnref24_read.l0 kj27 l1 (rdOf ByteArray.empty t247 a0) x9_17 (wrap64 (x11_4 + 1)) a0 x247001_4 x247002_4 x247003_4 t252 x247005_4 x247006_4) = some (r1, r2, r3, r4, r5, r6, r7, r8) := by rw [if_pos rfl] at H; exact H
                                          clear H
                                          have H := H1
                                          clear H1
                                          have H' := Aside0.mk H
                                          clear H
                                          have p251 : 0 ≤ (x11_4 : Int) := of_decide_eq_true (by first | (with_reducible assumption) | assumption)
                                          have q251 : x11_4 < (l1.length : Int) := of_decide_eq_true (by first | (with_reducible assumption) | assumption)
                                          obtain ⟨ad251, e251, hx251_0⟩ := Kd.at_string HR1.out x11_4 p251 q251
                                          cases e251
                                          replace hx251_0 := (HB.out.cell (World.block_lt_of_cell? w _ hx251_0)).trans hx251_0
                                          replace p251 := eq_true p251
                                          replace q251 := eq_true q251
                                          go_wp2_with (first | ((with_reducible refine gate_callee (f := 79) rfl ?_); refine goesL_ (some 71) rfl rfl Tryz.func79 (by kernel_rfl) rfl #[.string (rdOf ByteArray.empty l1 x11_4)] rfl (by (try simp only [List.map_toArray, List.map_cons, List.map_nil]); first | done | rfl | (simp only [List.length_drop, List.length_take]; rfl)) ?_; (with_reducible refine (kilnref24_Unwritten.calls kj27 (rdOf ByteArray.empty l1 x11_4) t252 true _ A35.out).mono ?_); rintro e w59 ⟨rfl, hb⟩; refine ⟨_, rfl, ?_⟩; have n0_ := Aside0.mk (Kd.R_below (by (with_reducible repeat (first | apply Kd.R_alloc | apply Kd.R_drewN | apply Kd.R_drew)); exact HO_247003.out) hb); have n1_ := Aside0.mk (blk_below (g := gb245) (o := .cells #[.int .i64 x246000_4, .string x246001_4, .string x246002_4, .slice none 0 0, .string x246004_4, .int .i64 x246005_4, .int .i64 x246006_4] 31 (0, 0)) (by (with_reducible repeat (first | refine blk_drewN ?_ _ | refine blk_drew ?_ | refine blk_alloc ?_ _)); exact BK245.out) hb); have n2_ := Aside0.mk (blk_below (g := gb246) (o := .cells #[.int .i64 a0, .string x247001_4, .string x247002_4, u247003, .string x247004_4, .int .i64 x247005_4, .int .i64 x247006_4] 31 (0, 0)) (by (with_reducible repeat (first | refine blk_drewN ?_ _ | refine blk_drew ?_ | refine blk_alloc ?_ _)); exact BK246.out) hb); have n3_ := Aside0.mk (below_step (by repeat (first | (with_reducible first | exact HB.out | apply below_alloc | apply pw_below_drewN | apply below_drew1 | refine below_set ?_ GE245.out | refine below_set ?_ GE246.out) | exact HB.out)) hb); clear HO_247003; clear BK245; clear BK246; clear HB; have HO_247003 := n0_; have BK245 := n1_; have BK246 := n2_; have HB := n3_; clear n0_ n1_ n2_ n3_; (try clear hb); (try clear hb2); (try clear hk); (try clear hi); have p254 : 0 ≤ (x11_4 : Int) := of_decide_eq_true (by first | (with_reducible assumption) | assumption); have q254 : x11_4 < (l1.length : Int) := of_decide_eq_true (by first | (with_reducible assumption) | assumption); obtain ⟨ad254, e254, hx254_0⟩ := Kd.at_string HR1.out x11_4 p254 q254; obtain rfl : ad251 = ad254 := (by injection e254); replace hx254_0 := (HB.out.cell (World.block_lt_of_cell? w _ hx254_0)).trans hx254_0; replace p254 := eq_true p254; replace q254 := eq_true q254) | ((with_reducible refine gate_callee (f := 78) rfl ?_); refine goesL_ (some 79) rfl rfl Tryz.func78 (by kernel_rfl) rfl #[.string (rdOf ByteArray.empty l1 x11_4)] rfl (by (try simp only [List.map_toArray, List.map_cons, List.map_nil]); first | done | rfl | (simp only [List.length_drop, List.length_take]; rfl)) ?_; (with_reducible refine (kilnref24_number.calls kj27 (rdOf ByteArray.empty l1 x11_4) t255 t256 _ A36.out).mono ?_); rintro e w' ⟨rfl, ⟨nd, rfl⟩⟩; refine ⟨_, rfl, ?_⟩; (try (rw [drewN_self w59]; generalize hq_ : World.drewN w59 _ = w59; have n0_ : Aside0 (Kd.R Kd.string 9 w59 w.heap.size (fun _ => True) u247003 x247003_4) := ⟨by rw [← hq_]; exact (by (with_reducible repeat (first | apply Kd.R_alloc | apply Kd.R_drewN | apply Kd.R_drew)); exact HO_247003.out)⟩; have n1_ : Aside0 (w59.heap[gb245]? = some (.cells #[.int .i64 x246000_4, .string x246001_4, .string x246002_4, .slice none 0 0, .string x246004_4, .int .i64 x246005_4, .int .i64 x246006_4] 31 (0, 0))) := ⟨by rw [← hq_]; exact (by (with_reducible repeat (first | refine blk_drewN ?_ _ | refine blk_drew ?_ | refine blk_alloc ?_ _)); exact BK245.out)⟩; have n2_ : Aside0 (w59.heap[gb246]? = some (.cells #[.int .i64 a0, .string x247001_4, .string x247002_4, u247003, .string x247004_4, .int .i64 x247005_4, .int .i64 x247006_4] 31 (0, 0))) := ⟨by rw [← hq_]; exact (by (with_reducible repeat (first | refine blk_drewN ?_ _ | refine blk_drew ?_ | refine blk_alloc ?_ _)); exact BK246.out)⟩; have n3_ : Aside0 (Below w.heap.size w w59) := ⟨by rw [← hq_]; exact (by repeat (first | (with_reducible first | exact HB.out | apply below_alloc | apply pw_below_drewN | apply below_drew1 | refine below_set ?_ GE245.out | refine below_set ?_ GE246.out) | exact HB.out))⟩; clear HO_247003 BK245 BK246 HB hq_; have HO_247003 := n0_; have BK245 := n1_; have BK246 := n2_; have HB := n3_; clear n0_ n1_ n2_ n3_)); have hnb60 := NB246_245.out; have hnc60 := NB245_246.out; have hcz61_0 : w59.cell? ⟨gb246, 0, none⟩ = some (.int .i64 a0) := (blk_cell BK246.out 0).trans rfl; have hcz61_1 : w59.cell? ⟨gb246, 1, none⟩ = some (.string x247001_4) := (blk_cell BK246.out 1).trans rfl; have hcz61_2 : w59.cell? ⟨gb246, 2, none⟩ = some (.string x247002_4) := (blk_cell BK246.out 2).trans rfl; have hcz61_3 : w59.cell? ⟨gb246, 3, none⟩ = some (u247003) := (blk_cell BK246.out 3).trans rfl; have hcz61_4 : w59.cell? ⟨gb246, 4, none⟩ = some (.string x247004_4) := (blk_cell BK246.out 4).trans rfl; have hcz61_5 : w59.cell? ⟨gb246, 5, none⟩ = some (.int .i64 x247005_4) := (blk_cell BK246.out 5).trans rfl; have hcz61_6 : w59.cell? ⟨gb246, 6, none⟩ = some (.int .i64 x247006_4) := (blk_cell BK246.out 6).trans rfl; have hfz61_0 := blk_frozen BK246.out 0; have hfz61_1 := blk_frozen BK246.out 1; have hfz61_2 := blk_frozen BK246.out 2; have hfz61_3 := blk_frozen BK246.out 3; have hfz61_4 := blk_frozen BK246.out 4; have hfz61_5 := blk_frozen BK246.out 5; have hfz61_6 := blk_frozen BK246.out 6))
                                          go_roundg kj27
                                          case measure => have := HJ5.out; have := HJ17.out; have := HJ19.out; have := HK4.out; have := HJ27.out; omega
                                          case rel => exact ⟨(wrap64 (x11_4 + 1)), (x246000_4), (x246001_4), (x246002_4), (x246004_4), (x246005_4), (x246006_4), (x247001_4), (x247002_4), (x247003_4), (t252), (x247005_4), (x247006_4), (u247003), (by first | rfl | (simp; done) | (simp [*]; done)), H', ⟨by have := HJ5.out; have := HJ17.out; have := HJ19.out; have := HK4.out; have := HJ27.out; omega⟩, ⟨by (with_reducible repeat (first | apply Kd.R_alloc | apply Kd.R_drewN | apply Kd.R_drew)); exact Kd.R_mono (Kd.R_far (p := ⟨gb246, 4, none⟩) (Kd.R_types HO_247003.out BK246.out (by decide)) (fun _ hk => hk.2) (.string t252)) (fun _ hk => trivial)⟩, ⟨by (with_reducible repeat (first | refine blk_drewN ?_ _ | refine blk_drew ?_ | refine blk_alloc ?_ _)); refine blk_far ?_ NB245_246.out _; (with_reducible repeat (first | refine blk_drewN ?_ _ | refine blk_drew ?_ | refine blk_alloc ?_ _)); exact BK245.out⟩, ⟨by (with_reducible repeat (first | refine blk_drewN ?_ _ | refine blk_drew ?_ | refine blk_alloc ?_ _)); refine blk_put (cs := #[.int .i64 a0, .string x247001_4, .string x247002_4, u247003, .string x247004_4, .int .i64 x247005_4, .int .i64 x247006_4]) ?_ 4 _ rfl; (with_reducible repeat (first | refine blk_drewN ?_ _ | refine blk_drew ?_ | refine blk_alloc ?_ _)); exact BK246.out⟩, ⟨by repeat (first | (with_reducible first | exact HB.out | apply below_alloc | apply pw_below_drewN | apply below_drew1 | refine below_set ?_ GE245.out | refine below_set ?_ GE246.out) | exact HB.out)⟩⟩
                                        · replace c58 := Bool.eq_false_iff.mpr c58
                                          subst c58
                                          have H1 : (some (a0, x247001_4, x247002_4, x247003_4, t252, x247005_4, x247006_4, 244)) = some (r1, r2, r3, r4, r5, r6, r7, r8) := by rw [if_neg (show ¬ (false = true) by decide)] at H; exact H
                                          clear H
                                          have H := H1
                                          clear H1
                                          simp only [Option.some.injEq, Prod.mk.injEq] at H
                                          obtain ⟨rfl, rfl, rfl, rfl, rfl, rfl, rfl, rfl⟩ := H
                                          have p251 : 0 ≤ (x11_4 : Int) := of_decide_eq_true (by first | (with_reducible assumption) | assumption)
                                          have q251 : x11_4 < (l1.length : Int) := of_decide_eq_true (by first | (with_reducible assumption) | assumption)
                                          obtain ⟨ad251, e251, hx251_0⟩ := Kd.at_string HR1.out x11_4 p251 q251
                                          cases e251
                                          replace hx251_0 := (HB.out.cell (World.block_lt_of_cell? w _ hx251_0)).trans hx251_0
                                          replace p251 := eq_true p251
                                          replace q251 := eq_true q251
                                          go_wp2_with (first | ((with_reducible refine gate_callee (f := 79) rfl ?_); refine goesL_ (some 71) rfl rfl Tryz.func79 (by kernel_rfl) rfl #[.string (rdOf ByteArray.empty l1 x11_4)] rfl (by (try simp only [List.map_toArray, List.map_cons, List.map_nil]); first | done | rfl | (simp only [List.length_drop, List.length_take]; rfl)) ?_; (with_reducible refine (kilnref24_Unwritten.calls kj27 (rdOf ByteArray.empty l1 x11_4) t252 false _ A35.out).mono ?_); rintro e w62 ⟨rfl, hb⟩; refine ⟨_, rfl, ?_⟩; have n0_ := Aside0.mk (Kd.R_below (by (with_reducible repeat (first | apply Kd.R_alloc | apply Kd.R_drewN | apply Kd.R_drew)); exact HO_247003.out) hb); have n1_ := Aside0.mk (blk_below (g := gb245) (o := .cells #[.int .i64 x246000_4, .string x246001_4, .string x246002_4, .slice none 0 0, .string x246004_4, .int .i64 x246005_4, .int .i64 x246006_4] 31 (0, 0)) (by (with_reducible repeat (first | refine blk_drewN ?_ _ | refine blk_drew ?_ | refine blk_alloc ?_ _)); exact BK245.out) hb); have n2_ := Aside0.mk (blk_below (g := gb246) (o := .cells #[.int .i64 a0, .string x247001_4, .string x247002_4, u247003, .string x247004_4, .int .i64 x247005_4, .int .i64 x247006_4] 31 (0, 0)) (by (with_reducible repeat (first | refine blk_drewN ?_ _ | refine blk_drew ?_ | refine blk_alloc ?_ _)); exact BK246.out) hb); have n3_ := Aside0.mk (below_step (by repeat (first | (with_reducible first | exact HB.out | apply below_alloc | apply pw_below_drewN | apply below_drew1 | refine below_set ?_ GE245.out | refine below_set ?_ GE246.out) | exact HB.out)) hb); clear HO_247003; clear BK245; clear BK246; clear HB; have HO_247003 := n0_; have BK245 := n1_; have BK246 := n2_; have HB := n3_; clear n0_ n1_ n2_ n3_; (try clear hb); (try clear hb2); (try clear hk); (try clear hi); have p254 : 0 ≤ (x11_4 : Int) := of_decide_eq_true (by first | (with_reducible assumption) | assumption); have q254 : x11_4 < (l1.length : Int) := of_decide_eq_true (by first | (with_reducible assumption) | assumption); obtain ⟨ad254, e254, hx254_0⟩ := Kd.at_string HR1.out x11_4 p254 q254; obtain rfl : ad251 = ad254 := (by injection e254); replace hx254_0 := (HB.out.cell (World.block_lt_of_cell? w _ hx254_0)).trans hx254_0; replace p254 := eq_true p254; replace q254 := eq_true q254) | ((with_reducible refine gate_callee (f := 78) rfl ?_); refine goesL_ (some 79) rfl rfl Tryz.func78 (by kernel_rfl) rfl #[.string (rdOf ByteArray.empty l1 x11_4)] rfl (by (try simp only [List.map_toArray, List.map_cons, List.map_nil]); first | done | rfl | (simp only [List.length_drop, List.length_take]; rfl)) ?_; (with_reducible refine (kilnref24_number.calls kj27 (rdOf ByteArray.empty l1 x11_4) t255 t256 _ A36.out).mono ?_); rintro e w' ⟨rfl, ⟨nd, rfl⟩⟩; refine ⟨_, rfl, ?_⟩; (try (rw [drewN_self w62]; generalize hq_ : World.drewN w62 _ = w62; have n0_ : Aside0 (Kd.R Kd.string 9 w62 w.heap.size (fun _ => True) u247003 x247003_4) := ⟨by rw [← hq_]; exact (by (with_reducible repeat (first | apply Kd.R_alloc | apply Kd.R_drewN | apply Kd.R_drew)); exact HO_247003.out)⟩; have n1_ : Aside0 (w62.heap[gb245]? = some (.cells #[.int .i64 x246000_4, .string x246001_4, .string x246002_4, .slice none 0 0, .string x246004_4, .int .i64 x246005_4, .int .i64 x246006_4] 31 (0, 0))) := ⟨by rw [← hq_]; exact (by (with_reducible repeat (first | refine blk_drewN ?_ _ | refine blk_drew ?_ | refine blk_alloc ?_ _)); exact BK245.out)⟩; have n2_ : Aside0 (w62.heap[gb246]? = some (.cells #[.int .i64 a0, .string x247001_4, .string x247002_4, u247003, .string x247004_4, .int .i64 x247005_4, .int .i64 x247006_4] 31 (0, 0))) := ⟨by rw [← hq_]; exact (by (with_reducible repeat (first | refine blk_drewN ?_ _ | refine blk_drew ?_ | refine blk_alloc ?_ _)); exact BK246.out)⟩; have n3_ : Aside0 (Below w.heap.size w w62) := ⟨by rw [← hq_]; exact (by repeat (first | (with_reducible first | exact HB.out | apply below_alloc | apply pw_below_drewN | apply below_drew1 | refine below_set ?_ GE245.out | refine below_set ?_ GE246.out) | exact HB.out))⟩; clear HO_247003 BK245 BK246 HB hq_; have HO_247003 := n0_; have BK245 := n1_; have BK246 := n2_; have HB := n3_; clear n0_ n1_ n2_ n3_)); have hnb63 := NB246_245.out; have hnc63 := NB245_246.out; have hcz64_0 : w62.cell? ⟨gb246, 0, none⟩ = some (.int .i64 a0) := (blk_cell BK246.out 0).trans rfl; have hcz64_1 : w62.cell? ⟨gb246, 1, none⟩ = some (.string x247001_4) := (blk_cell BK246.out 1).trans rfl; have hcz64_2 : w62.cell? ⟨gb246, 2, none⟩ = some (.string x247002_4) := (blk_cell BK246.out 2).trans rfl; have hcz64_3 : w62.cell? ⟨gb246, 3, none⟩ = some (u247003) := (blk_cell BK246.out 3).trans rfl; have hcz64_4 : w62.cell? ⟨gb246, 4, none⟩ = some (.string x247004_4) := (blk_cell BK246.out 4).trans rfl; have hcz64_5 : w62.cell? ⟨gb246, 5, none⟩ = some (.int .i64 x247005_4) := (blk_cell BK246.out 5).trans rfl; have hcz64_6 : w62.cell? ⟨gb246, 6, none⟩ = some (.int .i64 x247006_4) := (blk_cell BK246.out 6).trans rfl; have hfz64_0 := blk_frozen BK246.out 0; have hfz64_1 := blk_frozen BK246.out 1; have hfz64_2 := blk_frozen BK246.out 2; have hfz64_3 := blk_frozen BK246.out 3; have hfz64_4 := blk_frozen BK246.out 4; have hfz64_5 := blk_frozen BK246.out 5; have hfz64_6 := blk_frozen BK246.out 6; have hcz65_0 : w62.cell? ⟨gb245, 0, none⟩ = some (.int .i64 x246000_4) := (blk_cell BK245.out 0).trans rfl; have hcz65_1 : w62.cell? ⟨gb245, 1, none⟩ = some (.string x246001_4) := (blk_cell BK245.out 1).trans rfl; have hcz65_2 : w62.cell? ⟨gb245, 2, none⟩ = some (.string x246002_4) := (blk_cell BK245.out 2).trans rfl; have hcz65_3 : w62.cell? ⟨gb245, 3, none⟩ = some (.slice none 0 0) := (blk_cell BK245.out 3).trans rfl; have hcz65_4 : w62.cell? ⟨gb245, 4, none⟩ = some (.string x246004_4) := (blk_cell BK245.out 4).trans rfl; have hcz65_5 : w62.cell? ⟨gb245, 5, none⟩ = some (.int .i64 x246005_4) := (blk_cell BK245.out 5).trans rfl; have hcz65_6 : w62.cell? ⟨gb245, 6, none⟩ = some (.int .i64 x246006_4) := (blk_cell BK245.out 6).trans rfl; have hfz65_0 := blk_frozen BK245.out 0; have hfz65_1 := blk_frozen BK245.out 1; have hfz65_2 := blk_frozen BK245.out 2; have hfz65_3 := blk_frozen BK245.out 3; have hfz65_4 := blk_frozen BK245.out 4; have hfz65_5 := blk_frozen BK245.out 5; have hfz65_6 := blk_frozen BK245.out 6; obtain ⟨Ao66, co66, eo66⟩ := Kd.R_slice HO_247003.out; subst eo66))
                                          refine bodyPost_ret (results_ct rfl _ _ gb245 31 #[.int .i64 a0, .string x247001_4, .string x247002_4, .slice Ao66 x247003_4.length co66, .string t252, .int .i64 x247005_4, .int .i64 x247006_4] (0, 0) _ rfl (by (with_reducible repeat (first | refine blk_drewN ?_ _ | refine blk_drew ?_ | refine blk_alloc ?_ _)); refine blk_put (cs := #[.int .i64 a0, .string x247001_4, .string x247002_4, .slice Ao66 x247003_4.length co66, .string t252, .int .i64 x247005_4, .int .i64 x246006_4]) ?_ 6 _ rfl; (with_reducible repeat (first | refine blk_drewN ?_ _ | refine blk_drew ?_ | refine blk_alloc ?_ _)); refine blk_put (cs := #[.int .i64 a0, .string x247001_4, .string x247002_4, .slice Ao66 x247003_4.length co66, .string t252, .int .i64 x246005_4, .int .i64 x246006_4]) ?_ 5 _ rfl; (with_reducible repeat (first | refine blk_drewN ?_ _ | refine blk_drew ?_ | refine blk_alloc ?_ _)); refine blk_put (cs := #[.int .i64 a0, .string x247001_4, .string x247002_4, .slice Ao66 x247003_4.length co66, .string x246004_4, .int .i64 x246005_4, .int .i64 x246006_4]) ?_ 4 _ rfl; (with_reducible repeat (first | refine blk_drewN ?_ _ | refine blk_drew ?_ | refine blk_alloc ?_ _)); refine blk_put (cs := #[.int .i64 a0, .string x247001_4, .string x247002_4, .slice none 0 0, .string x246004_4, .int .i64 x246005_4, .int .i64 x246006_4]) ?_ 3 _ rfl; (with_reducible repeat (first | refine blk_drewN ?_ _ | refine blk_drew ?_ | refine blk_alloc ?_ _)); refine blk_put (cs := #[.int .i64 a0, .string x247001_4, .string x246002_4, .slice none 0 0, .string x246004_4, .int .i64 x246005_4, .int .i64 x246006_4]) ?_ 2 _ rfl; (with_reducible repeat (first | refine blk_drewN ?_ _ | refine blk_drew ?_ | refine blk_alloc ?_ _)); refine blk_put (cs := #[.int .i64 a0, .string x246001_4, .string x246002_4, .slice none 0 0, .string x246004_4, .int .i64 x246005_4, .int .i64 x246006_4]) ?_ 1 _ rfl; (with_reducible repeat (first | refine blk_drewN ?_ _ | refine blk_drew ?_ | refine blk_alloc ?_ _)); refine blk_put (cs := #[.int .i64 x246000_4, .string x246001_4, .string x246002_4, .slice none 0 0, .string x246004_4, .int .i64 x246005_4, .int .i64 x246006_4]) ?_ 0 _ rfl; (with_reducible repeat (first | refine blk_drewN ?_ _ | refine blk_drew ?_ | refine blk_alloc ?_ _)); refine blk_far ?_ NB245_246.out _; (with_reducible repeat (first | refine blk_drewN ?_ _ | refine blk_drew ?_ | refine blk_alloc ?_ _)); exact BK245.out) Tryz.underlying31 rfl (by kernel_rfl)) rfl ?_
                                          exact ⟨_, by first | rfl | (simp [errW_none, errW_some] <;> rfl) | (simp [*, errW_none, errW_some] <;> rfl), by (with_reducible repeat (first | apply Kd.R_alloc | apply Kd.R_drewN | apply Kd.R_drew)); exact Kd.R_mono (Kd.R_far (p := ⟨gb245, 6, none⟩) (Kd.R_far (p := ⟨gb245, 5, none⟩) (Kd.R_far (p := ⟨gb245, 4, none⟩) (Kd.R_far (p := ⟨gb245, 3, none⟩) (Kd.R_far (p := ⟨gb245, 2, none⟩) (Kd.R_far (p := ⟨gb245, 1, none⟩) (Kd.R_far (p := ⟨gb245, 0, none⟩) (Kd.R_far (p := ⟨gb246, 4, none⟩) (Kd.R_types (Kd.R_types HO_247003.out BK246.out (by decide)) BK245.out (by decide)) (fun _ hk => hk.1.2) (.string t252)) (fun _ hk => hk.2) (.int .i64 a0)) (fun _ hk => hk.2) (.string x247001_4)) (fun _ hk => hk.2) (.string x247002_4)) (fun _ hk => hk.2) (.slice Ao66 x247003_4.length co66)) (fun _ hk => hk.2) (.string t252)) (fun _ hk => hk.2) (.int .i64 x247005_4)) (fun _ hk => hk.2) (.int .i64 x247006_4)) (fun _ hk => trivial), by repeat (first | (with_reducible first | exact HB.out | apply below_alloc | apply pw_below_drewN | apply below_drew1 | refine below_set ?_ GE245.out | refine below_set ?_ GE246.out) | exact HB.out)⟩
                                      · rw [if_neg c57] at H
                                        have c57b0 : (x12_27 == 116) = false := beq_eq_false_iff_ne.mpr c57
                                        have c57b1 : (x12_27 != 116) = true := bne_iff_ne.mpr c57
                                        by_cases c67 : x12_27 = 42
                                        · rw [if_pos c67] at H
                                          have c67b0 : (x12_27 == 42) = true := beq_iff_eq.mpr c67
                                          have c67b1 : (x12_27 != 42) = false := bne_eq_false_iff_eq.mpr c67
                                          clear c67
                                          by_cases c68 : x247003_4.length < 8796093022208
                                          · rw [if_pos c68] at H
                                            have LMc68 := Aside0.mk c68
                                            clear c68
                                            obtain ⟨y257, hy257⟩ : ∃ y_ : List ByteArray, y_ = (x247003_4 ++ [t252]) := ⟨_, rfl⟩
                                            replace H : (if t253 = true then (kilnref24_read.l0 kj27 l1 (rdOf ByteArray.empty t247 a0) x9_17 (wrap64 (x11_4 + 1)) a0 x247001_4 x247002_4 y257 x247004_4 x247005_4 x247006_4) else (some (a0, x247001_4, x247002_4, y257, x247004_4, x247005_4, x247006_4, 244))) = some (r1, r2, r3, r4, r5, r6, r7, r8) := by first | (rw [hy257]; with_reducible exact H) | (have H2_ := (Option.bind_some _ _).symm.trans H; rw [hy257]; with_reducible exact H2_) | (have H2_ := (Option.bind_some _ _).symm.trans H; with_reducible exact H2_) | with_reducible exact H | (rw [hy257]; exact H) | exact H
                                            have Ny257 := Aside0.mk hy257
                                            clear hy257
                                            by_cases c69 : t253 = true
                                            · subst c69
                                              have H1 : (kilnref24_read.l0 kj27 l1 (rdOf ByteArray.empty t247 a0) x9_17 (wrap64 (x11_4 + 1)) a0 x247001_4 x247002_4 y257 x247004_4 x247005_4 x247006_4) = some (r1, r2, r3, r4, r5, r6, r7, r8) := by rw [if_pos rfl] at H; exact H
                                              clear H
                                              have H := H1
                                              clear H1
                                              have H' := Aside0.mk H
                                              clear H
                                              have p251 : 0 ≤ (x11_4 : Int) := of_decide_eq_true (by first | (with_reducible assumption) | assumption)
                                              have q251 : x11_4 < (l1.length : Int) := of_decide_eq_true (by first | (with_reducible assumption) | assumption)
                                              obtain ⟨ad251, e251, hx251_0⟩ := Kd.at_string HR1.out x11_4 p251 q251
                                              cases e251
                                              replace hx251_0 := (HB.out.cell (World.block_lt_of_cell? w _ hx251_0)).trans hx251_0
                                              replace p251 := eq_true p251
                                              replace q251 := eq_true q251
                                              go_wp2_with (first | ((with_reducible refine gate_callee (f := 79) rfl ?_); refine goesL_ (some 71) rfl rfl Tryz.func79 (by kernel_rfl) rfl #[.string (rdOf ByteArray.empty l1 x11_4)] rfl (by (try simp only [List.map_toArray, List.map_cons, List.map_nil]); first | done | rfl | (simp only [List.length_drop, List.length_take]; rfl)) ?_; (with_reducible refine (kilnref24_Unwritten.calls kj27 (rdOf ByteArray.empty l1 x11_4) t252 true _ A35.out).mono ?_); rintro e w70 ⟨rfl, hb⟩; refine ⟨_, rfl, ?_⟩; have n0_ := Aside0.mk (Kd.R_below (by (with_reducible repeat (first | apply Kd.R_alloc | apply Kd.R_drewN | apply Kd.R_drew)); exact HO_247003.out) hb); have n1_ := Aside0.mk (blk_below (g := gb245) (o := .cells #[.int .i64 x246000_4, .string x246001_4, .string x246002_4, .slice none 0 0, .string x246004_4, .int .i64 x246005_4, .int .i64 x246006_4] 31 (0, 0)) (by (with_reducible repeat (first | refine blk_drewN ?_ _ | refine blk_drew ?_ | refine blk_alloc ?_ _)); exact BK245.out) hb); have n2_ := Aside0.mk (blk_below (g := gb246) (o := .cells #[.int .i64 a0, .string x247001_4, .string x247002_4, u247003, .string x247004_4, .int .i64 x247005_4, .int .i64 x247006_4] 31 (0, 0)) (by (with_reducible repeat (first | refine blk_drewN ?_ _ | refine blk_drew ?_ | refine blk_alloc ?_ _)); exact BK246.out) hb); have n3_ := Aside0.mk (below_step (by repeat (first | (with_reducible first | exact HB.out | apply below_alloc | apply pw_below_drewN | apply below_drew1 | refine below_set ?_ GE245.out | refine below_set ?_ GE246.out) | exact HB.out)) hb); clear HO_247003; clear BK245; clear BK246; clear HB; have HO_247003 := n0_; have BK245 := n1_; have BK246 := n2_; have HB := n3_; clear n0_ n1_ n2_ n3_; (try clear hb); (try clear hb2); (try clear hk); (try clear hi); have p254 : 0 ≤ (x11_4 : Int) := of_decide_eq_true (by first | (with_reducible assumption) | assumption); have q254 : x11_4 < (l1.length : Int) := of_decide_eq_true (by first | (with_reducible assumption) | assumption); obtain ⟨ad254, e254, hx254_0⟩ := Kd.at_string HR1.out x11_4 p254 q254; obtain rfl : ad251 = ad254 := (by injection e254); replace hx254_0 := (HB.out.cell (World.block_lt_of_cell? w _ hx254_0)).trans hx254_0; replace p254 := eq_true p254; replace q254 := eq_true q254) | ((with_reducible refine gate_callee (f := 78) rfl ?_); refine goesL_ (some 79) rfl rfl Tryz.func78 (by kernel_rfl) rfl #[.string (rdOf ByteArray.empty l1 x11_4)] rfl (by (try simp only [List.map_toArray, List.map_cons, List.map_nil]); first | done | rfl | (simp only [List.length_drop, List.length_take]; rfl)) ?_; (with_reducible refine (kilnref24_number.calls kj27 (rdOf ByteArray.empty l1 x11_4) t255 t256 _ A36.out).mono ?_); rintro e w' ⟨rfl, ⟨nd, rfl⟩⟩; refine ⟨_, rfl, ?_⟩; (try (rw [drewN_self w70]; generalize hq_ : World.drewN w70 _ = w70; have n0_ : Aside0 (Kd.R Kd.string 9 w70 w.heap.size (fun _ => True) u247003 x247003_4) := ⟨by rw [← hq_]; exact (by (with_reducible repeat (first | apply Kd.R_alloc | apply Kd.R_drewN | apply Kd.R_drew)); exact HO_247003.out)⟩; have n1_ : Aside0 (w70.heap[gb245]? = some (.cells #[.int .i64 x246000_4, .string x246001_4, .string x246002_4, .slice none 0 0, .string x246004_4, .int .i64 x246005_4, .int .i64 x246006_4] 31 (0, 0))) := ⟨by rw [← hq_]; exact (by (with_reducible repeat (first | refine blk_drewN ?_ _ | refine blk_drew ?_ | refine blk_alloc ?_ _)); exact BK245.out)⟩; have n2_ : Aside0 (w70.heap[gb246]? = some (.cells #[.int .i64 a0, .string x247001_4, .string x247002_4, u247003, .string x247004_4, .int .i64 x247005_4, .int .i64 x247006_4] 31 (0, 0))) := ⟨by rw [← hq_]; exact (by (with_reducible repeat (first | refine blk_drewN ?_ _ | refine blk_drew ?_ | refine blk_alloc ?_ _)); exact BK246.out)⟩; have n3_ : Aside0 (Below w.heap.size w w70) := ⟨by rw [← hq_]; exact (by repeat (first | (with_reducible first | exact HB.out | apply below_alloc | apply pw_below_drewN | apply below_drew1 | refine below_set ?_ GE245.out | refine below_set ?_ GE246.out) | exact HB.out))⟩; clear HO_247003 BK245 BK246 HB hq_; have HO_247003 := n0_; have BK245 := n1_; have BK246 := n2_; have HB := n3_; clear n0_ n1_ n2_ n3_)); have hnb71 := NB246_245.out; have hnc71 := NB245_246.out; have hcz72_0 : w70.cell? ⟨gb246, 0, none⟩ = some (.int .i64 a0) := (blk_cell BK246.out 0).trans rfl; have hcz72_1 : w70.cell? ⟨gb246, 1, none⟩ = some (.string x247001_4) := (blk_cell BK246.out 1).trans rfl; have hcz72_2 : w70.cell? ⟨gb246, 2, none⟩ = some (.string x247002_4) := (blk_cell BK246.out 2).trans rfl; have hcz72_3 : w70.cell? ⟨gb246, 3, none⟩ = some (u247003) := (blk_cell BK246.out 3).trans rfl; have hcz72_4 : w70.cell? ⟨gb246, 4, none⟩ = some (.string x247004_4) := (blk_cell BK246.out 4).trans rfl; have hcz72_5 : w70.cell? ⟨gb246, 5, none⟩ = some (.int .i64 x247005_4) := (blk_cell BK246.out 5).trans rfl; have hcz72_6 : w70.cell? ⟨gb246, 6, none⟩ = some (.int .i64 x247006_4) := (blk_cell BK246.out 6).trans rfl; have hfz72_0 := blk_frozen BK246.out 0; have hfz72_1 := blk_frozen BK246.out 1; have hfz72_2 := blk_frozen BK246.out 2; have hfz72_3 := blk_frozen BK246.out 3; have hfz72_4 := blk_frozen BK246.out 4; have hfz72_5 := blk_frozen BK246.out 5; have hfz72_6 := blk_frozen BK246.out 6) | ((with_reducible refine gate_builtin (b := .append) (xs := #[.tmp 99, .tmp 101]) rfl ?_); (try (refine gate_guard (by rfl) ?_; dsimp only)); at_builtin; refine Kd.R_append Kd.string (w0 := w) w.heap.size rfl (.tmp 99) (.tmp 101) 29 9 (.string ⟨#[]⟩) 16 rfl Tryz.underlying29 info9 rfl (by decide) (by omega) u247003 x247003_4 t252 [.string t252] (fun _ => True) (fun _ => False) rfl rfl ?aP (fun _ hk => hk.elim) ?aF ?aO ?aB ?aS ?aL ?_; (case aP => exact rfl); (case aB => exact (by repeat (first | (with_reducible first | exact HB.out | apply below_alloc | apply pw_below_drewN | apply below_drew1 | refine below_set ?_ GE245.out | refine below_set ?_ GE246.out) | exact HB.out))); (case aF => exact (fun _ _ => trivial)); (case aO => exact (by (with_reducible repeat (first | apply Kd.R_alloc | apply Kd.R_drewN | apply Kd.R_drew)); exact HO_247003.out)); (case aS => exact (below_size (by repeat (first | (with_reducible first | exact HB.out | apply below_alloc | apply pw_below_drewN | apply below_drew1 | refine below_set ?_ GE245.out | refine below_set ?_ GE246.out) | exact HB.out)))); (case aL => have := LMc68.out; omega); intro v258 w73 ho hb hg hat; rw [← Ny257.out] at ho; have n0_ := Aside0.mk (blk_grown (g := gb245) (o := .cells #[.int .i64 x246000_4, .string x246001_4, .string x246002_4, .slice none 0 0, .string x246004_4, .int .i64 x246005_4, .int .i64 x246006_4] 31 (0, 0)) (by (with_reducible repeat (first | refine blk_drewN ?_ _ | refine blk_drew ?_ | refine blk_alloc ?_ _)); exact BK245.out) hg (Kd.R_ne HO_247003.out BK245.out (by decide))); have n1_ := Aside0.mk (blk_grown (g := gb246) (o := .cells #[.int .i64 a0, .string x247001_4, .string x247002_4, u247003, .string x247004_4, .int .i64 x247005_4, .int .i64 x247006_4] 31 (0, 0)) (by (with_reducible repeat (first | refine blk_drewN ?_ _ | refine blk_drew ?_ | refine blk_alloc ?_ _)); exact BK246.out) hg (Kd.R_ne HO_247003.out BK246.out (by decide))); have n2_ := Aside0.mk (hb); have n3_ := Aside0.mk (ho); clear BK245; clear BK246; clear HB; clear HO_247003; have BK245 := n0_; have BK246 := n1_; have HB := n2_; have HO259 := n3_; clear n0_ n1_ n2_ n3_; clear ho hb hg hat; obtain ⟨Ao74, co74, eo74⟩ := Kd.R_slice HO259.out; subst eo74; have hcz75_0 : w73.cell? ⟨gb246, 0, none⟩ = some (.int .i64 a0) := (blk_cell BK246.out 0).trans rfl; have hcz75_1 : w73.cell? ⟨gb246, 1, none⟩ = some (.string x247001_4) := (blk_cell BK246.out 1).trans rfl; have hcz75_2 : w73.cell? ⟨gb246, 2, none⟩ = some (.string x247002_4) := (blk_cell BK246.out 2).trans rfl; have hcz75_3 : w73.cell? ⟨gb246, 3, none⟩ = some (u247003) := (blk_cell BK246.out 3).trans rfl; have hcz75_4 : w73.cell? ⟨gb246, 4, none⟩ = some (.string x247004_4) := (blk_cell BK246.out 4).trans rfl; have hcz75_5 : w73.cell? ⟨gb246, 5, none⟩ = some (.int .i64 x247005_4) := (blk_cell BK246.out 5).trans rfl; have hcz75_6 : w73.cell? ⟨gb246, 6, none⟩ = some (.int .i64 x247006_4) := (blk_cell BK246.out 6).trans rfl; have hfz75_0 := blk_frozen BK246.out 0; have hfz75_1 := blk_frozen BK246.out 1; have hfz75_2 := blk_frozen BK246.out 2; have hfz75_3 := blk_frozen BK246.out 3; have hfz75_4 := blk_frozen BK246.out 4; have hfz75_5 := blk_frozen BK246.out 5; have hfz75_6 := blk_frozen BK246.out 6))
                                              go_roundg kj27
                                              case measure => have := HJ5.out; have := HJ17.out; have := HJ19.out; have := HK4.out; have := HJ27.out; omega
                                              case rel => exact ⟨(wrap64 (x11_4 + 1)), (x246000_4), (x246001_4), (x246002_4), (x246004_4), (x246005_4), (x246006_4), (x247001_4), (x247002_4), (y257), (x247004_4), (x247005_4), (x247006_4), (.slice Ao74 y257.length co74), (by first | rfl | (simp; done) | (simp [*]; done)), H', ⟨by have := HJ5.out; have := HJ17.out; have := HJ19.out; have := HK4.out; have := HJ27.out; omega⟩, ⟨by (with_reducible repeat (first | apply Kd.R_alloc | apply Kd.R_drewN | apply Kd.R_drew)); exact Kd.R_mono (Kd.R_far (p := ⟨gb246, 3, none⟩) (Kd.R_types HO259.out BK246.out (by decide)) (fun _ hk => hk.2) (.slice Ao74 y257.length co74)) (fun _ hk => trivial)⟩, ⟨by (with_reducible repeat (first | refine blk_drewN ?_ _ | refine blk_drew ?_ | refine blk_alloc ?_ _)); refine blk_far ?_ NB245_246.out _; (with_reducible repeat (first | refine blk_drewN ?_ _ | refine blk_drew ?_ | refine blk_alloc ?_ _)); exact BK245.out⟩, ⟨by (with_reducible repeat (first | refine blk_drewN ?_ _ | refine blk_drew ?_ | refine blk_alloc ?_ _)); refine blk_put (cs := #[.int .i64 a0, .string x247001_4, .string x247002_4, u247003, .string x247004_4, .int .i64 x247005_4, .int .i64 x247006_4]) ?_ 3 _ rfl; (with_reducible repeat (first | refine blk_drewN ?_ _ | refine blk_drew ?_ | refine blk_alloc ?_ _)); exact BK246.out⟩, ⟨by repeat (first | (with_reducible first | exact HB.out | apply below_alloc | apply pw_below_drewN | apply below_drew1 | refine below_set ?_ GE245.out | refine below_set ?_ GE246.out) | exact HB.out)⟩⟩
                                            · replace c69 := Bool.eq_false_iff.mpr c69
                                              subst c69
                                              have H1 : (some (a0, x247001_4, x247002_4, y257, x247004_4, x247005_4, x247006_4, 244)) = some (r1, r2, r3, r4, r5, r6, r7, r8) := by rw [if_neg (show ¬ (false = true) by decide)] at H; exact H
                                              clear H
                                              have H := H1
                                              clear H1
                                              simp only [Option.some.injEq, Prod.mk.injEq] at H
                                              obtain ⟨rfl, rfl, rfl, rfl, rfl, rfl, rfl, rfl⟩ := H
                                              have p251 : 0 ≤ (x11_4 : Int) := of_decide_eq_true (by first | (with_reducible assumption) | assumption)
                                              have q251 : x11_4 < (l1.length : Int) := of_decide_eq_true (by first | (with_reducible assumption) | assumption)
                                              obtain ⟨ad251, e251, hx251_0⟩ := Kd.at_string HR1.out x11_4 p251 q251
                                              cases e251
                                              replace hx251_0 := (HB.out.cell (World.block_lt_of_cell? w _ hx251_0)).trans hx251_0
                                              replace p251 := eq_true p251
                                              replace q251 := eq_true q251
                                              go_wp2_with (first | ((with_reducible refine gate_callee (f := 79) rfl ?_); refine goesL_ (some 71) rfl rfl Tryz.func79 (by kernel_rfl) rfl #[.string (rdOf ByteArray.empty l1 x11_4)] rfl (by (try simp only [List.map_toArray, List.map_cons, List.map_nil]); first | done | rfl | (simp only [List.length_drop, List.length_take]; rfl)) ?_; (with_reducible refine (kilnref24_Unwritten.calls kj27 (rdOf ByteArray.empty l1 x11_4) t252 false _ A35.out).mono ?_); rintro e w76 ⟨rfl, hb⟩; refine ⟨_, rfl, ?_⟩; have n0_ := Aside0.mk (Kd.R_below (by (with_reducible repeat (first | apply Kd.R_alloc | apply Kd.R_drewN | apply Kd.R_drew)); exact HO_247003.out) hb); have n1_ := Aside0.mk (blk_below (g := gb245) (o := .cells #[.int .i64 x246000_4, .string x246001_4, .string x246002_4, .slice none 0 0, .string x246004_4, .int .i64 x246005_4, .int .i64 x246006_4] 31 (0, 0)) (by (with_reducible repeat (first | refine blk_drewN ?_ _ | refine blk_drew ?_ | refine blk_alloc ?_ _)); exact BK245.out) hb); have n2_ := Aside0.mk (blk_below (g := gb246) (o := .cells #[.int .i64 a0, .string x247001_4, .string x247002_4, u247003, .string x247004_4, .int .i64 x247005_4, .int .i64 x247006_4] 31 (0, 0)) (by (with_reducible repeat (first | refine blk_drewN ?_ _ | refine blk_drew ?_ | refine blk_alloc ?_ _)); exact BK246.out) hb); have n3_ := Aside0.mk (below_step (by repeat (first | (with_reducible first | exact HB.out | apply below_alloc | apply pw_below_drewN | apply below_drew1 | refine below_set ?_ GE245.out | refine below_set ?_ GE246.out) | exact HB.out)) hb); clear HO_247003; clear BK245; clear BK246; clear HB; have HO_247003 := n0_; have BK245 := n1_; have BK246 := n2_; have HB := n3_; clear n0_ n1_ n2_ n3_; (try clear hb); (try clear hb2); (try clear hk); (try clear hi); have p254 : 0 ≤ (x11_4 : Int) := of_decide_eq_true (by first | (with_reducible assumption) | assumption); have q254 : x11_4 < (l1.length : Int) := of_decide_eq_true (by first | (with_reducible assumption) | assumption); obtain ⟨ad254, e254, hx254_0⟩ := Kd.at_string HR1.out x11_4 p254 q254; obtain rfl : ad251 = ad254 := (by injection e254); replace hx254_0 := (HB.out.cell (World.block_lt_of_cell? w _ hx254_0)).trans hx254_0; replace p254 := eq_true p254; replace q254 := eq_true q254) | ((with_reducible refine gate_callee (f := 78) rfl ?_); refine goesL_ (some 79) rfl rfl Tryz.func78 (by kernel_rfl) rfl #[.string (rdOf ByteArray.empty l1 x11_4)] rfl (by (try simp only [List.map_toArray, List.map_cons, List.map_nil]); first | done | rfl | (simp only [List.length_drop, List.length_take]; rfl)) ?_; (with_reducible refine (kilnref24_number.calls kj27 (rdOf ByteArray.empty l1 x11_4) t255 t256 _ A36.out).mono ?_); rintro e w' ⟨rfl, ⟨nd, rfl⟩⟩; refine ⟨_, rfl, ?_⟩; (try (rw [drewN_self w76]; generalize hq_ : World.drewN w76 _ = w76; have n0_ : Aside0 (Kd.R Kd.string 9 w76 w.heap.size (fun _ => True) u247003 x247003_4) := ⟨by rw [← hq_]; exact (by (with_reducible repeat (first | apply Kd.R_alloc | apply Kd.R_drewN | apply Kd.R_drew)); exact HO_247003.out)⟩; have n1_ : Aside0 (w76.heap[gb245]? = some (.cells #[.int .i64 x246000_4, .string x246001_4, .string x246002_4, .slice none 0 0, .string x246004_4, .int .i64 x246005_4, .int .i64 x246006_4] 31 (0, 0))) := ⟨by rw [← hq_]; exact (by (with_reducible repeat (first | refine blk_drewN ?_ _ | refine blk_drew ?_ | refine blk_alloc ?_ _)); exact BK245.out)⟩; have n2_ : Aside0 (w76.heap[gb246]? = some (.cells #[.int .i64 a0, .string x247001_4, .string x247002_4, u247003, .string x247004_4, .int .i64 x247005_4, .int .i64 x247006_4] 31 (0, 0))) := ⟨by rw [← hq_]; exact (by (with_reducible repeat (first | refine blk_drewN ?_ _ | refine blk_drew ?_ | refine blk_alloc ?_ _)); exact BK246.out)⟩; have n3_ : Aside0 (Below w.heap.size w w76) := ⟨by rw [← hq_]; exact (by repeat (first | (with_reducible first | exact HB.out | apply below_alloc | apply pw_below_drewN | apply below_drew1 | refine below_set ?_ GE245.out | refine below_set ?_ GE246.out) | exact HB.out))⟩; clear HO_247003 BK245 BK246 HB hq_; have HO_247003 := n0_; have BK245 := n1_; have BK246 := n2_; have HB := n3_; clear n0_ n1_ n2_ n3_)); have hnb77 := NB246_245.out; have hnc77 := NB245_246.out; have hcz78_0 : w76.cell? ⟨gb246, 0, none⟩ = some (.int .i64 a0) := (blk_cell BK246.out 0).trans rfl; have hcz78_1 : w76.cell? ⟨gb246, 1, none⟩ = some (.string x247001_4) := (blk_cell BK246.out 1).trans rfl; have hcz78_2 : w76.cell? ⟨gb246, 2, none⟩ = some (.string x247002_4) := (blk_cell BK246.out 2).trans rfl; have hcz78_3 : w76.cell? ⟨gb246, 3, none⟩ = some (u247003) := (blk_cell BK246.out 3).trans rfl; have hcz78_4 : w76.cell? ⟨gb246, 4, none⟩ = some (.string x247004_4) := (blk_cell BK246.out 4).trans rfl; have hcz78_5 : w76.cell? ⟨gb246, 5, none⟩ = some (.int .i64 x247005_4) := (blk_cell BK246.out 5).trans rfl; have hcz78_6 : w76.cell? ⟨gb246, 6, none⟩ = some (.int .i64 x247006_4) := (blk_cell BK246.out 6).trans rfl; have hfz78_0 := blk_frozen BK246.out 0; have hfz78_1 := blk_frozen BK246.out 1; have hfz78_2 := blk_frozen BK246.out 2; have hfz78_3 := blk_frozen BK246.out 3; have hfz78_4 := blk_frozen BK246.out 4; have hfz78_5 := blk_frozen BK246.out 5; have hfz78_6 := blk_frozen BK246.out 6) | ((with_reducible refine gate_builtin (b := .append) (xs := #[.tmp 99, .tmp 101]) rfl ?_); (try (refine gate_guard (by rfl) ?_; dsimp only)); at_builtin; refine Kd.R_append Kd.string (w0 := w) w.heap.size rfl (.tmp 99) (.tmp 101) 29 9 (.string ⟨#[]⟩) 16 rfl Tryz.underlying29 info9 rfl (by decide) (by omega) u247003 x247003_4 t252 [.string t252] (fun _ => True) (fun _ => False) rfl rfl ?aP (fun _ hk => hk.elim) ?aF ?aO ?aB ?aS ?aL ?_; (case aP => exact rfl); (case aB => exact (by repeat (first | (with_reducible first | exact HB.out | apply below_alloc | apply pw_below_drewN | apply below_drew1 | refine below_set ?_ GE245.out | refine below_set ?_ GE246.out) | exact HB.out))); (case aF => exact (fun _ _ => trivial)); (case aO => exact (by (with_reducible repeat (first | apply Kd.R_alloc | apply Kd.R_drewN | apply Kd.R_drew)); exact HO_247003.out)); (case aS => exact (below_size (by repeat (first | (with_reducible first | exact HB.out | apply below_alloc | apply pw_below_drewN | apply below_drew1 | refine below_set ?_ GE245.out | refine below_set ?_ GE246.out) | exact HB.out)))); (case aL => have := LMc68.out; omega); intro v258 w79 ho hb hg hat; rw [← Ny257.out] at ho; have n0_ := Aside0.mk (blk_grown (g := gb245) (o := .cells #[.int .i64 x246000_4, .string x246001_4, .string x246002_4, .slice none 0 0, .string x246004_4, .int .i64 x246005_4, .int .i64 x246006_4] 31 (0, 0)) (by (with_reducible repeat (first | refine blk_drewN ?_ _ | refine blk_drew ?_ | refine blk_alloc ?_ _)); exact BK245.out) hg (Kd.R_ne HO_247003.out BK245.out (by decide))); have n1_ := Aside0.mk (blk_grown (g := gb246) (o := .cells #[.int .i64 a0, .string x247001_4, .string x247002_4, u247003, .string x247004_4, .int .i64 x247005_4, .int .i64 x247006_4] 31 (0, 0)) (by (with_reducible repeat (first | refine blk_drewN ?_ _ | refine blk_drew ?_ | refine blk_alloc ?_ _)); exact BK246.out) hg (Kd.R_ne HO_247003.out BK246.out (by decide))); have n2_ := Aside0.mk (hb); have n3_ := Aside0.mk (ho); clear BK245; clear BK246; clear HB; clear HO_247003; have BK245 := n0_; have BK246 := n1_; have HB := n2_; have HO259 := n3_; clear n0_ n1_ n2_ n3_; clear ho hb hg hat; obtain ⟨Ao80, co80, eo80⟩ := Kd.R_slice HO259.out; subst eo80; have hcz81_0 : w79.cell? ⟨gb246, 0, none⟩ = some (.int .i64 a0) := (blk_cell BK246.out 0).trans rfl; have hcz81_1 : w79.cell? ⟨gb246, 1, none⟩ = some (.string x247001_4) := (blk_cell BK246.out 1).trans rfl; have hcz81_2 : w79.cell? ⟨gb246, 2, none⟩ = some (.string x247002_4) := (blk_cell BK246.out 2).trans rfl; have hcz81_3 : w79.cell? ⟨gb246, 3, none⟩ = some (u247003) := (blk_cell BK246.out 3).trans rfl; have hcz81_4 : w79.cell? ⟨gb246, 4, none⟩ = some (.string x247004_4) := (blk_cell BK246.out 4).trans rfl; have hcz81_5 : w79.cell? ⟨gb246, 5, none⟩ = some (.int .i64 x247005_4) := (blk_cell BK246.out 5).trans rfl; have hcz81_6 : w79.cell? ⟨gb246, 6, none⟩ = some (.int .i64 x247006_4) := (blk_cell BK246.out 6).trans rfl; have hfz81_0 := blk_frozen BK246.out 0; have hfz81_1 := blk_frozen BK246.out 1; have hfz81_2 := blk_frozen BK246.out 2; have hfz81_3 := blk_frozen BK246.out 3; have hfz81_4 := blk_frozen BK246.out 4; have hfz81_5 := blk_frozen BK246.out 5; have hfz81_6 := blk_frozen BK246.out 6; have hcz82_0 : w79.cell? ⟨gb245, 0, none⟩ = some (.int .i64 x246000_4) := (blk_cell BK245.out 0).trans rfl; have hcz82_1 : w79.cell? ⟨gb245, 1, none⟩ = some (.string x246001_4) := (blk_cell BK245.out 1).trans rfl; have hcz82_2 : w79.cell? ⟨gb245, 2, none⟩ = some (.string x246002_4) := (blk_cell BK245.out 2).trans rfl; have hcz82_3 : w79.cell? ⟨gb245, 3, none⟩ = some (.slice none 0 0) := (blk_cell BK245.out 3).trans rfl; have hcz82_4 : w79.cell? ⟨gb245, 4, none⟩ = some (.string x246004_4) := (blk_cell BK245.out 4).trans rfl; have hcz82_5 : w79.cell? ⟨gb245, 5, none⟩ = some (.int .i64 x246005_4) := (blk_cell BK245.out 5).trans rfl; have hcz82_6 : w79.cell? ⟨gb245, 6, none⟩ = some (.int .i64 x246006_4) := (blk_cell BK245.out 6).trans rfl; have hfz82_0 := blk_frozen BK245.out 0; have hfz82_1 := blk_frozen BK245.out 1; have hfz82_2 := blk_frozen BK245.out 2; have hfz82_3 := blk_frozen BK245.out 3; have hfz82_4 := blk_frozen BK245.out 4; have hfz82_5 := blk_frozen BK245.out 5; have hfz82_6 := blk_frozen BK245.out 6))
                                              refine bodyPost_ret (results_ct rfl _ _ gb245 31 #[.int .i64 a0, .string x247001_4, .string x247002_4, .slice Ao80 y257.length co80, .string x247004_4, .int .i64 x247005_4, .int .i64 x247006_4] (0, 0) _ rfl (by (with_reducible repeat (first | refine blk_drewN ?_ _ | refine blk_drew ?_ | refine blk_alloc ?_ _)); refine blk_put (cs := #[.int .i64 a0, .string x247001_4, .string x247002_4, .slice Ao80 y257.length co80, .string x247004_4, .int .i64 x247005_4, .int .i64 x246006_4]) ?_ 6 _ rfl; (with_reducible repeat (first | refine blk_drewN ?_ _ | refine blk_drew ?_ | refine blk_alloc ?_ _)); refine blk_put (cs := #[.int .i64 a0, .string x247001_4, .string x247002_4, .slice Ao80 y257.length co80, .string x247004_4, .int .i64 x246005_4, .int .i64 x246006_4]) ?_ 5 _ rfl; (with_reducible repeat (first | refine blk_drewN ?_ _ | refine blk_drew ?_ | refine blk_alloc ?_ _)); refine blk_put (cs := #[.int .i64 a0, .string x247001_4, .string x247002_4, .slice Ao80 y257.length co80, .string x246004_4, .int .i64 x246005_4, .int .i64 x246006_4]) ?_ 4 _ rfl; (with_reducible repeat (first | refine blk_drewN ?_ _ | refine blk_drew ?_ | refine blk_alloc ?_ _)); refine blk_put (cs := #[.int .i64 a0, .string x247001_4, .string x247002_4, .slice none 0 0, .string x246004_4, .int .i64 x246005_4, .int .i64 x246006_4]) ?_ 3 _ rfl; (with_reducible repeat (first | refine blk_drewN ?_ _ | refine blk_drew ?_ | refine blk_alloc ?_ _)); refine blk_put (cs := #[.int .i64 a0, .string x247001_4, .string x246002_4, .slice none 0 0, .string x246004_4, .int .i64 x246005_4, .int .i64 x246006_4]) ?_ 2 _ rfl; (with_reducible repeat (first | refine blk_drewN ?_ _ | refine blk_drew ?_ | refine blk_alloc ?_ _)); refine blk_put (cs := #[.int .i64 a0, .string x246001_4, .string x246002_4, .slice none 0 0, .string x246004_4, .int .i64 x246005_4, .int .i64 x246006_4]) ?_ 1 _ rfl; (with_reducible repeat (first | refine blk_drewN ?_ _ | refine blk_drew ?_ | refine blk_alloc ?_ _)); refine blk_put (cs := #[.int .i64 x246000_4, .string x246001_4, .string x246002_4, .slice none 0 0, .string x246004_4, .int .i64 x246005_4, .int .i64 x246006_4]) ?_ 0 _ rfl; (with_reducible repeat (first | refine blk_drewN ?_ _ | refine blk_drew ?_ | refine blk_alloc ?_ _)); refine blk_far ?_ NB245_246.out _; (with_reducible repeat (first | refine blk_drewN ?_ _ | refine blk_drew ?_ | refine blk_alloc ?_ _)); exact BK245.out) Tryz.underlying31 rfl (by kernel_rfl)) rfl ?_
                                              exact ⟨_, by first | rfl | (simp [errW_none, errW_some] <;> rfl) | (simp [*, errW_none, errW_some] <;> rfl), by (with_reducible repeat (first | apply Kd.R_alloc | apply Kd.R_drewN | apply Kd.R_drew)); exact Kd.R_mono (Kd.R_far (p := ⟨gb245, 6, none⟩) (Kd.R_far (p := ⟨gb245, 5, none⟩) (Kd.R_far (p := ⟨gb245, 4, none⟩) (Kd.R_far (p := ⟨gb245, 3, none⟩) (Kd.R_far (p := ⟨gb245, 2, none⟩) (Kd.R_far (p := ⟨gb245, 1, none⟩) (Kd.R_far (p := ⟨gb245, 0, none⟩) (Kd.R_far (p := ⟨gb246, 3, none⟩) (Kd.R_types (Kd.R_types HO259.out BK246.out (by decide)) BK245.out (by decide)) (fun _ hk => hk.1.2) (.slice Ao80 y257.length co80)) (fun _ hk => hk.2) (.int .i64 a0)) (fun _ hk => hk.2) (.string x247001_4)) (fun _ hk => hk.2) (.string x247002_4)) (fun _ hk => hk.2) (.slice Ao80 y257.length co80)) (fun _ hk => hk.2) (.string x247004_4)) (fun _ hk => hk.2) (.int .i64 x247005_4)) (fun _ hk => hk.2) (.int .i64 x247006_4)) (fun _ hk => trivial), by repeat (first | (with_reducible first | exact HB.out | apply below_alloc | apply pw_below_drewN | apply below_drew1 | refine below_set ?_ GE245.out | refine below_set ?_ GE246.out) | exact HB.out)⟩
                                          · rw [if_neg c68] at H
                                            exact absurd H (by simp)
                                        · rw [if_neg c67] at H
                                          have c67b0 : (x12_27 == 42) = false := beq_eq_false_iff_ne.mpr c67
                                          have c67b1 : (x12_27 != 42) = true := bne_iff_ne.mpr c67
                                          by_cases c83 : x12_27 = 35
                                          · rw [if_pos c83] at H
                                            have c83b0 : (x12_27 == 35) = true := beq_iff_eq.mpr c83
                                            have c83b1 : (x12_27 != 35) = false := bne_eq_false_iff_eq.mpr c83
                                            clear c83
                                            by_cases c84 : t256 = true
                                            · subst c84
                                              have H1 : (kilnref24_read.l0 kj27 l1 (rdOf ByteArray.empty t247 a0) x9_17 (wrap64 (x11_4 + 1)) a0 x247001_4 x247002_4 x247003_4 x247004_4 t255 x247006_4) = some (r1, r2, r3, r4, r5, r6, r7, r8) := by rw [if_pos rfl] at H; exact H
                                              clear H
                                              have H := H1
                                              clear H1
                                              have H' := Aside0.mk H
                                              clear H
                                              have p251 : 0 ≤ (x11_4 : Int) := of_decide_eq_true (by first | (with_reducible assumption) | assumption)
                                              have q251 : x11_4 < (l1.length : Int) := of_decide_eq_true (by first | (with_reducible assumption) | assumption)
                                              obtain ⟨ad251, e251, hx251_0⟩ := Kd.at_string HR1.out x11_4 p251 q251
                                              cases e251
                                              replace hx251_0 := (HB.out.cell (World.block_lt_of_cell? w _ hx251_0)).trans hx251_0
                                              replace p251 := eq_true p251
                                              replace q251 := eq_true q251
                                              go_wp2_with (first | ((with_reducible refine gate_callee (f := 79) rfl ?_); refine goesL_ (some 71) rfl rfl Tryz.func79 (by kernel_rfl) rfl #[.string (rdOf ByteArray.empty l1 x11_4)] rfl (by (try simp only [List.map_toArray, List.map_cons, List.map_nil]); first | done | rfl | (simp only [List.length_drop, List.length_take]; rfl)) ?_; (with_reducible refine (kilnref24_Unwritten.calls kj27 (rdOf ByteArray.empty l1 x11_4) t252 t253 _ A35.out).mono ?_); rintro e w85 ⟨rfl, hb⟩; refine ⟨_, rfl, ?_⟩; have n0_ := Aside0.mk (Kd.R_below (by (with_reducible repeat (first | apply Kd.R_alloc | apply Kd.R_drewN | apply Kd.R_drew)); exact HO_247003.out) hb); have n1_ := Aside0.mk (blk_below (g := gb245) (o := .cells #[.int .i64 x246000_4, .string x246001_4, .string x246002_4, .slice none 0 0, .string x246004_4, .int .i64 x246005_4, .int .i64 x246006_4] 31 (0, 0)) (by (with_reducible repeat (first | refine blk_drewN ?_ _ | refine blk_drew ?_ | refine blk_alloc ?_ _)); exact BK245.out) hb); have n2_ := Aside0.mk (blk_below (g := gb246) (o := .cells #[.int .i64 a0, .string x247001_4, .string x247002_4, u247003, .string x247004_4, .int .i64 x247005_4, .int .i64 x247006_4] 31 (0, 0)) (by (with_reducible repeat (first | refine blk_drewN ?_ _ | refine blk_drew ?_ | refine blk_alloc ?_ _)); exact BK246.out) hb); have n3_ := Aside0.mk (below_step (by repeat (first | (with_reducible first | exact HB.out | apply below_alloc | apply pw_below_drewN | apply below_drew1 | refine below_set ?_ GE245.out | refine below_set ?_ GE246.out) | exact HB.out)) hb); clear HO_247003; clear BK245; clear BK246; clear HB; have HO_247003 := n0_; have BK245 := n1_; have BK246 := n2_; have HB := n3_; clear n0_ n1_ n2_ n3_; (try clear hb); (try clear hb2); (try clear hk); (try clear hi); have p254 : 0 ≤ (x11_4 : Int) := of_decide_eq_true (by first | (with_reducible assumption) | assumption); have q254 : x11_4 < (l1.length : Int) := of_decide_eq_true (by first | (with_reducible assumption) | assumption); obtain ⟨ad254, e254, hx254_0⟩ := Kd.at_string HR1.out x11_4 p254 q254; obtain rfl : ad251 = ad254 := (by injection e254); replace hx254_0 := (HB.out.cell (World.block_lt_of_cell? w _ hx254_0)).trans hx254_0; replace p254 := eq_true p254; replace q254 := eq_true q254) | ((with_reducible refine gate_callee (f := 78) rfl ?_); refine goesL_ (some 79) rfl rfl Tryz.func78 (by kernel_rfl) rfl #[.string (rdOf ByteArray.empty l1 x11_4)] rfl (by (try simp only [List.map_toArray, List.map_cons, List.map_nil]); first | done | rfl | (simp only [List.length_drop, List.length_take]; rfl)) ?_; (with_reducible refine (kilnref24_number.calls kj27 (rdOf ByteArray.empty l1 x11_4) t255 true _ A36.out).mono ?_); rintro e w' ⟨rfl, ⟨nd, rfl⟩⟩; refine ⟨_, rfl, ?_⟩; (try (rw [drewN_self w85]; generalize hq_ : World.drewN w85 _ = w85; have n0_ : Aside0 (Kd.R Kd.string 9 w85 w.heap.size (fun _ => True) u247003 x247003_4) := ⟨by rw [← hq_]; exact (by (with_reducible repeat (first | apply Kd.R_alloc | apply Kd.R_drewN | apply Kd.R_drew)); exact HO_247003.out)⟩; have n1_ : Aside0 (w85.heap[gb245]? = some (.cells #[.int .i64 x246000_4, .string x246001_4, .string x246002_4, .slice none 0 0, .string x246004_4, .int .i64 x246005_4, .int .i64 x246006_4] 31 (0, 0))) := ⟨by rw [← hq_]; exact (by (with_reducible repeat (first | refine blk_drewN ?_ _ | refine blk_drew ?_ | refine blk_alloc ?_ _)); exact BK245.out)⟩; have n2_ : Aside0 (w85.heap[gb246]? = some (.cells #[.int .i64 a0, .string x247001_4, .string x247002_4, u247003, .string x247004_4, .int .i64 x247005_4, .int .i64 x247006_4] 31 (0, 0))) := ⟨by rw [← hq_]; exact (by (with_reducible repeat (first | refine blk_drewN ?_ _ | refine blk_drew ?_ | refine blk_alloc ?_ _)); exact BK246.out)⟩; have n3_ : Aside0 (Below w.heap.size w w85) := ⟨by rw [← hq_]; exact (by repeat (first | (with_reducible first | exact HB.out | apply below_alloc | apply pw_below_drewN | apply below_drew1 | refine below_set ?_ GE245.out | refine below_set ?_ GE246.out) | exact HB.out))⟩; clear HO_247003 BK245 BK246 HB hq_; have HO_247003 := n0_; have BK245 := n1_; have BK246 := n2_; have HB := n3_; clear n0_ n1_ n2_ n3_)); have hnb86 := NB246_245.out; have hnc86 := NB245_246.out; have hcz87_0 : w85.cell? ⟨gb246, 0, none⟩ = some (.int .i64 a0) := (blk_cell BK246.out 0).trans rfl; have hcz87_1 : w85.cell? ⟨gb246, 1, none⟩ = some (.string x247001_4) := (blk_cell BK246.out 1).trans rfl; have hcz87_2 : w85.cell? ⟨gb246, 2, none⟩ = some (.string x247002_4) := (blk_cell BK246.out 2).trans rfl; have hcz87_3 : w85.cell? ⟨gb246, 3, none⟩ = some (u247003) := (blk_cell BK246.out 3).trans rfl; have hcz87_4 : w85.cell? ⟨gb246, 4, none⟩ = some (.string x247004_4) := (blk_cell BK246.out 4).trans rfl; have hcz87_5 : w85.cell? ⟨gb246, 5, none⟩ = some (.int .i64 x247005_4) := (blk_cell BK246.out 5).trans rfl; have hcz87_6 : w85.cell? ⟨gb246, 6, none⟩ = some (.int .i64 x247006_4) := (blk_cell BK246.out 6).trans rfl; have hfz87_0 := blk_frozen BK246.out 0; have hfz87_1 := blk_frozen BK246.out 1; have hfz87_2 := blk_frozen BK246.out 2; have hfz87_3 := blk_frozen BK246.out 3; have hfz87_4 := blk_frozen BK246.out 4; have hfz87_5 := blk_frozen BK246.out 5; have hfz87_6 := blk_frozen BK246.out 6))
                                              go_roundg kj27
                                              case measure => have := HJ5.out; have := HJ17.out; have := HJ19.out; have := HK4.out; have := HJ27.out; omega
                                              case rel => exact ⟨(wrap64 (x11_4 + 1)), (x246000_4), (x246001_4), (x246002_4), (x246004_4), (x246005_4), (x246006_4), (x247001_4), (x247002_4), (x247003_4), (x247004_4), (t255), (x247006_4), (u247003), (by first | rfl | (simp; done) | (simp [*]; done)), H', ⟨by have := HJ5.out; have := HJ17.out; have := HJ19.out; have := HK4.out; have := HJ27.out; omega⟩, ⟨by (with_reducible repeat (first | apply Kd.R_alloc | apply Kd.R_drewN | apply Kd.R_drew)); exact Kd.R_mono (Kd.R_far (p := ⟨gb246, 5, none⟩) (Kd.R_types HO_247003.out BK246.out (by decide)) (fun _ hk => hk.2) (.int .i64 t255)) (fun _ hk => trivial)⟩, ⟨by (with_reducible repeat (first | refine blk_drewN ?_ _ | refine blk_drew ?_ | refine blk_alloc ?_ _)); refine blk_far ?_ NB245_246.out _; (with_reducible repeat (first | refine blk_drewN ?_ _ | refine blk_drew ?_ | refine blk_alloc ?_ _)); exact BK245.out⟩, ⟨by (with_reducible repeat (first | refine blk_drewN ?_ _ | refine blk_drew ?_ | refine blk_alloc ?_ _)); refine blk_put (cs := #[.int .i64 a0, .string x247001_4, .string x247002_4, u247003, .string x247004_4, .int .i64 x247005_4, .int .i64 x247006_4]) ?_ 5 _ rfl; (with_reducible repeat (first | refine blk_drewN ?_ _ | refine blk_drew ?_ | refine blk_alloc ?_ _)); exact BK246.out⟩, ⟨by repeat (first | (with_reducible first | exact HB.out | apply below_alloc | apply pw_below_drewN | apply below_drew1 | refine below_set ?_ GE245.out | refine below_set ?_ GE246.out) | exact HB.out)⟩⟩
                                            · replace c84 := Bool.eq_false_iff.mpr c84
                                              subst c84
                                              have H1 : (some (a0, x247001_4, x247002_4, x247003_4, x247004_4, t255, x247006_4, 244)) = some (r1, r2, r3, r4, r5, r6, r7, r8) := by rw [if_neg (show ¬ (false = true) by decide)] at H; exact H
                                              clear H
                                              have H := H1
                                              clear H1
                                              simp only [Option.some.injEq, Prod.mk.injEq] at H
                                              obtain ⟨rfl, rfl, rfl, rfl, rfl, rfl, rfl, rfl⟩ := H
                                              have p251 : 0 ≤ (x11_4 : Int) := of_decide_eq_true (by first | (with_reducible assumption) | assumption)
                                              have q251 : x11_4 < (l1.length : Int) := of_decide_eq_true (by first | (with_reducible assumption) | assumption)
                                              obtain ⟨ad251, e251, hx251_0⟩ := Kd.at_string HR1.out x11_4 p251 q251
                                              cases e251
                                              replace hx251_0 := (HB.out.cell (World.block_lt_of_cell? w _ hx251_0)).trans hx251_0
                                              replace p251 := eq_true p251
                                              replace q251 := eq_true q251
                                              go_wp2_with (first | ((with_reducible refine gate_callee (f := 79) rfl ?_); refine goesL_ (some 71) rfl rfl Tryz.func79 (by kernel_rfl) rfl #[.string (rdOf ByteArray.empty l1 x11_4)] rfl (by (try simp only [List.map_toArray, List.map_cons, List.map_nil]); first | done | rfl | (simp only [List.length_drop, List.length_take]; rfl)) ?_; (with_reducible refine (kilnref24_Unwritten.calls kj27 (rdOf ByteArray.empty l1 x11_4) t252 t253 _ A35.out).mono ?_); rintro e w88 ⟨rfl, hb⟩; refine ⟨_, rfl, ?_⟩; have n0_ := Aside0.mk (Kd.R_below (by (with_reducible repeat (first | apply Kd.R_alloc | apply Kd.R_drewN | apply Kd.R_drew)); exact HO_247003.out) hb); have n1_ := Aside0.mk (blk_below (g := gb245) (o := .cells #[.int .i64 x246000_4, .string x246001_4, .string x246002_4, .slice none 0 0, .string x246004_4, .int .i64 x246005_4, .int .i64 x246006_4] 31 (0, 0)) (by (with_reducible repeat (first | refine blk_drewN ?_ _ | refine blk_drew ?_ | refine blk_alloc ?_ _)); exact BK245.out) hb); have n2_ := Aside0.mk (blk_below (g := gb246) (o := .cells #[.int .i64 a0, .string x247001_4, .string x247002_4, u247003, .string x247004_4, .int .i64 x247005_4, .int .i64 x247006_4] 31 (0, 0)) (by (with_reducible repeat (first | refine blk_drewN ?_ _ | refine blk_drew ?_ | refine blk_alloc ?_ _)); exact BK246.out) hb); have n3_ := Aside0.mk (below_step (by repeat (first | (with_reducible first | exact HB.out | apply below_alloc | apply pw_below_drewN | apply below_drew1 | refine below_set ?_ GE245.out | refine below_set ?_ GE246.out) | exact HB.out)) hb); clear HO_247003; clear BK245; clear BK246; clear HB; have HO_247003 := n0_; have BK245 := n1_; have BK246 := n2_; have HB := n3_; clear n0_ n1_ n2_ n3_; (try clear hb); (try clear hb2); (try clear hk); (try clear hi); have p254 : 0 ≤ (x11_4 : Int) := of_decide_eq_true (by first | (with_reducible assumption) | assumption); have q254 : x11_4 < (l1.length : Int) := of_decide_eq_true (by first | (with_reducible assumption) | assumption); obtain ⟨ad254, e254, hx254_0⟩ := Kd.at_string HR1.out x11_4 p254 q254; obtain rfl : ad251 = ad254 := (by injection e254); replace hx254_0 := (HB.out.cell (World.block_lt_of_cell? w _ hx254_0)).trans hx254_0; replace p254 := eq_true p254; replace q254 := eq_true q254) | ((with_reducible refine gate_callee (f := 78) rfl ?_); refine goesL_ (some 79) rfl rfl Tryz.func78 (by kernel_rfl) rfl #[.string (rdOf ByteArray.empty l1 x11_4)] rfl (by (try simp only [List.map_toArray, List.map_cons, List.map_nil]); first | done | rfl | (simp only [List.length_drop, List.length_take]; rfl)) ?_; (with_reducible refine (kilnref24_number.calls kj27 (rdOf ByteArray.empty l1 x11_4) t255 false _ A36.out).mono ?_); rintro e w' ⟨rfl, ⟨nd, rfl⟩⟩; refine ⟨_, rfl, ?_⟩; (try (rw [drewN_self w88]; generalize hq_ : World.drewN w88 _ = w88; have n0_ : Aside0 (Kd.R Kd.string 9 w88 w.heap.size (fun _ => True) u247003 x247003_4) := ⟨by rw [← hq_]; exact (by (with_reducible repeat (first | apply Kd.R_alloc | apply Kd.R_drewN | apply Kd.R_drew)); exact HO_247003.out)⟩; have n1_ : Aside0 (w88.heap[gb245]? = some (.cells #[.int .i64 x246000_4, .string x246001_4, .string x246002_4, .slice none 0 0, .string x246004_4, .int .i64 x246005_4, .int .i64 x246006_4] 31 (0, 0))) := ⟨by rw [← hq_]; exact (by (with_reducible repeat (first | refine blk_drewN ?_ _ | refine blk_drew ?_ | refine blk_alloc ?_ _)); exact BK245.out)⟩; have n2_ : Aside0 (w88.heap[gb246]? = some (.cells #[.int .i64 a0, .string x247001_4, .string x247002_4, u247003, .string x247004_4, .int .i64 x247005_4, .int .i64 x247006_4] 31 (0, 0))) := ⟨by rw [← hq_]; exact (by (with_reducible repeat (first | refine blk_drewN ?_ _ | refine blk_drew ?_ | refine blk_alloc ?_ _)); exact BK246.out)⟩; have n3_ : Aside0 (Below w.heap.size w w88) := ⟨by rw [← hq_]; exact (by repeat (first | (with_reducible first | exact HB.out | apply below_alloc | apply pw_below_drewN | apply below_drew1 | refine below_set ?_ GE245.out | refine below_set ?_ GE246.out) | exact HB.out))⟩; clear HO_247003 BK245 BK246 HB hq_; have HO_247003 := n0_; have BK245 := n1_; have BK246 := n2_; have HB := n3_; clear n0_ n1_ n2_ n3_)); have hnb89 := NB246_245.out; have hnc89 := NB245_246.out; have hcz90_0 : w88.cell? ⟨gb246, 0, none⟩ = some (.int .i64 a0) := (blk_cell BK246.out 0).trans rfl; have hcz90_1 : w88.cell? ⟨gb246, 1, none⟩ = some (.string x247001_4) := (blk_cell BK246.out 1).trans rfl; have hcz90_2 : w88.cell? ⟨gb246, 2, none⟩ = some (.string x247002_4) := (blk_cell BK246.out 2).trans rfl; have hcz90_3 : w88.cell? ⟨gb246, 3, none⟩ = some (u247003) := (blk_cell BK246.out 3).trans rfl; have hcz90_4 : w88.cell? ⟨gb246, 4, none⟩ = some (.string x247004_4) := (blk_cell BK246.out 4).trans rfl; have hcz90_5 : w88.cell? ⟨gb246, 5, none⟩ = some (.int .i64 x247005_4) := (blk_cell BK246.out 5).trans rfl; have hcz90_6 : w88.cell? ⟨gb246, 6, none⟩ = some (.int .i64 x247006_4) := (blk_cell BK246.out 6).trans rfl; have hfz90_0 := blk_frozen BK246.out 0; have hfz90_1 := blk_frozen BK246.out 1; have hfz90_2 := blk_frozen BK246.out 2; have hfz90_3 := blk_frozen BK246.out 3; have hfz90_4 := blk_frozen BK246.out 4; have hfz90_5 := blk_frozen BK246.out 5; have hfz90_6 := blk_frozen BK246.out 6; have hcz91_0 : w88.cell? ⟨gb245, 0, none⟩ = some (.int .i64 x246000_4) := (blk_cell BK245.out 0).trans rfl; have hcz91_1 : w88.cell? ⟨gb245, 1, none⟩ = some (.string x246001_4) := (blk_cell BK245.out 1).trans rfl; have hcz91_2 : w88.cell? ⟨gb245, 2, none⟩ = some (.string x246002_4) := (blk_cell BK245.out 2).trans rfl; have hcz91_3 : w88.cell? ⟨gb245, 3, none⟩ = some (.slice none 0 0) := (blk_cell BK245.out 3).trans rfl; have hcz91_4 : w88.cell? ⟨gb245, 4, none⟩ = some (.string x246004_4) := (blk_cell BK245.out 4).trans rfl; have hcz91_5 : w88.cell? ⟨gb245, 5, none⟩ = some (.int .i64 x246005_4) := (blk_cell BK245.out 5).trans rfl; have hcz91_6 : w88.cell? ⟨gb245, 6, none⟩ = some (.int .i64 x246006_4) := (blk_cell BK245.out 6).trans rfl; have hfz91_0 := blk_frozen BK245.out 0; have hfz91_1 := blk_frozen BK245.out 1; have hfz91_2 := blk_frozen BK245.out 2; have hfz91_3 := blk_frozen BK245.out 3; have hfz91_4 := blk_frozen BK245.out 4; have hfz91_5 := blk_frozen BK245.out 5; have hfz91_6 := blk_frozen BK245.out 6; obtain ⟨Ao92, co92, eo92⟩ := Kd.R_slice HO_247003.out; subst eo92))
                                              refine bodyPost_ret (results_ct rfl _ _ gb245 31 #[.int .i64 a0, .string x247001_4, .string x247002_4, .slice Ao92 x247003_4.length co92, .string x247004_4, .int .i64 t255, .int .i64 x247006_4] (0, 0) _ rfl (by (with_reducible repeat (first | refine blk_drewN ?_ _ | refine blk_drew ?_ | refine blk_alloc ?_ _)); refine blk_put (cs := #[.int .i64 a0, .string x247001_4, .string x247002_4, .slice Ao92 x247003_4.length co92, .string x247004_4, .int .i64 t255, .int .i64 x246006_4]) ?_ 6 _ rfl; (with_reducible repeat (first | refine blk_drewN ?_ _ | refine blk_drew ?_ | refine blk_alloc ?_ _)); refine blk_put (cs := #[.int .i64 a0, .string x247001_4, .string x247002_4, .slice Ao92 x247003_4.length co92, .string x247004_4, .int .i64 x246005_4, .int .i64 x246006_4]) ?_ 5 _ rfl; (with_reducible repeat (first | refine blk_drewN ?_ _ | refine blk_drew ?_ | refine blk_alloc ?_ _)); refine blk_put (cs := #[.int .i64 a0, .string x247001_4, .string x247002_4, .slice Ao92 x247003_4.length co92, .string x246004_4, .int .i64 x246005_4, .int .i64 x246006_4]) ?_ 4 _ rfl; (with_reducible repeat (first | refine blk_drewN ?_ _ | refine blk_drew ?_ | refine blk_alloc ?_ _)); refine blk_put (cs := #[.int .i64 a0, .string x247001_4, .string x247002_4, .slice none 0 0, .string x246004_4, .int .i64 x246005_4, .int .i64 x246006_4]) ?_ 3 _ rfl; (with_reducible repeat (first | refine blk_drewN ?_ _ | refine blk_drew ?_ | refine blk_alloc ?_ _)); refine blk_put (cs := #[.int .i64 a0, .string x247001_4, .string x246002_4, .slice none 0 0, .string x246004_4, .int .i64 x246005_4, .int .i64 x246006_4]) ?_ 2 _ rfl; (with_reducible repeat (first | refine blk_drewN ?_ _ | refine blk_drew ?_ | refine blk_alloc ?_ _)); refine blk_put (cs := #[.int .i64 a0, .string x246001_4, .string x246002_4, .slice none 0 0, .string x246004_4, .int .i64 x246005_4, .int .i64 x246006_4]) ?_ 1 _ rfl; (with_reducible repeat (first | refine blk_drewN ?_ _ | refine blk_drew ?_ | refine blk_alloc ?_ _)); refine blk_put (cs := #[.int .i64 x246000_4, .string x246001_4, .string x246002_4, .slice none 0 0, .string x246004_4, .int .i64 x246005_4, .int .i64 x246006_4]) ?_ 0 _ rfl; (with_reducible repeat (first | refine blk_drewN ?_ _ | refine blk_drew ?_ | refine blk_alloc ?_ _)); refine blk_far ?_ NB245_246.out _; (with_reducible repeat (first | refine blk_drewN ?_ _ | refine blk_drew ?_ | refine blk_alloc ?_ _)); exact BK245.out) Tryz.underlying31 rfl (by kernel_rfl)) rfl ?_
                                              exact ⟨_, by first | rfl | (simp [errW_none, errW_some] <;> rfl) | (simp [*, errW_none, errW_some] <;> rfl), by (with_reducible repeat (first | apply Kd.R_alloc | apply Kd.R_drewN | apply Kd.R_drew)); exact Kd.R_mono (Kd.R_far (p := ⟨gb245, 6, none⟩) (Kd.R_far (p := ⟨gb245, 5, none⟩) (Kd.R_far (p := ⟨gb245, 4, none⟩) (Kd.R_far (p := ⟨gb245, 3, none⟩) (Kd.R_far (p := ⟨gb245, 2, none⟩) (Kd.R_far (p := ⟨gb245, 1, none⟩) (Kd.R_far (p := ⟨gb245, 0, none⟩) (Kd.R_far (p := ⟨gb246, 5, none⟩) (Kd.R_types (Kd.R_types HO_247003.out BK246.out (by decide)) BK245.out (by decide)) (fun _ hk => hk.1.2) (.int .i64 t255)) (fun _ hk => hk.2) (.int .i64 a0)) (fun _ hk => hk.2) (.string x247001_4)) (fun _ hk => hk.2) (.string x247002_4)) (fun _ hk => hk.2) (.slice Ao92 x247003_4.length co92)) (fun _ hk => hk.2) (.string x247004_4)) (fun _ hk => hk.2) (.int .i64 t255)) (fun _ hk => hk.2) (.int .i64 x247006_4)) (fun _ hk => trivial), by repeat (first | (with_reducible first | exact HB.out | apply below_alloc | apply pw_below_drewN | apply below_drew1 | refine below_set ?_ GE245.out | refine below_set ?_ GE246.out) | exact HB.out)⟩
                                          · rw [if_neg c83] at H
                                            have c83b0 : (x12_27 == 35) = false := beq_eq_false_iff_ne.mpr c83
                                            have c83b1 : (x12_27 != 35) = true := bne_iff_ne.mpr c83
                                            by_cases c93 : x12_27 = 102
                                            · rw [if_pos c93] at H
                                              have c93b0 : (x12_27 == 102) = true := beq_iff_eq.mpr c93
                                              have c93b1 : (x12_27 != 102) = false := bne_eq_false_iff_eq.mpr c93
                                              clear c93
                                              by_cases c94 : t256 = true
                                              · subst c94
                                                have H1 : (kilnref24_read.l0 kj27 l1 (rdOf ByteArray.empty t247 a0) x9_17 (wrap64 (x11_4 + 1)) a0 x247001_4 x247002_4 x247003_4 x247004_4 x247005_4 t255) = some (r1, r2, r3, r4, r5, r6, r7, r8) := by rw [if_pos rfl] at H; exact H
                                                clear H
                                                have H := H1
                                                clear H1
                                                have H' := Aside0.mk H
                                                clear H
                                                have p251 : 0 ≤ (x11_4 : Int) := of_decide_eq_true (by first | (with_reducible assumption) | assumption)
                                                have q251 : x11_4 < (l1.length : Int) := of_decide_eq_true (by first | (with_reducible assumption) | assumption)
                                                obtain ⟨ad251, e251, hx251_0⟩ := Kd.at_string HR1.out x11_4 p251 q251
                                                cases e251
                                                replace hx251_0 := (HB.out.cell (World.block_lt_of_cell? w _ hx251_0)).trans hx251_0
                                                replace p251 := eq_true p251
                                                replace q251 := eq_true q251
                                                go_wp2_with (first | ((with_reducible refine gate_callee (f := 79) rfl ?_); refine goesL_ (some 71) rfl rfl Tryz.func79 (by kernel_rfl) rfl #[.string (rdOf ByteArray.empty l1 x11_4)] rfl (by (try simp only [List.map_toArray, List.map_cons, List.map_nil]); first | done | rfl | (simp only [List.length_drop, List.length_take]; rfl)) ?_; (with_reducible refine (kilnref24_Unwritten.calls kj27 (rdOf ByteArray.empty l1 x11_4) t252 t253 _ A35.out).mono ?_); rintro e w95 ⟨rfl, hb⟩; refine ⟨_, rfl, ?_⟩; have n0_ := Aside0.mk (Kd.R_below (by (with_reducible repeat (first | apply Kd.R_alloc | apply Kd.R_drewN | apply Kd.R_drew)); exact HO_247003.out) hb); have n1_ := Aside0.mk (blk_below (g := gb245) (o := .cells #[.int .i64 x246000_4, .string x246001_4, .string x246002_4, .slice none 0 0, .string x246004_4, .int .i64 x246005_4, .int .i64 x246006_4] 31 (0, 0)) (by (with_reducible repeat (first | refine blk_drewN ?_ _ | refine blk_drew ?_ | refine blk_alloc ?_ _)); exact BK245.out) hb); have n2_ := Aside0.mk (blk_below (g := gb246) (o := .cells #[.int .i64 a0, .string x247001_4, .string x247002_4, u247003, .string x247004_4, .int .i64 x247005_4, .int .i64 x247006_4] 31 (0, 0)) (by (with_reducible repeat (first | refine blk_drewN ?_ _ | refine blk_drew ?_ | refine blk_alloc ?_ _)); exact BK246.out) hb); have n3_ := Aside0.mk (below_step (by repeat (first | (with_reducible first | exact HB.out | apply below_alloc | apply pw_below_drewN | apply below_drew1 | refine below_set ?_ GE245.out | refine below_set ?_ GE246.out) | exact HB.out)) hb); clear HO_247003; clear BK245; clear BK246; clear HB; have HO_247003 := n0_; have BK245 := n1_; have BK246 := n2_; have HB := n3_; clear n0_ n1_ n2_ n3_; (try clear hb); (try clear hb2); (try clear hk); (try clear hi); have p254 : 0 ≤ (x11_4 : Int) := of_decide_eq_true (by first | (with_reducible assumption) | assumption); have q254 : x11_4 < (l1.length : Int) := of_decide_eq_true (by first | (with_reducible assumption) | assumption); obtain ⟨ad254, e254, hx254_0⟩ := Kd.at_string HR1.out x11_4 p254 q254; obtain rfl : ad251 = ad254 := (by injection e254); replace hx254_0 := (HB.out.cell (World.block_lt_of_cell? w _ hx254_0)).trans hx254_0; replace p254 := eq_true p254; replace q254 := eq_true q254) | ((with_reducible refine gate_callee (f := 78) rfl ?_); refine goesL_ (some 79) rfl rfl Tryz.func78 (by kernel_rfl) rfl #[.string (rdOf ByteArray.empty l1 x11_4)] rfl (by (try simp only [List.map_toArray, List.map_cons, List.map_nil]); first | done | rfl | (simp only [List.length_drop, List.length_take]; rfl)) ?_; (with_reducible refine (kilnref24_number.calls kj27 (rdOf ByteArray.empty l1 x11_4) t255 true _ A36.out).mono ?_); rintro e w' ⟨rfl, ⟨nd, rfl⟩⟩; refine ⟨_, rfl, ?_⟩; (try (rw [drewN_self w95]; generalize hq_ : World.drewN w95 _ = w95; have n0_ : Aside0 (Kd.R Kd.string 9 w95 w.heap.size (fun _ => True) u247003 x247003_4) := ⟨by rw [← hq_]; exact (by (with_reducible repeat (first | apply Kd.R_alloc | apply Kd.R_drewN | apply Kd.R_drew)); exact HO_247003.out)⟩; have n1_ : Aside0 (w95.heap[gb245]? = some (.cells #[.int .i64 x246000_4, .string x246001_4, .string x246002_4, .slice none 0 0, .string x246004_4, .int .i64 x246005_4, .int .i64 x246006_4] 31 (0, 0))) := ⟨by rw [← hq_]; exact (by (with_reducible repeat (first | refine blk_drewN ?_ _ | refine blk_drew ?_ | refine blk_alloc ?_ _)); exact BK245.out)⟩; have n2_ : Aside0 (w95.heap[gb246]? = some (.cells #[.int .i64 a0, .string x247001_4, .string x247002_4, u247003, .string x247004_4, .int .i64 x247005_4, .int .i64 x247006_4] 31 (0, 0))) := ⟨by rw [← hq_]; exact (by (with_reducible repeat (first | refine blk_drewN ?_ _ | refine blk_drew ?_ | refine blk_alloc ?_ _)); exact BK246.out)⟩; have n3_ : Aside0 (Below w.heap.size w w95) := ⟨by rw [← hq_]; exact (by repeat (first | (with_reducible first | exact HB.out | apply below_alloc | apply pw_below_drewN | apply below_drew1 | refine below_set ?_ GE245.out | refine below_set ?_ GE246.out) | exact HB.out))⟩; clear HO_247003 BK245 BK246 HB hq_; have HO_247003 := n0_; have BK245 := n1_; have BK246 := n2_; have HB := n3_; clear n0_ n1_ n2_ n3_)); have hnb96 := NB246_245.out; have hnc96 := NB245_246.out; have hcz97_0 : w95.cell? ⟨gb246, 0, none⟩ = some (.int .i64 a0) := (blk_cell BK246.out 0).trans rfl; have hcz97_1 : w95.cell? ⟨gb246, 1, none⟩ = some (.string x247001_4) := (blk_cell BK246.out 1).trans rfl; have hcz97_2 : w95.cell? ⟨gb246, 2, none⟩ = some (.string x247002_4) := (blk_cell BK246.out 2).trans rfl; have hcz97_3 : w95.cell? ⟨gb246, 3, none⟩ = some (u247003) := (blk_cell BK246.out 3).trans rfl; have hcz97_4 : w95.cell? ⟨gb246, 4, none⟩ = some (.string x247004_4) := (blk_cell BK246.out 4).trans rfl; have hcz97_5 : w95.cell? ⟨gb246, 5, none⟩ = some (.int .i64 x247005_4) := (blk_cell BK246.out 5).trans rfl; have hcz97_6 : w95.cell? ⟨gb246, 6, none⟩ = some (.int .i64 x247006_4) := (blk_cell BK246.out 6).trans rfl; have hfz97_0 := blk_frozen BK246.out 0; have hfz97_1 := blk_frozen BK246.out 1; have hfz97_2 := blk_frozen BK246.out 2; have hfz97_3 := blk_frozen BK246.out 3; have hfz97_4 := blk_frozen BK246.out 4; have hfz97_5 := blk_frozen BK246.out 5; have hfz97_6 := blk_frozen BK246.out 6))
                                                go_roundg kj27
                                                case measure => have := HJ5.out; have := HJ17.out; have := HJ19.out; have := HK4.out; have := HJ27.out; omega
                                                case rel => exact ⟨(wrap64 (x11_4 + 1)), (x246000_4), (x246001_4), (x246002_4), (x246004_4), (x246005_4), (x246006_4), (x247001_4), (x247002_4), (x247003_4), (x247004_4), (x247005_4), (t255), (u247003), (by first | rfl | (simp; done) | (simp [*]; done)), H', ⟨by have := HJ5.out; have := HJ17.out; have := HJ19.out; have := HK4.out; have := HJ27.out; omega⟩, ⟨by (with_reducible repeat (first | apply Kd.R_alloc | apply Kd.R_drewN | apply Kd.R_drew)); exact Kd.R_mono (Kd.R_far (p := ⟨gb246, 6, none⟩) (Kd.R_types HO_247003.out BK246.out (by decide)) (fun _ hk => hk.2) (.int .i64 t255)) (fun _ hk => trivial)⟩, ⟨by (with_reducible repeat (first | refine blk_drewN ?_ _ | refine blk_drew ?_ | refine blk_alloc ?_ _)); refine blk_far ?_ NB245_246.out _; (with_reducible repeat (first | refine blk_drewN ?_ _ | refine blk_drew ?_ | refine blk_alloc ?_ _)); exact BK245.out⟩, ⟨by (with_reducible repeat (first | refine blk_drewN ?_ _ | refine blk_drew ?_ | refine blk_alloc ?_ _)); refine blk_put (cs := #[.int .i64 a0, .string x247001_4, .string x247002_4, u247003, .string x247004_4, .int .i64 x247005_4, .int .i64 x247006_4]) ?_ 6 _ rfl; (with_reducible repeat (first | refine blk_drewN ?_ _ | refine blk_drew ?_ | refine blk_alloc ?_ _)); exact BK246.out⟩, ⟨by repeat (first | (with_reducible first | exact HB.out | apply below_alloc | apply pw_below_drewN | apply below_drew1 | refine below_set ?_ GE245.out | refine below_set ?_ GE246.out) | exact HB.out)⟩⟩
                                              · replace c94 := Bool.eq_false_iff.mpr c94
                                                subst c94
                                                have H1 : (some (a0, x247001_4, x247002_4, x247003_4, x247004_4, x247005_4, t255, 244)) = some (r1, r2, r3, r4, r5, r6, r7, r8) := by rw [if_neg (show ¬ (false = true) by decide)] at H; exact H
                                                clear H
                                                have H := H1
                                                clear H1
                                                simp only [Option.some.injEq, Prod.mk.injEq] at H
                                                obtain ⟨rfl, rfl, rfl, rfl, rfl, rfl, rfl, rfl⟩ := H
                                                have p251 : 0 ≤ (x11_4 : Int) := of_decide_eq_true (by first | (with_reducible assumption) | assumption)
                                                have q251 : x11_4 < (l1.length : Int) := of_decide_eq_true (by first | (with_reducible assumption) | assumption)
                                                obtain ⟨ad251, e251, hx251_0⟩ := Kd.at_string HR1.out x11_4 p251 q251
                                                cases e251
                                                replace hx251_0 := (HB.out.cell (World.block_lt_of_cell? w _ hx251_0)).trans hx251_0
                                                replace p251 := eq_true p251
                                                replace q251 := eq_true q251
                                                go_wp2_with (first | ((with_reducible refine gate_callee (f := 79) rfl ?_); refine goesL_ (some 71) rfl rfl Tryz.func79 (by kernel_rfl) rfl #[.string (rdOf ByteArray.empty l1 x11_4)] rfl (by (try simp only [List.map_toArray, List.map_cons, List.map_nil]); first | done | rfl | (simp only [List.length_drop, List.length_take]; rfl)) ?_; (with_reducible refine (kilnref24_Unwritten.calls kj27 (rdOf ByteArray.empty l1 x11_4) t252 t253 _ A35.out).mono ?_); rintro e w98 ⟨rfl, hb⟩; refine ⟨_, rfl, ?_⟩; have n0_ := Aside0.mk (Kd.R_below (by (with_reducible repeat (first | apply Kd.R_alloc | apply Kd.R_drewN | apply Kd.R_drew)); exact HO_247003.out) hb); have n1_ := Aside0.mk (blk_below (g := gb245) (o := .cells #[.int .i64 x246000_4, .string x246001_4, .string x246002_4, .slice none 0 0, .string x246004_4, .int .i64 x246005_4, .int .i64 x246006_4] 31 (0, 0)) (by (with_reducible repeat (first | refine blk_drewN ?_ _ | refine blk_drew ?_ | refine blk_alloc ?_ _)); exact BK245.out) hb); have n2_ := Aside0.mk (blk_below (g := gb246) (o := .cells #[.int .i64 a0, .string x247001_4, .string x247002_4, u247003, .string x247004_4, .int .i64 x247005_4, .int .i64 x247006_4] 31 (0, 0)) (by (with_reducible repeat (first | refine blk_drewN ?_ _ | refine blk_drew ?_ | refine blk_alloc ?_ _)); exact BK246.out) hb); have n3_ := Aside0.mk (below_step (by repeat (first | (with_reducible first | exact HB.out | apply below_alloc | apply pw_below_drewN | apply below_drew1 | refine below_set ?_ GE245.out | refine below_set ?_ GE246.out) | exact HB.out)) hb); clear HO_247003; clear BK245; clear BK246; clear HB; have HO_247003 := n0_; have BK245 := n1_; have BK246 := n2_; have HB := n3_; clear n0_ n1_ n2_ n3_; (try clear hb); (try clear hb2); (try clear hk); (try clear hi); have p254 : 0 ≤ (x11_4 : Int) := of_decide_eq_true (by first | (with_reducible assumption) | assumption); have q254 : x11_4 < (l1.length : Int) := of_decide_eq_true (by first | (with_reducible assumption) | assumption); obtain ⟨ad254, e254, hx254_0⟩ := Kd.at_string HR1.out x11_4 p254 q254; obtain rfl : ad251 = ad254 := (by injection e254); replace hx254_0 := (HB.out.cell (World.block_lt_of_cell? w _ hx254_0)).trans hx254_0; replace p254 := eq_true p254; replace q254 := eq_true q254) | ((with_reducible refine gate_callee (f := 78) rfl ?_); refine goesL_ (some 79) rfl rfl Tryz.func78 (by kernel_rfl) rfl #[.string (rdOf ByteArray.empty l1 x11_4)] rfl (by (try simp only [List.map_toArray, List.map_cons, List.map_nil]); first | done | rfl | (simp only [List.length_drop, List.length_take]; rfl)) ?_; (with_reducible refine (kilnref24_number.calls kj27 (rdOf ByteArray.empty l1 x11_4) t255 false _ A36.out).mono ?_); rintro e w' ⟨rfl, ⟨nd, rfl⟩⟩; refine ⟨_, rfl, ?_⟩; (try (rw [drewN_self w98]; generalize hq_ : World.drewN w98 _ = w98; have n0_ : Aside0 (Kd.R Kd.string 9 w98 w.heap.size (fun _ => True) u247003 x247003_4) := ⟨by rw [← hq_]; exact (by (with_reducible repeat (first | apply Kd.R_alloc | apply Kd.R_drewN | apply Kd.R_drew)); exact HO_247003.out)⟩; have n1_ : Aside0 (w98.heap[gb245]? = some (.cells #[.int .i64 x246000_4, .string x246001_4, .string x246002_4, .slice none 0 0, .string x246004_4, .int .i64 x246005_4, .int .i64 x246006_4] 31 (0, 0))) := ⟨by rw [← hq_]; exact (by (with_reducible repeat (first | refine blk_drewN ?_ _ | refine blk_drew ?_ | refine blk_alloc ?_ _)); exact BK245.out)⟩; have n2_ : Aside0 (w98.heap[gb246]? = some (.cells #[.int .i64 a0, .string x247001_4, .string x247002_4, u247003, .string x247004_4, .int .i64 x247005_4, .int .i64 x247006_4] 31 (0, 0))) := ⟨by rw [← hq_]; exact (by (with_reducible repeat (first | refine blk_drewN ?_ _ | refine blk_drew ?_ | refine blk_alloc ?_ _)); exact BK246.out)⟩; have n3_ : Aside0 (Below w.heap.size w w98) := ⟨by rw [← hq_]; exact (by repeat (first | (with_reducible first | exact HB.out | apply below_alloc | apply pw_below_drewN | apply below_drew1 | refine below_set ?_ GE245.out | refine below_set ?_ GE246.out) | exact HB.out))⟩; clear HO_247003 BK245 BK246 HB hq_; have HO_247003 := n0_; have BK245 := n1_; have BK246 := n2_; have HB := n3_; clear n0_ n1_ n2_ n3_)); have hnb99 := NB246_245.out; have hnc99 := NB245_246.out; have hcz100_0 : w98.cell? ⟨gb246, 0, none⟩ = some (.int .i64 a0) := (blk_cell BK246.out 0).trans rfl; have hcz100_1 : w98.cell? ⟨gb246, 1, none⟩ = some (.string x247001_4) := (blk_cell BK246.out 1).trans rfl; have hcz100_2 : w98.cell? ⟨gb246, 2, none⟩ = some (.string x247002_4) := (blk_cell BK246.out 2).trans rfl; have hcz100_3 : w98.cell? ⟨gb246, 3, none⟩ = some (u247003) := (blk_cell BK246.out 3).trans rfl; have hcz100_4 : w98.cell? ⟨gb246, 4, none⟩ = some (.string x247004_4) := (blk_cell BK246.out 4).trans rfl; have hcz100_5 : w98.cell? ⟨gb246, 5, none⟩ = some (.int .i64 x247005_4) := (blk_cell BK246.out 5).trans rfl; have hcz100_6 : w98.cell? ⟨gb246, 6, none⟩ = some (.int .i64 x247006_4) := (blk_cell BK246.out 6).trans rfl; have hfz100_0 := blk_frozen BK246.out 0; have hfz100_1 := blk_frozen BK246.out 1; have hfz100_2 := blk_frozen BK246.out 2; have hfz100_3 := blk_frozen BK246.out 3; have hfz100_4 := blk_frozen BK246.out 4; have hfz100_5 := blk_frozen BK246.out 5; have hfz100_6 := blk_frozen BK246.out 6; have hcz101_0 : w98.cell? ⟨gb245, 0, none⟩ = some (.int .i64 x246000_4) := (blk_cell BK245.out 0).trans rfl; have hcz101_1 : w98.cell? ⟨gb245, 1, none⟩ = some (.string x246001_4) := (blk_cell BK245.out 1).trans rfl; have hcz101_2 : w98.cell? ⟨gb245, 2, none⟩ = some (.string x246002_4) := (blk_cell BK245.out 2).trans rfl; have hcz101_3 : w98.cell? ⟨gb245, 3, none⟩ = some (.slice none 0 0) := (blk_cell BK245.out 3).trans rfl; have hcz101_4 : w98.cell? ⟨gb245, 4, none⟩ = some (.string x246004_4) := (blk_cell BK245.out 4).trans rfl; have hcz101_5 : w98.cell? ⟨gb245, 5, none⟩ = some (.int .i64 x246005_4) := (blk_cell BK245.out 5).trans rfl; have hcz101_6 : w98.cell? ⟨gb245, 6, none⟩ = some (.int .i64 x246006_4) := (blk_cell BK245.out 6).trans rfl; have hfz101_0 := blk_frozen BK245.out 0; have hfz101_1 := blk_frozen BK245.out 1; have hfz101_2 := blk_frozen BK245.out 2; have hfz101_3 := blk_frozen BK245.out 3; have hfz101_4 := blk_frozen BK245.out 4; have hfz101_5 := blk_frozen BK245.out 5; have hfz101_6 := blk_frozen BK245.out 6; obtain ⟨Ao102, co102, eo102⟩ := Kd.R_slice HO_247003.out; subst eo102))
                                                refine bodyPost_ret (results_ct rfl _ _ gb245 31 #[.int .i64 a0, .string x247001_4, .string x247002_4, .slice Ao102 x247003_4.length co102, .string x247004_4, .int .i64 x247005_4, .int .i64 t255] (0, 0) _ rfl (by (with_reducible repeat (first | refine blk_drewN ?_ _ | refine blk_drew ?_ | refine blk_alloc ?_ _)); refine blk_put (cs := #[.int .i64 a0, .string x247001_4, .string x247002_4, .slice Ao102 x247003_4.length co102, .string x247004_4, .int .i64 x247005_4, .int .i64 x246006_4]) ?_ 6 _ rfl; (with_reducible repeat (first | refine blk_drewN ?_ _ | refine blk_drew ?_ | refine blk_alloc ?_ _)); refine blk_put (cs := #[.int .i64 a0, .string x247001_4, .string x247002_4, .slice Ao102 x247003_4.length co102, .string x247004_4, .int .i64 x246005_4, .int .i64 x246006_4]) ?_ 5 _ rfl; (with_reducible repeat (first | refine blk_drewN ?_ _ | refine blk_drew ?_ | refine blk_alloc ?_ _)); refine blk_put (cs := #[.int .i64 a0, .string x247001_4, .string x247002_4, .slice Ao102 x247003_4.length co102, .string x246004_4, .int .i64 x246005_4, .int .i64 x246006_4]) ?_ 4 _ rfl; (with_reducible repeat (first | refine blk_drewN ?_ _ | refine blk_drew ?_ | refine blk_alloc ?_ _)); refine blk_put (cs := #[.int .i64 a0, .string x247001_4, .string x247002_4, .slice none 0 0, .string x246004_4, .int .i64 x246005_4, .int .i64 x246006_4]) ?_ 3 _ rfl; (with_reducible repeat (first | refine blk_drewN ?_ _ | refine blk_drew ?_ | refine blk_alloc ?_ _)); refine blk_put (cs := #[.int .i64 a0, .string x247001_4, .string x246002_4, .slice none 0 0, .string x246004_4, .int .i64 x246005_4, .int .i64 x246006_4]) ?_ 2 _ rfl; (with_reducible repeat (first | refine blk_drewN ?_ _ | refine blk_drew ?_ | refine blk_alloc ?_ _)); refine blk_put (cs := #[.int .i64 a0, .string x246001_4, .string x246002_4, .slice none 0 0, .string x246004_4, .int .i64 x246005_4, .int .i64 x246006_4]) ?_ 1 _ rfl; (with_reducible repeat (first | refine blk_drewN ?_ _ | refine blk_drew ?_ | refine blk_alloc ?_ _)); refine blk_put (cs := #[.int .i64 x246000_4, .string x246001_4, .string x246002_4, .slice none 0 0, .string x246004_4, .int .i64 x246005_4, .int .i64 x246006_4]) ?_ 0 _ rfl; (with_reducible repeat (first | refine blk_drewN ?_ _ | refine blk_drew ?_ | refine blk_alloc ?_ _)); refine blk_far ?_ NB245_246.out _; (with_reducible repeat (first | refine blk_drewN ?_ _ | refine blk_drew ?_ | refine blk_alloc ?_ _)); exact BK245.out) Tryz.underlying31 rfl (by kernel_rfl)) rfl ?_
                                                exact ⟨_, by first | rfl | (simp [errW_none, errW_some] <;> rfl) | (simp [*, errW_none, errW_some] <;> rfl), by (with_reducible repeat (first | apply Kd.R_alloc | apply Kd.R_drewN | apply Kd.R_drew)); exact Kd.R_mono (Kd.R_far (p := ⟨gb245, 6, none⟩) (Kd.R_far (p := ⟨gb245, 5, none⟩) (Kd.R_far (p := ⟨gb245, 4, none⟩) (Kd.R_far (p := ⟨gb245, 3, none⟩) (Kd.R_far (p := ⟨gb245, 2, none⟩) (Kd.R_far (p := ⟨gb245, 1, none⟩) (Kd.R_far (p := ⟨gb245, 0, none⟩) (Kd.R_far (p := ⟨gb246, 6, none⟩) (Kd.R_types (Kd.R_types HO_247003.out BK246.out (by decide)) BK245.out (by decide)) (fun _ hk => hk.1.2) (.int .i64 t255)) (fun _ hk => hk.2) (.int .i64 a0)) (fun _ hk => hk.2) (.string x247001_4)) (fun _ hk => hk.2) (.string x247002_4)) (fun _ hk => hk.2) (.slice Ao102 x247003_4.length co102)) (fun _ hk => hk.2) (.string x247004_4)) (fun _ hk => hk.2) (.int .i64 x247005_4)) (fun _ hk => hk.2) (.int .i64 t255)) (fun _ hk => trivial), by repeat (first | (with_reducible first | exact HB.out | apply below_alloc | apply pw_below_drewN | apply below_drew1 | refine below_set ?_ GE245.out | refine below_set ?_ GE246.out) | exact HB.out)⟩
                                            · rw [if_neg c93] at H
                                              have c93b0 : (x12_27 == 102) = false := beq_eq_false_iff_ne.mpr c93
                                              have c93b1 : (x12_27 != 102) = true := bne_iff_ne.mpr c93
                                              by_cases c103 : t253 = true
                                              · subst c103
                                                have H1 : (kilnref24_read.l0 kj27 l1 (rdOf ByteArray.empty t247 a0) x9_17 (wrap64 (x11_4 + 1)) a0 x247001_4 x247002_4 x247003_4 x247004_4 x247005_4 x247006_4) = some (r1, r2, r3, r4, r5, r6, r7, r8) := by rw [if_pos rfl] at H; exact H
                                                clear H
                                                have H := H1
                                                clear H1
                                                have H' := Aside0.mk H
                                                clear H
                                                have p251 : 0 ≤ (x11_4 : Int) := of_decide_eq_true (by first | (with_reducible assumption) | assumption)
                                                have q251 : x11_4 < (l1.length : Int) := of_decide_eq_true (by first | (with_reducible assumption) | assumption)
                                                obtain ⟨ad251, e251, hx251_0⟩ := Kd.at_string HR1.out x11_4 p251 q251
                                                cases e251
                                                replace hx251_0 := (HB.out.cell (World.block_lt_of_cell? w _ hx251_0)).trans hx251_0
                                                replace p251 := eq_true p251
                                                replace q251 := eq_true q251
                                                go_wp2_with (first | ((with_reducible refine gate_callee (f := 79) rfl ?_); refine goesL_ (some 71) rfl rfl Tryz.func79 (by kernel_rfl) rfl #[.string (rdOf ByteArray.empty l1 x11_4)] rfl (by (try simp only [List.map_toArray, List.map_cons, List.map_nil]); first | done | rfl | (simp only [List.length_drop, List.length_take]; rfl)) ?_; (with_reducible refine (kilnref24_Unwritten.calls kj27 (rdOf ByteArray.empty l1 x11_4) t252 true _ A35.out).mono ?_); rintro e w104 ⟨rfl, hb⟩; refine ⟨_, rfl, ?_⟩; have n0_ := Aside0.mk (Kd.R_below (by (with_reducible repeat (first | apply Kd.R_alloc | apply Kd.R_drewN | apply Kd.R_drew)); exact HO_247003.out) hb); have n1_ := Aside0.mk (blk_below (g := gb245) (o := .cells #[.int .i64 x246000_4, .string x246001_4, .string x246002_4, .slice none 0 0, .string x246004_4, .int .i64 x246005_4, .int .i64 x246006_4] 31 (0, 0)) (by (with_reducible repeat (first | refine blk_drewN ?_ _ | refine blk_drew ?_ | refine blk_alloc ?_ _)); exact BK245.out) hb); have n2_ := Aside0.mk (blk_below (g := gb246) (o := .cells #[.int .i64 a0, .string x247001_4, .string x247002_4, u247003, .string x247004_4, .int .i64 x247005_4, .int .i64 x247006_4] 31 (0, 0)) (by (with_reducible repeat (first | refine blk_drewN ?_ _ | refine blk_drew ?_ | refine blk_alloc ?_ _)); exact BK246.out) hb); have n3_ := Aside0.mk (below_step (by repeat (first | (with_reducible first | exact HB.out | apply below_alloc | apply pw_below_drewN | apply below_drew1 | refine below_set ?_ GE245.out | refine below_set ?_ GE246.out) | exact HB.out)) hb); clear HO_247003; clear BK245; clear BK246; clear HB; have HO_247003 := n0_; have BK245 := n1_; have BK246 := n2_; have HB := n3_; clear n0_ n1_ n2_ n3_; (try clear hb); (try clear hb2); (try clear hk); (try clear hi); have p254 : 0 ≤ (x11_4 : Int) := of_decide_eq_true (by first | (with_reducible assumption) | assumption); have q254 : x11_4 < (l1.length : Int) := of_decide_eq_true (by first | (with_reducible assumption) | assumption); obtain ⟨ad254, e254, hx254_0⟩ := Kd.at_string HR1.out x11_4 p254 q254; obtain rfl : ad251 = ad254 := (by injection e254); replace hx254_0 := (HB.out.cell (World.block_lt_of_cell? w _ hx254_0)).trans hx254_0; replace p254 := eq_true p254; replace q254 := eq_true q254) | ((with_reducible refine gate_callee (f := 78) rfl ?_); refine goesL_ (some 79) rfl rfl Tryz.func78 (by kernel_rfl) rfl #[.string (rdOf ByteArray.empty l1 x11_4)] rfl (by (try simp only [List.map_toArray, List.map_cons, List.map_nil]); first | done | rfl | (simp only [List.length_drop, List.length_take]; rfl)) ?_; (with_reducible refine (kilnref24_number.calls kj27 (rdOf ByteArray.empty l1 x11_4) t255 t256 _ A36.out).mono ?_); rintro e w' ⟨rfl, ⟨nd, rfl⟩⟩; refine ⟨_, rfl, ?_⟩))
                                                go_roundg kj27
                                                case measure => have := HJ5.out; have := HJ17.out; have := HJ19.out; have := HK4.out; have := HJ27.out; omega
                                                case rel => exact ⟨(wrap64 (x11_4 + 1)), (x246000_4), (x246001_4), (x246002_4), (x246004_4), (x246005_4), (x246006_4), (x247001_4), (x247002_4), (x247003_4), (x247004_4), (x247005_4), (x247006_4), (u247003), (by first | rfl | (simp; done) | (simp [*]; done)), H', ⟨by have := HJ5.out; have := HJ17.out; have := HJ19.out; have := HK4.out; have := HJ27.out; omega⟩, ⟨by (with_reducible repeat (first | apply Kd.R_alloc | apply Kd.R_drewN | apply Kd.R_drew)); exact HO_247003.out⟩, ⟨by (with_reducible repeat (first | refine blk_drewN ?_ _ | refine blk_drew ?_ | refine blk_alloc ?_ _)); exact BK245.out⟩, ⟨by (with_reducible repeat (first | refine blk_drewN ?_ _ | refine blk_drew ?_ | refine blk_alloc ?_ _)); exact BK246.out⟩, ⟨by repeat (first | (with_reducible first | exact HB.out | apply below_alloc | apply pw_below_drewN | apply below_drew1 | refine below_set ?_ GE245.out | refine below_set ?_ GE246.out) | exact HB.out)⟩⟩
                                              · replace c103 := Bool.eq_false_iff.mpr c103
                                                subst c103
                                                have H1 : (some (a0, x247001_4, x247002_4, x247003_4, x247004_4, x247005_4, x247006_4, 244)) = some (r1, r2, r3, r4, r5, r6, r7, r8) := by rw [if_neg (show ¬ (false = true) by decide)] at H; exact H
                                                clear H
                                                have H := H1
                                                clear H1
                                                simp only [Option.some.injEq, Prod.mk.injEq] at H
                                                obtain ⟨rfl, rfl, rfl, rfl, rfl, rfl, rfl, rfl⟩ := H
                                                have p251 : 0 ≤ (x11_4 : Int) := of_decide_eq_true (by first | (with_reducible assumption) | assumption)
                                                have q251 : x11_4 < (l1.length : Int) := of_decide_eq_true (by first | (with_reducible assumption) | assumption)
                                                obtain ⟨ad251, e251, hx251_0⟩ := Kd.at_string HR1.out x11_4 p251 q251
                                                cases e251
                                                replace hx251_0 := (HB.out.cell (World.block_lt_of_cell? w _ hx251_0)).trans hx251_0
                                                replace p251 := eq_true p251
                                                replace q251 := eq_true q251
                                                go_wp2_with (first | ((with_reducible refine gate_callee (f := 79) rfl ?_); refine goesL_ (some 71) rfl rfl Tryz.func79 (by kernel_rfl) rfl #[.string (rdOf ByteArray.empty l1 x11_4)] rfl (by (try simp only [List.map_toArray, List.map_cons, List.map_nil]); first | done | rfl | (simp only [List.length_drop, List.length_take]; rfl)) ?_; (with_reducible refine (kilnref24_Unwritten.calls kj27 (rdOf ByteArray.empty l1 x11_4) t252 false _ A35.out).mono ?_); rintro e w105 ⟨rfl, hb⟩; refine ⟨_, rfl, ?_⟩; have n0_ := Aside0.mk (Kd.R_below (by (with_reducible repeat (first | apply Kd.R_alloc | apply Kd.R_drewN | apply Kd.R_drew)); exact HO_247003.out) hb); have n1_ := Aside0.mk (blk_below (g := gb245) (o := .cells #[.int .i64 x246000_4, .string x246001_4, .string x246002_4, .slice none 0 0, .string x246004_4, .int .i64 x246005_4, .int .i64 x246006_4] 31 (0, 0)) (by (with_reducible repeat (first | refine blk_drewN ?_ _ | refine blk_drew ?_ | refine blk_alloc ?_ _)); exact BK245.out) hb); have n2_ := Aside0.mk (blk_below (g := gb246) (o := .cells #[.int .i64 a0, .string x247001_4, .string x247002_4, u247003, .string x247004_4, .int .i64 x247005_4, .int .i64 x247006_4] 31 (0, 0)) (by (with_reducible repeat (first | refine blk_drewN ?_ _ | refine blk_drew ?_ | refine blk_alloc ?_ _)); exact BK246.out) hb); have n3_ := Aside0.mk (below_step (by repeat (first | (with_reducible first | exact HB.out | apply below_alloc | apply pw_below_drewN | apply below_drew1 | refine below_set ?_ GE245.out | refine below_set ?_ GE246.out) | exact HB.out)) hb); clear HO_247003; clear BK245; clear BK246; clear HB; have HO_247003 := n0_; have BK245 := n1_; have BK246 := n2_; have HB := n3_; clear n0_ n1_ n2_ n3_; (try clear hb); (try clear hb2); (try clear hk); (try clear hi); have p254 : 0 ≤ (x11_4 : Int) := of_decide_eq_true (by first | (with_reducible assumption) | assumption); have q254 : x11_4 < (l1.length : Int) := of_decide_eq_true (by first | (with_reducible assumption) | assumption); obtain ⟨ad254, e254, hx254_0⟩ := Kd.at_string HR1.out x11_4 p254 q254; obtain rfl : ad251 = ad254 := (by injection e254); replace hx254_0 := (HB.out.cell (World.block_lt_of_cell? w _ hx254_0)).trans hx254_0; replace p254 := eq_true p254; replace q254 := eq_true q254) | ((with_reducible refine gate_callee (f := 78) rfl ?_); refine goesL_ (some 79) rfl rfl Tryz.func78 (by kernel_rfl) rfl #[.string (rdOf ByteArray.empty l1 x11_4)] rfl (by (try simp only [List.map_toArray, List.map_cons, List.map_nil]); first | done | rfl | (simp only [List.length_drop, List.length_take]; rfl)) ?_; (with_reducible refine (kilnref24_number.calls kj27 (rdOf ByteArray.empty l1 x11_4) t255 t256 _ A36.out).mono ?_); rintro e w' ⟨rfl, ⟨nd, rfl⟩⟩; refine ⟨_, rfl, ?_⟩; (try (rw [drewN_self w105]; generalize hq_ : World.drewN w105 _ = w105; have n0_ : Aside0 (Kd.R Kd.string 9 w105 w.heap.size (fun _ => True) u247003 x247003_4) := ⟨by rw [← hq_]; exact (by (with_reducible repeat (first | apply Kd.R_alloc | apply Kd.R_drewN | apply Kd.R_drew)); exact HO_247003.out)⟩; have n1_ : Aside0 (w105.heap[gb245]? = some (.cells #[.int .i64 x246000_4, .string x246001_4, .string x246002_4, .slice none 0 0, .string x246004_4, .int .i64 x246005_4, .int .i64 x246006_4] 31 (0, 0))) := ⟨by rw [← hq_]; exact (by (with_reducible repeat (first | refine blk_drewN ?_ _ | refine blk_drew ?_ | refine blk_alloc ?_ _)); exact BK245.out)⟩; have n2_ : Aside0 (w105.heap[gb246]? = some (.cells #[.int .i64 a0, .string x247001_4, .string x247002_4, u247003, .string x247004_4, .int .i64 x247005_4, .int .i64 x247006_4] 31 (0, 0))) := ⟨by rw [← hq_]; exact (by (with_reducible repeat (first | refine blk_drewN ?_ _ | refine blk_drew ?_ | refine blk_alloc ?_ _)); exact BK246.out)⟩; have n3_ : Aside0 (Below w.heap.size w w105) := ⟨by rw [← hq_]; exact (by repeat (first | (with_reducible first | exact HB.out | apply below_alloc | apply pw_below_drewN | apply below_drew1 | refine below_set ?_ GE245.out | refine below_set ?_ GE246.out) | exact HB.out))⟩; clear HO_247003 BK245 BK246 HB hq_; have HO_247003 := n0_; have BK245 := n1_; have BK246 := n2_; have HB := n3_; clear n0_ n1_ n2_ n3_)); have hnb106 := NB246_245.out; have hnc106 := NB245_246.out; have hcz107_0 : w105.cell? ⟨gb246, 0, none⟩ = some (.int .i64 a0) := (blk_cell BK246.out 0).trans rfl; have hcz107_1 : w105.cell? ⟨gb246, 1, none⟩ = some (.string x247001_4) := (blk_cell BK246.out 1).trans rfl; have hcz107_2 : w105.cell? ⟨gb246, 2, none⟩ = some (.string x247002_4) := (blk_cell BK246.out 2).trans rfl; have hcz107_3 : w105.cell? ⟨gb246, 3, none⟩ = some (u247003) := (blk_cell BK246.out 3).trans rfl; have hcz107_4 : w105.cell? ⟨gb246, 4, none⟩ = some (.string x247004_4) := (blk_cell BK246.out 4).trans rfl; have hcz107_5 : w105.cell? ⟨gb246, 5, none⟩ = some (.int .i64 x247005_4) := (blk_cell BK246.out 5).trans rfl; have hcz107_6 : w105.cell? ⟨gb246, 6, none⟩ = some (.int .i64 x247006_4) := (blk_cell BK246.out 6).trans rfl; have hfz107_0 := blk_frozen BK246.out 0; have hfz107_1 := blk_frozen BK246.out 1; have hfz107_2 := blk_frozen BK246.out 2; have hfz107_3 := blk_frozen BK246.out 3; have hfz107_4 := blk_frozen BK246.out 4; have hfz107_5 := blk_frozen BK246.out 5; have hfz107_6 := blk_frozen BK246.out 6; have hcz108_0 : w105.cell? ⟨gb245, 0, none⟩ = some (.int .i64 x246000_4) := (blk_cell BK245.out 0).trans rfl; have hcz108_1 : w105.cell? ⟨gb245, 1, none⟩ = some (.string x246001_4) := (blk_cell BK245.out 1).trans rfl; have hcz108_2 : w105.cell? ⟨gb245, 2, none⟩ = some (.string x246002_4) := (blk_cell BK245.out 2).trans rfl; have hcz108_3 : w105.cell? ⟨gb245, 3, none⟩ = some (.slice none 0 0) := (blk_cell BK245.out 3).trans rfl; have hcz108_4 : w105.cell? ⟨gb245, 4, none⟩ = some (.string x246004_4) := (blk_cell BK245.out 4).trans rfl; have hcz108_5 : w105.cell? ⟨gb245, 5, none⟩ = some (.int .i64 x246005_4) := (blk_cell BK245.out 5).trans rfl; have hcz108_6 : w105.cell? ⟨gb245, 6, none⟩ = some (.int .i64 x246006_4) := (blk_cell BK245.out 6).trans rfl; have hfz108_0 := blk_frozen BK245.out 0; have hfz108_1 := blk_frozen BK245.out 1; have hfz108_2 := blk_frozen BK245.out 2; have hfz108_3 := blk_frozen BK245.out 3; have hfz108_4 := blk_frozen BK245.out 4; have hfz108_5 := blk_frozen BK245.out 5; have hfz108_6 := blk_frozen BK245.out 6; obtain ⟨Ao109, co109, eo109⟩ := Kd.R_slice HO_247003.out; subst eo109))
                                                refine bodyPost_ret (results_ct rfl _ _ gb245 31 #[.int .i64 a0, .string x247001_4, .string x247002_4, .slice Ao109 x247003_4.length co109, .string x247004_4, .int .i64 x247005_4, .int .i64 x247006_4] (0, 0) _ rfl (by (with_reducible repeat (first | refine blk_drewN ?_ _ | refine blk_drew ?_ | refine blk_alloc ?_ _)); refine blk_put (cs := #[.int .i64 a0, .string x247001_4, .string x247002_4, .slice Ao109 x247003_4.length co109, .string x247004_4, .int .i64 x247005_4, .int .i64 x246006_4]) ?_ 6 _ rfl; (with_reducible repeat (first | refine blk_drewN ?_ _ | refine blk_drew ?_ | refine blk_alloc ?_ _)); refine blk_put (cs := #[.int .i64 a0, .string x247001_4, .string x247002_4, .slice Ao109 x247003_4.length co109, .string x247004_4, .int .i64 x246005_4, .int .i64 x246006_4]) ?_ 5 _ rfl; (with_reducible repeat (first | refine blk_drewN ?_ _ | refine blk_drew ?_ | refine blk_alloc ?_ _)); refine blk_put (cs := #[.int .i64 a0, .string x247001_4, .string x247002_4, .slice Ao109 x247003_4.length co109, .string x246004_4, .int .i64 x246005_4, .int .i64 x246006_4]) ?_ 4 _ rfl; (with_reducible repeat (first | refine blk_drewN ?_ _ | refine blk_drew ?_ | refine blk_alloc ?_ _)); refine blk_put (cs := #[.int .i64 a0, .string x247001_4, .string x247002_4, .slice none 0 0, .string x246004_4, .int .i64 x246005_4, .int .i64 x246006_4]) ?_ 3 _ rfl; (with_reducible repeat (first | refine blk_drewN ?_ _ | refine blk_drew ?_ | refine blk_alloc ?_ _)); refine blk_put (cs := #[.int .i64 a0, .string x247001_4, .string x246002_4, .slice none 0 0, .string x246004_4, .int .i64 x246005_4, .int .i64 x246006_4]) ?_ 2 _ rfl; (with_reducible repeat (first | refine blk_drewN ?_ _ | refine blk_drew ?_ | refine blk_alloc ?_ _)); refine blk_put (cs := #[.int .i64 a0, .string x246001_4, .string x246002_4, .slice none 0 0, .string x246004_4, .int .i64 x246005_4, .int .i64 x246006_4]) ?_ 1 _ rfl; (with_reducible repeat (first | refine blk_drewN ?_ _ | refine blk_drew ?_ | refine blk_alloc ?_ _)); refine blk_put (cs := #[.int .i64 x246000_4, .string x246001_4, .string x246002_4, .slice none 0 0, .string x246004_4, .int .i64 x246005_4, .int .i64 x246006_4]) ?_ 0 _ rfl; (with_reducible repeat (first | refine blk_drewN ?_ _ | refine blk_drew ?_ | refine blk_alloc ?_ _)); exact BK245.out) Tryz.underlying31 rfl (by kernel_rfl)) rfl ?_
                                                exact ⟨_, by first | rfl | (simp [errW_none, errW_some] <;> rfl) | (simp [*, errW_none, errW_some] <;> rfl), by (with_reducible repeat (first | apply Kd.R_alloc | apply Kd.R_drewN | apply Kd.R_drew)); exact Kd.R_mono (Kd.R_far (p := ⟨gb245, 6, none⟩) (Kd.R_far (p := ⟨gb245, 5, none⟩) (Kd.R_far (p := ⟨gb245, 4, none⟩) (Kd.R_far (p := ⟨gb245, 3, none⟩) (Kd.R_far (p := ⟨gb245, 2, none⟩) (Kd.R_far (p := ⟨gb245, 1, none⟩) (Kd.R_far (p := ⟨gb245, 0, none⟩) (Kd.R_types HO_247003.out BK245.out (by decide)) (fun _ hk => hk.2) (.int .i64 a0)) (fun _ hk => hk.2) (.string x247001_4)) (fun _ hk => hk.2) (.string x247002_4)) (fun _ hk => hk.2) (.slice Ao109 x247003_4.length co109)) (fun _ hk => hk.2) (.string x247004_4)) (fun _ hk => hk.2) (.int .i64 x247005_4)) (fun _ hk => hk.2) (.int .i64 x247006_4)) (fun _ hk => trivial), by repeat (first | (with_reducible first | exact HB.out | apply below_alloc | apply pw_below_drewN | apply below_drew1 | refine below_set ?_ GE245.out | refine below_set ?_ GE246.out) | exact HB.out)⟩
                                · rw [if_neg c34] at H
                                  exact absurd H (by simp)
                              · rw [if_neg c33] at H
                                exact absurd H (by simp)
                        · rw [if_neg c27] at H
                          have c27b0 : decide (x11_4 < (l1.length : Int)) = false := decide_eq_false c27
                          clear c27
                          simp only [Option.some.injEq, Prod.mk.injEq] at H
                          obtain ⟨rfl, rfl, rfl, rfl, rfl, rfl, rfl, rfl⟩ := H
                          have hnb110 := NB246_245.out
                          have hnc110 := NB245_246.out
                          have hcz111_0 : wr.cell? ⟨gb246, 0, none⟩ = some (.int .i64 a0) := (blk_cell BK246.out 0).trans rfl
                          have hcz111_1 : wr.cell? ⟨gb246, 1, none⟩ = some (.string x247001_4) := (blk_cell BK246.out 1).trans rfl
                          have hcz111_2 : wr.cell? ⟨gb246, 2, none⟩ = some (.string x247002_4) := (blk_cell BK246.out 2).trans rfl
                          have hcz111_3 : wr.cell? ⟨gb246, 3, none⟩ = some (u247003) := (blk_cell BK246.out 3).trans rfl
                          have hcz111_4 : wr.cell? ⟨gb246, 4, none⟩ = some (.string x247004_4) := (blk_cell BK246.out 4).trans rfl
                          have hcz111_5 : wr.cell? ⟨gb246, 5, none⟩ = some (.int .i64 x247005_4) := (blk_cell BK246.out 5).trans rfl
                          have hcz111_6 : wr.cell? ⟨gb246, 6, none⟩ = some (.int .i64 x247006_4) := (blk_cell BK246.out 6).trans rfl
                          have hfz111_0 := blk_frozen BK246.out 0
                          have hfz111_1 := blk_frozen BK246.out 1
                          have hfz111_2 := blk_frozen BK246.out 2
                          have hfz111_3 := blk_frozen BK246.out 3
                          have hfz111_4 := blk_frozen BK246.out 4
                          have hfz111_5 := blk_frozen BK246.out 5
                          have hfz111_6 := blk_frozen BK246.out 6
                          have hcz112_0 : wr.cell? ⟨gb245, 0, none⟩ = some (.int .i64 x246000_4) := (blk_cell BK245.out 0).trans rfl
                          have hcz112_1 : wr.cell? ⟨gb245, 1, none⟩ = some (.string x246001_4) := (blk_cell BK245.out 1).trans rfl
                          have hcz112_2 : wr.cell? ⟨gb245, 2, none⟩ = some (.string x246002_4) := (blk_cell BK245.out 2).trans rfl
                          have hcz112_3 : wr.cell? ⟨gb245, 3, none⟩ = some (.slice none 0 0) := (blk_cell BK245.out 3).trans rfl
                          have hcz112_4 : wr.cell? ⟨gb245, 4, none⟩ = some (.string x246004_4) := (blk_cell BK245.out 4).trans rfl
                          have hcz112_5 : wr.cell? ⟨gb245, 5, none⟩ = some (.int .i64 x246005_4) := (blk_cell BK245.out 5).trans rfl
                          have hcz112_6 : wr.cell? ⟨gb245, 6, none⟩ = some (.int .i64 x246006_4) := (blk_cell BK245.out 6).trans rfl
                          have hfz112_0 := blk_frozen BK245.out 0
                          have hfz112_1 := blk_frozen BK245.out 1
                          have hfz112_2 := blk_frozen BK245.out 2
                          have hfz112_3 := blk_frozen BK245.out 3
                          have hfz112_4 := blk_frozen BK245.out 4
                          have hfz112_5 := blk_frozen BK245.out 5
                          have hfz112_6 := blk_frozen BK245.out 6
                          obtain ⟨Ao113, co113, eo113⟩ := Kd.R_slice HO_247003.out
                          subst eo113
                          go_wp2
                          refine bodyPost_ret (results_ct rfl _ _ gb245 31 #[.int .i64 a0, .string x247001_4, .string x247002_4, .slice Ao113 x247003_4.length co113, .string x247004_4, .int .i64 x247005_4, .int .i64 x247006_4] (0, 0) _ rfl (by (with_reducible repeat (first | refine blk_drewN ?_ _ | refine blk_drew ?_ | refine blk_alloc ?_ _)); refine blk_put (cs := #[.int .i64 a0, .string x247001_4, .string x247002_4, .slice Ao113 x247003_4.length co113, .string x247004_4, .int .i64 x247005_4, .int .i64 x246006_4]) ?_ 6 _ rfl; (with_reducible repeat (first | refine blk_drewN ?_ _ | refine blk_drew ?_ | refine blk_alloc ?_ _)); refine blk_put (cs := #[.int .i64 a0, .string x247001_4, .string x247002_4, .slice Ao113 x247003_4.length co113, .string x247004_4, .int .i64 x246005_4, .int .i64 x246006_4]) ?_ 5 _ rfl; (with_reducible repeat (first | refine blk_drewN ?_ _ | refine blk_drew ?_ | refine blk_alloc ?_ _)); refine blk_put (cs := #[.int .i64 a0, .string x247001_4, .string x247002_4, .slice Ao113 x247003_4.length co113, .string x246004_4, .int .i64 x246005_4, .int .i64 x246006_4]) ?_ 4 _ rfl; (with_reducible repeat (first | refine blk_drewN ?_ _ | refine blk_drew ?_ | refine blk_alloc ?_ _)); refine blk_put (cs := #[.int .i64 a0, .string x247001_4, .string x247002_4, .slice none 0 0, .string x246004_4, .int .i64 x246005_4, .int .i64 x246006_4]) ?_ 3 _ rfl; (with_reducible repeat (first | refine blk_drewN ?_ _ | refine blk_drew ?_ | refine blk_alloc ?_ _)); refine blk_put (cs := #[.int .i64 a0, .string x247001_4, .string x246002_4, .slice none 0 0, .string x246004_4, .int .i64 x246005_4, .int .i64 x246006_4]) ?_ 2 _ rfl; (with_reducible repeat (first | refine blk_drewN ?_ _ | refine blk_drew ?_ | refine blk_alloc ?_ _)); refine blk_put (cs := #[.int .i64 a0, .string x246001_4, .string x246002_4, .slice none 0 0, .string x246004_4, .int .i64 x246005_4, .int .i64 x246006_4]) ?_ 1 _ rfl; (with_reducible repeat (first | refine blk_drewN ?_ _ | refine blk_drew ?_ | refine blk_alloc ?_ _)); refine blk_put (cs := #[.int .i64 x246000_4, .string x246001_4, .string x246002_4, .slice none 0 0, .string x246004_4, .int .i64 x246005_4, .int .i64 x246006_4]) ?_ 0 _ rfl; (with_reducible repeat (first | refine blk_drewN ?_ _ | refine blk_drew ?_ | refine blk_alloc ?_ _)); exact BK245.out) Tryz.underlying31 rfl (by kernel_rfl)) rfl ?_
                          exact ⟨_, by first | rfl | (simp [errW_none, errW_some] <;> rfl) | (simp [*, errW_none, errW_some] <;> rfl), by (with_reducible repeat (first | apply Kd.R_alloc | apply Kd.R_drewN | apply Kd.R_drew)); exact Kd.R_mono (Kd.R_far (p := ⟨gb245, 6, none⟩) (Kd.R_far (p := ⟨gb245, 5, none⟩) (Kd.R_far (p := ⟨gb245, 4, none⟩) (Kd.R_far (p := ⟨gb245, 3, none⟩) (Kd.R_far (p := ⟨gb245, 2, none⟩) (Kd.R_far (p := ⟨gb245, 1, none⟩) (Kd.R_far (p := ⟨gb245, 0, none⟩) (Kd.R_types HO_247003.out BK245.out (by decide)) (fun _ hk => hk.2) (.int .i64 a0)) (fun _ hk => hk.2) (.string x247001_4)) (fun _ hk => hk.2) (.string x247002_4)) (fun _ hk => hk.2) (.slice Ao113 x247003_4.length co113)) (fun _ hk => hk.2) (.string x247004_4)) (fun _ hk => hk.2) (.int .i64 x247005_4)) (fun _ hk => hk.2) (.int .i64 x247006_4)) (fun _ hk => trivial), by repeat (first | (with_reducible first | exact HB.out | apply below_alloc | apply pw_below_drewN | apply below_drew1 | refine below_set ?_ GE245.out | refine below_set ?_ GE246.out) | exact HB.out)⟩
    · rw [if_neg c5] at H
      exact absurd H (by simp)
  · rw [if_neg c4] at H
    exact absurd H (by simp)

end Go.Proofs.YtkfjjmmpbfjhaaaGreatDoor.PScriptActs
