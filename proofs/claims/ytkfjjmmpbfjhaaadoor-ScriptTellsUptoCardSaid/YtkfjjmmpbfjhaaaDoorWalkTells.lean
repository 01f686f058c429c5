/- The law ScriptTells, walked: of any answer within bounds the call returns true. Conditions: those that the theorem states. -/
import Derived.Test.YtkfjjmmpbfjhaaaDoorTellRef
import Derived.Test.YtkfjjmmpbfjhaaaDoorPScriptTellsx3
import Derived.Outline
import Derived.IntWalk
import Derived.WalkSpells
import Derived.Lib.ItoaNum
import Derived.Lib.ItoaLen
import Derived.Lib.SplitLaws
import Derived.Lib.AppendIntMem
import Derived.Lib.Replace
import Derived.Deep.QuietTactic
import Derived.BigQuiet
import Derived.Deep.MidRow
import Derived.ArgAppend
import Derived.Lib.AppendStr
import Derived.Lib.UnsafeStr
import Derived.Lib.SlBytesConst
namespace Go.Proofs.YtkfjjmmpbfjhaaaDoor.Tells
open Go.RowKit Go.Proofs.YtkfjjmmpbfjhaaaDoor.PScriptTells Go.Proofs.YtkfjjmmpbfjhaaaDoorW.PrintWords Go.Proofs.YtkfjjmmpbfjhaaaDoorW.PrintLast Go.Proofs.YtkfjjmmpbfjhaaaDoorW.PrintMore
attribute [local go_sem] max2_int min2_int max_two min_two max_three min_three max_four min_four
set_option linter.unusedVariables false
set_option linter.unusedSimpArgs false
abbrev ans15 : AnsT := ⟨0, ⟨#[]⟩, ⟨#[]⟩, 0, 15, 0, 0, ⟨#[]⟩⟩
theorem ans15_ok : ans15.ok := ⟨by constructor <;> decide, by constructor <;> decide, by constructor <;> decide, by constructor <;> decide, by constructor <;> decide, by decide, by decide, by decide⟩
theorem tell15 : tellL ans15 = [97, 110, 115, 119, 101, 114, 32, 48, 32, 49, 53, 32, 48, 32, 48, 32, 48, 32, 61, 32, 61, 10] := by
  first
    | decide +kernel
    | rfl
theorem tell_at (a : AnsT) (ha : a.ok) (m : Int) (w W : World) (T : Pow w) (N : Nib w) (M : w.cell? ⟨1, 0, none⟩ = some (.int .i64 m)) (hB : Below w.heap.size w W) :
    Calls Tryd.prog 4 #[.agg #[.int .i64 a.code, .string a.cls, .string a.sel, .int .i64 a.at_, .int .i64 a.num, .int .i64 a.st, .int .i64 a.used, .string a.text]] W fun e w' => e = .returned (.string ⟨(tellL a).toArray⟩) ∧ Below W.heap.size W w' ∧ Below w.heap.size w w' :=
  (tell_calls a ha m W (T.below hB) (N.below hB) (pw_cell_below hB M)).mono fun e w' h => ⟨h.1, h.2, below_then hB hB.size h.2⟩
theorem refTell_at (a : AnsT) (ha : a.ok) (w W : World) (T : Pow w) (hB : Below w.heap.size w W) :
    Calls Tryd.prog 5 #[.agg #[.int .i64 a.code, .string a.cls, .string a.sel, .int .i64 a.at_, .int .i64 a.num, .int .i64 a.st, .int .i64 a.used, .string a.text]] W fun e w' => e = .returned (.string ⟨(tellL a).toArray⟩) ∧ Below W.heap.size W w' ∧ Below w.heap.size w w' :=
  (refTell_calls a ha W (T.below hB)).mono fun e w' h => ⟨h.1, h.2, below_then hB hB.size h.2⟩
theorem tell15_at (m : Int) (w W : World) (T : Pow w) (N : Nib w) (M : w.cell? ⟨1, 0, none⟩ = some (.int .i64 m)) (hB : Below w.heap.size w W) :
    Calls Tryd.prog 4 #[.agg #[.int .i64 0, .string { data := #[] }, .string { data := #[] }, .int .i64 0, .int .i64 15, .int .i64 0, .int .i64 0, .string { data := #[] }]] W fun e w' => e = .returned (.string { data := #[97, 110, 115, 119, 101, 114, 32, 48, 32, 49, 53, 32, 48, 32, 48, 32, 48, 32, 61, 32, 61, 10] }) ∧ Below W.heap.size W w' ∧ Below w.heap.size w w' := by
  have h := tell_at ans15 ans15_ok m w W T N M hB
  rw [tell15] at h
  exact h
set_option maxHeartbeats 4000000 in
set_option maxRecDepth 100000 in
theorem tells_law (a : AnsT) (ha : a.ok) (m : Int) (w : World) (T : Pow w) (N : Nib w) (M : w.cell? ⟨1, 0, none⟩ = some (.int .i64 m)) :
    Calls Tryd.prog 3 #[a.v] w fun e w' => e = .returned (.bool true) ∧ Below w.heap.size w w' := by
  obtain ⟨code, cls, sel, at_, num, st, used, text⟩ := a
  have HA := Aside0.mk ha
  have HT := Aside0.mk T
  have HN := Aside0.mk N
  have HM := Aside0.mk M
  have hst := blk_new w (.cells #[.int .i64 code, .string cls, .string sel, .int .i64 at_, .int .i64 num, .int .i64 st, .int .i64 used, .string text] 26 (0, 0))
  have d0 := (blk_cell hst 0).trans (show _ = some (.int .i64 code) from rfl)
  have d1 := (blk_cell hst 1).trans (show _ = some (.string cls) from rfl)
  have d2 := (blk_cell hst 2).trans (show _ = some (.string sel) from rfl)
  have d3 := (blk_cell hst 3).trans (show _ = some (.int .i64 at_) from rfl)
  have d4 := (blk_cell hst 4).trans (show _ = some (.int .i64 num) from rfl)
  have d5 := (blk_cell hst 5).trans (show _ = some (.int .i64 st) from rfl)
  have d6 := (blk_cell hst 6).trans (show _ = some (.int .i64 used) from rfl)
  have d7 := (blk_cell hst 7).trans (show _ = some (.string text) from rfl)
  clear ha T N M hst
  unfold AnsT.v
  go_enter Tryd.func3, Tryd.ntmps3
  go_wp2_with fail
  obtain ⟨w1, hw1⟩ : ∃ w1, w1 = w.alloc (Obj.cells #[Value.int .i64 code, Value.string cls, Value.string sel, Value.int .i64 at_, Value.int .i64 num, Value.int .i64 st, Value.int .i64 used, Value.string text] 26) := ⟨_, rfl⟩
  have HB1 : Aside0 (Below w.heap.size w w1) := ⟨by rw [hw1]; exact below_alloc (Below.refl _ _) _⟩
  rw [← hw1] at d0 d1 d2 d3 d4 d5 d6 d7
  rw [← hw1]
  clear hw1
  refine start_ (n := 11) (S := fun w' => w'.cell? ⟨w.heap.size, 0, none⟩ = some (.int .i64 code) ∧ w'.cell? ⟨w.heap.size, 4, none⟩ = some (.int .i64 num) ∧ w'.cell? ⟨w.heap.size, 5, none⟩ = some (.int .i64 st) ∧ w'.cell? ⟨w.heap.size, 6, none⟩ = some (.int .i64 used) ∧ w'.cell? ⟨w.heap.size, 3, none⟩ = some (.int .i64 at_) ∧ w'.cell? ⟨w.heap.size, 1, none⟩ = some (.string cls) ∧ w'.cell? ⟨w.heap.size, 2, none⟩ = some (.string sel) ∧ w'.cell? ⟨w.heap.size, 7, none⟩ = some (.string text)) (ds := []) #[false, false, false, false, false, false, false, false, false, false, false] (by kernel_rfl) rfl rfl ⟨(by exact d0), (by exact d4), (by exact d5), (by exact d6), (by exact d3), (by exact d1), (by exact d2), (by exact d7)⟩ (fun hHeld => ?_)
  refine take_ (i := 0) (N := some 3) (v := ?_) (a' := ?_) #[true, false, false, false, false, false, false, false, false, false, false] rfl rfl (by kernel_rfl) (fun _ _ _ h => h) (Or.inl ⟨by rfl, ?_⟩) hHeld ?_ ?_
  rotate_left
  · rintro w' ⟨s0, s1, s2, s3, s4, s5, s6, s7⟩
    go_simp
    with_reducible rfl
  rotate_left
  · simp only [Act.put, List.setIfInBounds_toArray, List.set_cons_zero, List.set_cons_succ, i64_w, i32_w]
    rfl
  refine take_ (i := 2) (N := some 5) (v := ?_) (a' := ?_) #[true, false, true, false, false, false, false, false, false, false, false] rfl rfl (by kernel_rfl) (fun _ _ _ h => h) (Or.inl ⟨by rfl, ?_⟩) hHeld ?_ ?_
  rotate_left
  · rintro w' ⟨s0, s1, s2, s3, s4, s5, s6, s7⟩
    go_simp
    with_reducible rfl
  rotate_left
  · simp only [Act.put, List.setIfInBounds_toArray, List.set_cons_zero, List.set_cons_succ, i64_w, i32_w]
    rfl
  refine one_ (i := 1) (N := some 4) #[true, true, true, false, false, false, false, false, false, false, false] rfl rfl (by kernel_rfl) (by decide) (fun K hK => ?_)
  refine goes_ Tryd.func4 (by kernel_rfl) rfl #[.agg #[.int .i64 code, .string cls, .string sel, .int .i64 at_, .int .i64 num, .int .i64 st, .int .i64 used, .string text]] (by rfl) rfl rfl (by simp only [List.map_toArray, List.map_cons, List.map_nil]; rfl) ?_
  with_reducible refine (tell_at ⟨code, cls, sel, at_, num, st, used, text⟩ HA.out m w _ HT.out HN.out HM.out (below_drew HB1.out)).mono ?_
  rintro e w2 ⟨rfl, hLL0, hBA0⟩
  refine ⟨_, rfl, ?_⟩
  refine hK.out _ _ ⟨(pw_cell_below hLL0 hHeld.1), (pw_cell_below hLL0 hHeld.2.1), (pw_cell_below hLL0 hHeld.2.2.1), (pw_cell_below hLL0 hHeld.2.2.2.1), (pw_cell_below hLL0 hHeld.2.2.2.2.1), (pw_cell_below hLL0 hHeld.2.2.2.2.2.1), (pw_cell_below hLL0 hHeld.2.2.2.2.2.2.1), (pw_cell_below hLL0 hHeld.2.2.2.2.2.2.2)⟩ (fun hHeld => ?_)
  clear hK K
  refine norm_ (a' := ?_) ?_ ?_
  rotate_left
  · show Act.put _ (some 4) _ = _
    simp only [Act.put, List.setIfInBounds_toArray, List.set_cons_zero, List.set_cons_succ, i64_w, i32_w]
    rfl
  refine one_ (i := 3) (N := some 6) #[true, true, true, true, false, false, false, false, false, false, false] rfl rfl (by kernel_rfl) (by decide) (fun K hK => ?_)
  refine goes_ Tryd.func5 (by kernel_rfl) rfl #[.agg #[.int .i64 code, .string cls, .string sel, .int .i64 at_, .int .i64 num, .int .i64 st, .int .i64 used, .string text]] (by rfl) rfl rfl (by simp only [List.map_toArray, List.map_cons, List.map_nil]; rfl) ?_
  with_reducible refine (refTell_at ⟨code, cls, sel, at_, num, st, used, text⟩ HA.out w _ HT.out hBA0).mono ?_
  rintro e w3 ⟨rfl, hLL1, hBA1⟩
  refine ⟨_, rfl, ?_⟩
  refine hK.out _ _ ⟨(pw_cell_below hLL1 hHeld.1), (pw_cell_below hLL1 hHeld.2.1), (pw_cell_below hLL1 hHeld.2.2.1), (pw_cell_below hLL1 hHeld.2.2.2.1), (pw_cell_below hLL1 hHeld.2.2.2.2.1), (pw_cell_below hLL1 hHeld.2.2.2.2.2.1), (pw_cell_below hLL1 hHeld.2.2.2.2.2.2.1), (pw_cell_below hLL1 hHeld.2.2.2.2.2.2.2)⟩ (fun hHeld => ?_)
  clear hK K
  refine norm_ (a' := ?_) ?_ ?_
  rotate_left
  · show Act.put _ (some 6) _ = _
    simp only [Act.put, List.setIfInBounds_toArray, List.set_cons_zero, List.set_cons_succ, i64_w, i32_w]
    rfl
  refine pure_ (i := 4) (N := some 7) (v := ?_) (a' := ?_) #[true, true, true, true, true, false, false, false, false, false, false] rfl rfl (by kernel_rfl) (fun _ _ _ h => h) (Or.inl ⟨by rfl, ?_⟩) ?_ ?_
  rotate_left
  · intro w'
    go_simp
    with_reducible rfl
  rotate_left
  · simp only [Act.put, List.setIfInBounds_toArray, List.set_cons_zero, List.set_cons_succ, i64_w, i32_w]
    rfl
  refine pure_ (i := 5) (N := some 8) (v := ?_) (a' := ?_) #[true, true, true, true, true, true, false, false, false, false, false] rfl rfl (by kernel_rfl) (fun _ _ _ h => h) (Or.inl ⟨by rfl, ?_⟩) ?_ ?_
  rotate_left
  · intro w'
    go_simp
    with_reducible rfl
  rotate_left
  · simp only [Act.put, List.setIfInBounds_toArray, List.set_cons_zero, List.set_cons_succ, i64_w, i32_w]
    rfl
  refine pure_ (i := 6) (N := some 9) (v := ?_) (a' := ?_) #[true, true, true, true, true, true, true, false, false, false, false] rfl rfl (by kernel_rfl) (fun _ _ _ h => h) (Or.inl ⟨by rfl, ?_⟩) ?_ ?_
  rotate_left
  · intro w'
    go_simp
    with_reducible rfl
  rotate_left
  · simp only [Act.put, List.setIfInBounds_toArray, List.set_cons_zero, List.set_cons_succ, i64_w, i32_w]
    rfl
  refine one_ (i := 7) (N := some 10) #[true, true, true, true, true, true, true, true, false, false, false] rfl rfl (by kernel_rfl) (by decide) (fun K hK => ?_)
  refine goes_ Tryd.func4 (by kernel_rfl) rfl #[.agg #[.int .i64 0, .string { data := #[] }, .string { data := #[] }, .int .i64 0, .int .i64 15, .int .i64 0, .int .i64 0, .string { data := #[] }]] (by rfl) rfl rfl (by simp only [List.map_toArray, List.map_cons, List.map_nil]; rfl) ?_
  with_reducible refine (tell15_at m w _ HT.out HN.out HM.out hBA1).mono ?_
  rintro e w4 ⟨rfl, hLL2, hBA2⟩
  refine ⟨_, rfl, ?_⟩
  refine hK.out _ _ ⟨(pw_cell_below hLL2 hHeld.1), (pw_cell_below hLL2 hHeld.2.1), (pw_cell_below hLL2 hHeld.2.2.1), (pw_cell_below hLL2 hHeld.2.2.2.1), (pw_cell_below hLL2 hHeld.2.2.2.2.1), (pw_cell_below hLL2 hHeld.2.2.2.2.2.1), (pw_cell_below hLL2 hHeld.2.2.2.2.2.2.1), (pw_cell_below hLL2 hHeld.2.2.2.2.2.2.2)⟩ (fun hHeld => ?_)
  clear hK K
  refine norm_ (a' := ?_) ?_ ?_
  rotate_left
  · show Act.put _ (some 10) _ = _
    simp only [Act.put, List.setIfInBounds_toArray, List.set_cons_zero, List.set_cons_succ, i64_w, i32_w]
    rfl
  refine pure_ (i := 8) (N := some 11) (v := ?_) (a' := ?_) #[true, true, true, true, true, true, true, true, true, false, false] rfl rfl (by kernel_rfl) (fun _ _ _ h => h) (Or.inl ⟨by rfl, ?_⟩) ?_ ?_
  rotate_left
  · intro w'
    go_simp
    with_reducible rfl
  rotate_left
  · simp only [Act.put, List.setIfInBounds_toArray, List.set_cons_zero, List.set_cons_succ, i64_w, i32_w]
    rfl
  refine pure_ (i := 9) (N := some 12) (v := ?_) (a' := ?_) #[true, true, true, true, true, true, true, true, true, true, false] rfl rfl (by kernel_rfl) (fun _ _ _ h => h) (Or.inl ⟨by rfl, ?_⟩) ?_ ?_
  rotate_left
  · intro w'
    go_simp
    with_reducible rfl
  rotate_left
  · simp only [Act.put, List.setIfInBounds_toArray, List.set_cons_zero, List.set_cons_succ, i64_w, i32_w]
    rfl
  refine pure_ (i := 10) (N := some 2) (v := ?_) (a' := ?_) #[true, true, true, true, true, true, true, true, true, true, true] rfl rfl (by kernel_rfl) (fun _ _ _ h => h) (Or.inl ⟨by rfl, ?_⟩) ?_ ?_
  rotate_left
  · intro w'
    go_simp
    with_reducible rfl
  rotate_left
  · simp only [Act.put, List.setIfInBounds_toArray, List.set_cons_zero, List.set_cons_succ, i64_w, i32_w]
    rfl
  refine done_ (by kernel_rfl) ?_


  go_wp2
  go_ret
  exact ⟨rfl, hBA2⟩
end Go.Proofs.YtkfjjmmpbfjhaaaDoor.Tells
