/- The print's lines of kilnlaw24.twin, kilnref24.acts, kilnref24.shapes, kilnref24.plain (its own texts fall at another function). Conditions: those that each theorem states. -/
import Derived.Test.YtkfjjmmpbfjhaaaGreatDoorPScriptActsx0
namespace Go.Proofs.YtkfjjmmpbfjhaaaGreatDoor.PScriptActs
open Go.RowKit Go.Proofs.YtkfjjmmpbfjhaaaGreatDoorW.PrintWords Go.Proofs.YtkfjjmmpbfjhaaaGreatDoorW.PrintLast Go.Proofs.YtkfjjmmpbfjhaaaGreatDoorW.PrintMore
attribute [local go_sem] max2_int min2_int max_two min_two max_three min_three max_four min_four   -- for this text's walks alone
set_option linter.unusedVariables false
set_option linter.unusedSimpArgs false

/-! ### kilnref24_acts: function 45 -/
def kilnref24_acts.f  : Option (List ByteArray) := some (([(⟨#[]⟩ : ByteArray), (⟨#[99, 108, 97, 115, 115]⟩ : ByteArray), (⟨#[109, 101, 116, 104, 111, 100]⟩ : ByteArray), (⟨#[114, 101, 109, 111, 118, 101]⟩ : ByteArray), (⟨#[103, 108, 111, 98, 97, 108]⟩ : ByteArray), (⟨#[115, 112, 97, 119, 110]⟩ : ByteArray), (⟨#[114, 117, 110]⟩ : ByteArray), (⟨#[114, 101, 115, 104, 97, 112, 101]⟩ : ByteArray), (⟨#[99, 111, 108, 108, 101, 99, 116]⟩ : ByteArray), (⟨#[105, 110, 115, 112, 101, 99, 116]⟩ : ByteArray), (⟨#[109, 97, 114, 107]⟩ : ByteArray), (⟨#[115, 97, 118, 101]⟩ : ByteArray), (⟨#[108, 111, 97, 100]⟩ : ByteArray)] : List ByteArray))
set_option maxHeartbeats 8000000 in
set_option maxRecDepth 100000 in
theorem kilnref24_acts.calls  (r : List ByteArray) (w : World) (h : kilnref24_acts.f  = some r) :
    Calls Tryz.prog 45 #[] w fun e w' => ∃ v0_ : Value, e = .returned (v0_) ∧ Kd.R Kd.string 9 w' w.heap.size (fun _ => True) v0_ r ∧ Below w.heap.size w w' := by
  have HB := Aside0.mk (Below.refl w.heap.size w)
  have H : (some (([(⟨#[]⟩ : ByteArray), (⟨#[99, 108, 97, 115, 115]⟩ : ByteArray), (⟨#[109, 101, 116, 104, 111, 100]⟩ : ByteArray), (⟨#[114, 101, 109, 111, 118, 101]⟩ : ByteArray), (⟨#[103, 108, 111, 98, 97, 108]⟩ : ByteArray), (⟨#[115, 112, 97, 119, 110]⟩ : ByteArray), (⟨#[114, 117, 110]⟩ : ByteArray), (⟨#[114, 101, 115, 104, 97, 112, 101]⟩ : ByteArray), (⟨#[99, 111, 108, 108, 101, 99, 116]⟩ : ByteArray), (⟨#[105, 110, 115, 112, 101, 99, 116]⟩ : ByteArray), (⟨#[109, 97, 114, 107]⟩ : ByteArray), (⟨#[115, 97, 118, 101]⟩ : ByteArray), (⟨#[108, 111, 97, 100]⟩ : ByteArray)] : List ByteArray))) = some r := h
  clear h
  obtain ⟨y153, hy153⟩ : ∃ y_ : List ByteArray, y_ = (([(⟨#[]⟩ : ByteArray), (⟨#[99, 108, 97, 115, 115]⟩ : ByteArray), (⟨#[109, 101, 116, 104, 111, 100]⟩ : ByteArray), (⟨#[114, 101, 109, 111, 118, 101]⟩ : ByteArray), (⟨#[103, 108, 111, 98, 97, 108]⟩ : ByteArray), (⟨#[115, 112, 97, 119, 110]⟩ : ByteArray), (⟨#[114, 117, 110]⟩ : ByteArray), (⟨#[114, 101, 115, 104, 97, 112, 101]⟩ : ByteArray), (⟨#[99, 111, 108, 108, 101, 99, 116]⟩ : ByteArray), (⟨#[105, 110, 115, 112, 101, 99, 116]⟩ : ByteArray), (⟨#[109, 97, 114, 107]⟩ : ByteArray), (⟨#[115, 97, 118, 101]⟩ : ByteArray), (⟨#[108, 111, 97, 100]⟩ : ByteArray)] : List ByteArray)) := ⟨_, rfl⟩
  replace H : (some y153) = some r := by first | (rw [hy153]; with_reducible exact H) | (have H2_ := (Option.bind_some _ _).symm.trans H; rw [hy153]; with_reducible exact H2_) | (have H2_ := (Option.bind_some _ _).symm.trans H; with_reducible exact H2_) | with_reducible exact H | (rw [hy153]; exact H) | exact H
  have Ny153 := Aside0.mk hy153
  clear hy153
  obtain rfl := Option.some.inj H
  go_enter Tryz.func45, Tryz.ntmps45
  go_wp2_with (first | ((with_reducible refine gate_dst (N := 1) rfl ?_); refine Kd.R_lit Kd.string _ 9 ?hg (N := 1) ?hd (xs := ([(⟨#[]⟩ : ByteArray), (⟨#[99, 108, 97, 115, 115]⟩ : ByteArray), (⟨#[109, 101, 116, 104, 111, 100]⟩ : ByteArray), (⟨#[114, 101, 109, 111, 118, 101]⟩ : ByteArray), (⟨#[103, 108, 111, 98, 97, 108]⟩ : ByteArray), (⟨#[115, 112, 97, 119, 110]⟩ : ByteArray), (⟨#[114, 117, 110]⟩ : ByteArray), (⟨#[114, 101, 115, 104, 97, 112, 101]⟩ : ByteArray), (⟨#[99, 111, 108, 108, 101, 99, 116]⟩ : ByteArray), (⟨#[105, 110, 115, 112, 101, 99, 116]⟩ : ByteArray), (⟨#[109, 97, 114, 107]⟩ : ByteArray), (⟨#[115, 97, 118, 101]⟩ : ByteArray), (⟨#[108, 111, 97, 100]⟩ : ByteArray)] : List ByteArray)) (inner := [.string (⟨#[]⟩ : ByteArray), .string (⟨#[99, 108, 97, 115, 115]⟩ : ByteArray), .string (⟨#[109, 101, 116, 104, 111, 100]⟩ : ByteArray), .string (⟨#[114, 101, 109, 111, 118, 101]⟩ : ByteArray), .string (⟨#[103, 108, 111, 98, 97, 108]⟩ : ByteArray), .string (⟨#[115, 112, 97, 119, 110]⟩ : ByteArray), .string (⟨#[114, 117, 110]⟩ : ByteArray), .string (⟨#[114, 101, 115, 104, 97, 112, 101]⟩ : ByteArray), .string (⟨#[99, 111, 108, 108, 101, 99, 116]⟩ : ByteArray), .string (⟨#[105, 110, 115, 112, 101, 99, 116]⟩ : ByteArray), .string (⟨#[109, 97, 114, 107]⟩ : ByteArray), .string (⟨#[115, 97, 118, 101]⟩ : ByteArray), .string (⟨#[108, 111, 97, 100]⟩ : ByteArray)]) (ok := fun _ => True) (okp := fun _ => True) ?hr ?hp (fun _ hk => hk) trivial (Below.refl _ _) (Nat.le_refl _) (by simp) ?_; (case hd => rfl); (case hg => rfl); (case hr => first | (go_simp; done) | (go_simp; rfl)); (case hp => exact (Reps.one (show Kd.M Kd.string _ _ _ (⟨#[]⟩ : ByteArray) [.string (⟨#[]⟩ : ByteArray)] from rfl) (Reps.one (show Kd.M Kd.string _ _ _ (⟨#[99, 108, 97, 115, 115]⟩ : ByteArray) [.string (⟨#[99, 108, 97, 115, 115]⟩ : ByteArray)] from rfl) (Reps.one (show Kd.M Kd.string _ _ _ (⟨#[109, 101, 116, 104, 111, 100]⟩ : ByteArray) [.string (⟨#[109, 101, 116, 104, 111, 100]⟩ : ByteArray)] from rfl) (Reps.one (show Kd.M Kd.string _ _ _ (⟨#[114, 101, 109, 111, 118, 101]⟩ : ByteArray) [.string (⟨#[114, 101, 109, 111, 118, 101]⟩ : ByteArray)] from rfl) (Reps.one (show Kd.M Kd.string _ _ _ (⟨#[103, 108, 111, 98, 97, 108]⟩ : ByteArray) [.string (⟨#[103, 108, 111, 98, 97, 108]⟩ : ByteArray)] from rfl) (Reps.one (show Kd.M Kd.string _ _ _ (⟨#[115, 112, 97, 119, 110]⟩ : ByteArray) [.string (⟨#[115, 112, 97, 119, 110]⟩ : ByteArray)] from rfl) (Reps.one (show Kd.M Kd.string _ _ _ (⟨#[114, 117, 110]⟩ : ByteArray) [.string (⟨#[114, 117, 110]⟩ : ByteArray)] from rfl) (Reps.one (show Kd.M Kd.string _ _ _ (⟨#[114, 101, 115, 104, 97, 112, 101]⟩ : ByteArray) [.string (⟨#[114, 101, 115, 104, 97, 112, 101]⟩ : ByteArray)] from rfl) (Reps.one (show Kd.M Kd.string _ _ _ (⟨#[99, 111, 108, 108, 101, 99, 116]⟩ : ByteArray) [.string (⟨#[99, 111, 108, 108, 101, 99, 116]⟩ : ByteArray)] from rfl) (Reps.one (show Kd.M Kd.string _ _ _ (⟨#[105, 110, 115, 112, 101, 99, 116]⟩ : ByteArray) [.string (⟨#[105, 110, 115, 112, 101, 99, 116]⟩ : ByteArray)] from rfl) (Reps.one (show Kd.M Kd.string _ _ _ (⟨#[109, 97, 114, 107]⟩ : ByteArray) [.string (⟨#[109, 97, 114, 107]⟩ : ByteArray)] from rfl) (Reps.one (show Kd.M Kd.string _ _ _ (⟨#[115, 97, 118, 101]⟩ : ByteArray) [.string (⟨#[115, 97, 118, 101]⟩ : ByteArray)] from rfl) (Reps.one (show Kd.M Kd.string _ _ _ (⟨#[108, 111, 97, 100]⟩ : ByteArray) [.string (⟨#[108, 111, 97, 100]⟩ : ByteArray)] from rfl) (Reps.none _ _))))))))))))))); intro v154 w1 ho2 hb hg_ hnew_; clear hg_ hnew_; (first | rw [← Ny153.out] at ho2 | (simp only [Int.reduceToNat] at ho2; rw [← Ny153.out] at ho2)); have n0_ := Aside0.mk (Kd.R_lower ho2 (below_size (by repeat (first | (with_reducible first | exact HB.out | apply below_alloc | apply pw_below_drewN | apply below_drew1) | exact HB.out)))); have n1_ := Aside0.mk (below_step (by repeat (first | (with_reducible first | exact HB.out | apply below_alloc | apply pw_below_drewN | apply below_drew1) | exact HB.out)) hb); clear HB; have HO155 := n0_; have HB := n1_; clear n0_ n1_; clear hb ho2))
  go_ret
  exact ⟨_, by first | rfl | (simp [errW_none, errW_some] <;> rfl) | (simp [*, errW_none, errW_some] <;> rfl), by (with_reducible repeat (first | apply Kd.R_alloc | apply Kd.R_drewN | apply Kd.R_drew)); exact HO155.out, by repeat (first | (with_reducible first | exact HB.out | apply below_alloc | apply pw_below_drewN | apply below_drew1) | exact HB.out)⟩

/-! ### kilnref24_shapes: function 46 -/
def kilnref24_shapes.f  : Option (List ByteArray) := some (([(⟨#[]⟩ : ByteArray), (⟨#[110, 111, 42]⟩ : ByteArray), (⟨#[110, 116]⟩ : ByteArray), (⟨#[110, 111]⟩ : ByteArray), (⟨#[110]⟩ : ByteArray), (⟨#[116]⟩ : ByteArray), (⟨#[35, 102]⟩ : ByteArray), (⟨#[110, 42]⟩ : ByteArray), (⟨#[]⟩ : ByteArray), (⟨#[]⟩ : ByteArray), (⟨#[35]⟩ : ByteArray), (⟨#[]⟩ : ByteArray), (⟨#[116]⟩ : ByteArray)] : List ByteArray))
set_option maxHeartbeats 8000000 in
set_option maxRecDepth 100000 in
theorem kilnref24_shapes.calls  (r : List ByteArray) (w : World) (h : kilnref24_shapes.f  = some r) :
    Calls Tryz.prog 46 #[] w fun e w' => ∃ v0_ : Value, e = .returned (v0_) ∧ Kd.R Kd.string 9 w' w.heap.size (fun _ => True) v0_ r ∧ Below w.heap.size w w' := by
  have HB := Aside0.mk (Below.refl w.heap.size w)
  have H : (some (([(⟨#[]⟩ : ByteArray), (⟨#[110, 111, 42]⟩ : ByteArray), (⟨#[110, 116]⟩ : ByteArray), (⟨#[110, 111]⟩ : ByteArray), (⟨#[110]⟩ : ByteArray), (⟨#[116]⟩ : ByteArray), (⟨#[35, 102]⟩ : ByteArray), (⟨#[110, 42]⟩ : ByteArray), (⟨#[]⟩ : ByteArray), (⟨#[]⟩ : ByteArray), (⟨#[35]⟩ : ByteArray), (⟨#[]⟩ : ByteArray), (⟨#[116]⟩ : ByteArray)] : List ByteArray))) = some r := h
  clear h
  obtain ⟨y156, hy156⟩ : ∃ y_ : List ByteArray, y_ = (([(⟨#[]⟩ : ByteArray), (⟨#[110, 111, 42]⟩ : ByteArray), (⟨#[110, 116]⟩ : ByteArray), (⟨#[110, 111]⟩ : ByteArray), (⟨#[110]⟩ : ByteArray), (⟨#[116]⟩ : ByteArray), (⟨#[35, 102]⟩ : ByteArray), (⟨#[110, 42]⟩ : ByteArray), (⟨#[]⟩ : ByteArray), (⟨#[]⟩ : ByteArray), (⟨#[35]⟩ : ByteArray), (⟨#[]⟩ : ByteArray), (⟨#[116]⟩ : ByteArray)] : List ByteArray)) := ⟨_, rfl⟩
  replace H : (some y156) = some r := by first | (rw [hy156]; with_reducible exact H) | (have H2_ := (Option.bind_some _ _).symm.trans H; rw [hy156]; with_reducible exact H2_) | (have H2_ := (Option.bind_some _ _).symm.trans H; with_reducible exact H2_) | with_reducible exact H | (rw [hy156]; exact H) | exact H
  have Ny156 := Aside0.mk hy156
  clear hy156
  obtain rfl := Option.some.inj H
  go_enter Tryz.func46, Tryz.ntmps46
  go_wp2_with (first | ((with_reducible refine gate_dst (N := 1) rfl ?_); refine Kd.R_lit Kd.string _ 9 ?hg (N := 1) ?hd (xs := ([(⟨#[]⟩ : ByteArray), (⟨#[110, 111, 42]⟩ : ByteArray), (⟨#[110, 116]⟩ : ByteArray), (⟨#[110, 111]⟩ : ByteArray), (⟨#[110]⟩ : ByteArray), (⟨#[116]⟩ : ByteArray), (⟨#[35, 102]⟩ : ByteArray), (⟨#[110, 42]⟩ : ByteArray), (⟨#[]⟩ : ByteArray), (⟨#[]⟩ : ByteArray), (⟨#[35]⟩ : ByteArray), (⟨#[]⟩ : ByteArray), (⟨#[116]⟩ : ByteArray)] : List ByteArray)) (inner := [.string (⟨#[]⟩ : ByteArray), .string (⟨#[110, 111, 42]⟩ : ByteArray), .string (⟨#[110, 116]⟩ : ByteArray), .string (⟨#[110, 111]⟩ : ByteArray), .string (⟨#[110]⟩ : ByteArray), .string (⟨#[116]⟩ : ByteArray), .string (⟨#[35, 102]⟩ : ByteArray), .string (⟨#[110, 42]⟩ : ByteArray), .string (⟨#[]⟩ : ByteArray), .string (⟨#[]⟩ : ByteArray), .string (⟨#[35]⟩ : ByteArray), .string (⟨#[]⟩ : ByteArray), .string (⟨#[116]⟩ : ByteArray)]) (ok := fun _ => True) (okp := fun _ => True) ?hr ?hp (fun _ hk => hk) trivial (Below.refl _ _) (Nat.le_refl _) (by simp) ?_; (case hd => rfl); (case hg => rfl); (case hr => first | (go_simp; done) | (go_simp; rfl)); (case hp => exact (Reps.one (show Kd.M Kd.string _ _ _ (⟨#[]⟩ : ByteArray) [.string (⟨#[]⟩ : ByteArray)] from rfl) (Reps.one (show Kd.M Kd.string _ _ _ (⟨#[110, 111, 42]⟩ : ByteArray) [.string (⟨#[110, 111, 42]⟩ : ByteArray)] from rfl) (Reps.one (show Kd.M Kd.string _ _ _ (⟨#[110, 116]⟩ : ByteArray) [.string (⟨#[110, 116]⟩ : ByteArray)] from rfl) (Reps.one (show Kd.M Kd.string _ _ _ (⟨#[110, 111]⟩ : ByteArray) [.string (⟨#[110, 111]⟩ : ByteArray)] from rfl) (Reps.one (show Kd.M Kd.string _ _ _ (⟨#[110]⟩ : ByteArray) [.string (⟨#[110]⟩ : ByteArray)] from rfl) (Reps.one (show Kd.M Kd.string _ _ _ (⟨#[116]⟩ : ByteArray) [.string (⟨#[116]⟩ : ByteArray)] from rfl) (Reps.one (show Kd.M Kd.string _ _ _ (⟨#[35, 102]⟩ : ByteArray) [.string (⟨#[35, 102]⟩ : ByteArray)] from rfl) (Reps.one (show Kd.M Kd.string _ _ _ (⟨#[110, 42]⟩ : ByteArray) [.string (⟨#[110, 42]⟩ : ByteArray)] from rfl) (Reps.one (show Kd.M Kd.string _ _ _ (⟨#[]⟩ : ByteArray) [.string (⟨#[]⟩ : ByteArray)] from rfl) (Reps.one (show Kd.M Kd.string _ _ _ (⟨#[]⟩ : ByteArray) [.string (⟨#[]⟩ : ByteArray)] from rfl) (Reps.one (show Kd.M Kd.string _ _ _ (⟨#[35]⟩ : ByteArray) [.string (⟨#[35]⟩ : ByteArray)] from rfl) (Reps.one (show Kd.M Kd.string _ _ _ (⟨#[]⟩ : ByteArray) [.string (⟨#[]⟩ : ByteArray)] from rfl) (Reps.one (show Kd.M Kd.string _ _ _ (⟨#[116]⟩ : ByteArray) [.string (⟨#[116]⟩ : ByteArray)] from rfl) (Reps.none _ _))))))))))))))); intro v157 w1 ho2 hb hg_ hnew_; clear hg_ hnew_; (first | rw [← Ny156.out] at ho2 | (simp only [Int.reduceToNat] at ho2; rw [← Ny156.out] at ho2)); have n0_ := Aside0.mk (Kd.R_lower ho2 (below_size (by repeat (first | (with_reducible first | exact HB.out | apply below_alloc | apply pw_below_drewN | apply below_drew1) | exact HB.out)))); have n1_ := Aside0.mk (below_step (by repeat (first | (with_reducible first | exact HB.out | apply below_alloc | apply pw_below_drewN | apply below_drew1) | exact HB.out)) hb); clear HB; have HO158 := n0_; have HB := n1_; clear n0_ n1_; clear hb ho2))
  go_ret
  exact ⟨_, by first | rfl | (simp [errW_none, errW_some] <;> rfl) | (simp [*, errW_none, errW_some] <;> rfl), by (with_reducible repeat (first | apply Kd.R_alloc | apply Kd.R_drewN | apply Kd.R_drew)); exact HO158.out, by repeat (first | (with_reducible first | exact HB.out | apply below_alloc | apply pw_below_drewN | apply below_drew1) | exact HB.out)⟩

/-! ### kilnref24_plain: function 85 -/
def kilnref24_plain.f (a0 : Int) : Option (Bool) := if a0 ≥ 97 then (if a0 ≤ 122 then (some true) else (if a0 ≥ 65 then (if a0 ≤ 90 then (some true) else (if a0 ≥ 48 then (if a0 ≤ 57 then (some true) else (if a0 = 46 then (some true) else (if a0 = 95 then (some true) else (if a0 = 45 then (some true) else (if a0 = 58 then (some true) else (if a0 = 94 then (some true) else (if a0 = 43 then (some true) else (if a0 = 91 then (some true) else (if a0 = 93 then (some true) else (if a0 = 40 then (some true) else (some (a0 == 41)))))))))))) else (if a0 = 46 then (some true) else (if a0 = 95 then (some true) else (if a0 = 45 then (some true) else (if a0 = 58 then (some true) else (if a0 = 94 then (some true) else (if a0 = 43 then (some true) else (if a0 = 91 then (some true) else (if a0 = 93 then (some true) else (if a0 = 40 then (some true) else (some (a0 == 41))))))))))))) else (if a0 ≥ 48 then (if a0 ≤ 57 then (some true) else (if a0 = 46 then (some true) else (if a0 = 95 then (some true) else (if a0 = 45 then (some true) else (if a0 = 58 then (some true) else (if a0 = 94 then (some true) else (if a0 = 43 then (some true) else (if a0 = 91 then (some true) else (if a0 = 93 then (some true) else (if a0 = 40 then (some true) else (some (a0 == 41)))))))))))) else (if a0 = 46 then (some true) else (if a0 = 95 then (some true) else (if a0 = 45 then (some true) else (if a0 = 58 then (some true) else (if a0 = 94 then (some true) else (if a0 = 43 then (some true) else (if a0 = 91 then (some true) else (if a0 = 93 then (some true) else (if a0 = 40 then (some true) else (some (a0 == 41)))))))))))))) else (if a0 ≥ 65 then (if a0 ≤ 90 then (some true) else (if a0 ≥ 48 then (if a0 ≤ 57 then (some true) else (if a0 = 46 then (some true) else (if a0 = 95 then (some true) else (if a0 = 45 then (some true) else (if a0 = 58 then (some true) else (if a0 = 94 then (some true) else (if a0 = 43 then (some true) else (if a0 = 91 then (some true) else (if a0 = 93 then (some true) else (if a0 = 40 then (some true) else (some (a0 == 41)))))))))))) else (if a0 = 46 then (some true) else (if a0 = 95 then (some true) else (if a0 = 45 then (some true) else (if a0 = 58 then (some true) else (if a0 = 94 then (some true) else (if a0 = 43 then (some true) else (if a0 = 91 then (some true) else (if a0 = 93 then (some true) else (if a0 = 40 then (some true) else (some (a0 == 41))))))))))))) else (if a0 ≥ 48 then (if a0 ≤ 57 then (some true) else (if a0 = 46 then (some true) else (if a0 = 95 then (some true) else (if a0 = 45 then (some true) else (if a0 = 58 then (some true) else (if a0 = 94 then (some true) else (if a0 = 43 then (some true) else (if a0 = 91 then (some true) else (if a0 = 93 then (some true) else (if a0 = 40 then (some true) else (some (a0 == 41)))))))))))) else (if a0 = 46 then (some true) else (if a0 = 95 then (some true) else (if a0 = 45 then (some true) else (if a0 = 58 then (some true) else (if a0 = 94 then (some true) else (if a0 = 43 then (some true) else (if a0 = 91 then (some true) else (if a0 = 93 then (some true) else (if a0 = 40 then (some true) else (some (a0 == 41)))))))))))))
set_option maxHeartbeats 8000000 in
set_option maxRecDepth 100000 in
theorem kilnref24_plain.calls (a0 : Int) (r : Bool) (w : World) (h : kilnref24_plain.f a0 = some r) :
    Calls Tryz.prog 85 #[.int .u8 a0] w fun e w' => e = .returned (.bool r) ∧ Drawn0 w w' := by
  have H : (if a0 ≥ 97 then (if a0 ≤ 122 then (some true) else (if a0 ≥ 65 then (if a0 ≤ 90 then (some true) else (if a0 ≥ 48 then (if a0 ≤ 57 then (some true) else (if a0 = 46 then (some true) else (if a0 = 95 then (some true) else (if a0 = 45 then (some true) else (if a0 = 58 then (some true) else (if a0 = 94 then (some true) else (if a0 = 43 then (some true) else (if a0 = 91 then (some true) else (if a0 = 93 then (some true) else (if a0 = 40 then (some true) else (some (a0 == 41)))))))))))) else (if a0 = 46 then (some true) else (if a0 = 95 then (some true) else (if a0 = 45 then (some true) else (if a0 = 58 then (some true) else (if a0 = 94 then (some true) else (if a0 = 43 then (some true) else (if a0 = 91 then (some true) else (if a0 = 93 then (some true) else (if a0 = 40 then (some true) else (some (a0 == 41))))))))))))) else (if a0 ≥ 48 then (if a0 ≤ 57 then (some true) else (if a0 = 46 then (some true) else (if a0 = 95 then (some true) else (if a0 = 45 then (some true) else (if a0 = 58 then (some true) else (if a0 = 94 then (some true) else (if a0 = 43 then (some true) else (if a0 = 91 then (some true) else (if a0 = 93 then (some true) else (if a0 = 40 then (some true) else (some (a0 == 41)))))))))))) else (if a0 = 46 then (some true) else (if a0 = 95 then (some true) else (if a0 = 45 then (some true) else (if a0 = 58 then (some true) else (if a0 = 94 then (some true) else (if a0 = 43 then (some true) else (if a0 = 91 then (some true) else (if a0 = 93 then (some true) else (if a0 = 40 then (some true) else (some (a0 == 41)))))))))))))) else (if a0 ≥ 65 then (if a0 ≤ 90 then (some true) else (if a0 ≥ 48 then (if a0 ≤ 57 then (some true) else (if a0 = 46 then (some true) else (if a0 = 95 then (some true) else (if a0 = 45 then (some true) else (if a0 = 58 then (some true) else (if a0 = 94 then (some true) else (if a0 = 43 then (some true) else (if a0 = 91 then (some true) else (if a0 = 93 then (some true) else (if a0 = 40 then (some true) else (some (a0 == 41)))))))))))) else (if a0 = 46 then (some true) else (if a0 = 95 then (some true) else (if a0 = 45 then (some true) else (if a0 = 58 then (some true) else (if a0 = 94 then (some true) else (if a0 = 43 then (some true) else (if a0 = 91 then (some true) else (if a0 = 93 then (some true) else (if a0 = 40 then (some true) else (some (a0 == 41))))))))))))) else (if a0 ≥ 48 then (if a0 ≤ 57 then (some true) else (if a0 = 46 then (some true) else (if a0 = 95 then (some true) else (if a0 = 45 then (some true) else (if a0 = 58 then (some true) else (if a0 = 94 then (some true) else (if a0 = 43 then (some true) else (if a0 = 91 then (some true) else (if a0 = 93 then (some true) else (if a0 = 40 then (some true) else (some (a0 == 41)))))))))))) else (if a0 = 46 then (some true) else (if a0 = 95 then (some true) else (if a0 = 45 then (some true) else (if a0 = 58 then (some true) else (if a0 = 94 then (some true) else (if a0 = 43 then (some true) else (if a0 = 91 then (some true) else (if a0 = 93 then (some true) else (if a0 = 40 then (some true) else (some (a0 == 41)))))))))))))) = some r := h
  clear h
  by_cases c2 : a0 ≥ 97
  · rw [if_pos c2] at H
    have c2b0 : decide (97 ≤ a0) = true := decide_eq_true c2
    clear c2
    by_cases c3 : a0 ≤ 122
    · rw [if_pos c3] at H
      have c3b0 : decide (a0 ≤ 122) = true := decide_eq_true c3
      clear c3
      obtain rfl := Option.some.inj H
      go_enter Tryz.func85, Tryz.ntmps85
      go_wp2
      go_ret
      exact ⟨by first | rfl | (simp; done) | (simp [*]; done), by repeat (first | exact Drawn0.refl _ | apply Drawn0.step)⟩
    · rw [if_neg c3] at H
      have c3b0 : decide (a0 ≤ 122) = false := decide_eq_false c3
      clear c3
      by_cases c4 : a0 ≥ 65
      · rw [if_pos c4] at H
        have c4b0 : decide (65 ≤ a0) = true := decide_eq_true c4
        clear c4
        by_cases c5 : a0 ≤ 90
        · rw [if_pos c5] at H
          have c5b0 : decide (a0 ≤ 90) = true := decide_eq_true c5
          clear c5
          obtain rfl := Option.some.inj H
          go_enter Tryz.func85, Tryz.ntmps85
          go_wp2
          go_ret
          exact ⟨by first | rfl | (simp; done) | (simp [*]; done), by repeat (first | exact Drawn0.refl _ | apply Drawn0.step)⟩
        · rw [if_neg c5] at H
          have c5b0 : decide (a0 ≤ 90) = false := decide_eq_false c5
          clear c5
          by_cases c6 : a0 ≥ 48
          · rw [if_pos c6] at H
            have c6b0 : decide (48 ≤ a0) = true := decide_eq_true c6
            clear c6
            by_cases c7 : a0 ≤ 57
            · rw [if_pos c7] at H
              have c7b0 : decide (a0 ≤ 57) = true := decide_eq_true c7
              clear c7
              obtain rfl := Option.some.inj H
              go_enter Tryz.func85, Tryz.ntmps85
              go_wp2
              go_ret
              exact ⟨by first | rfl | (simp; done) | (simp [*]; done), by repeat (first | exact Drawn0.refl _ | apply Drawn0.step)⟩
            · rw [if_neg c7] at H
              have c7b0 : decide (a0 ≤ 57) = false := decide_eq_false c7
              clear c7
              by_cases c8 : a0 = 46
              · rw [if_pos c8] at H
                have c8b0 : (a0 == 46) = true := beq_iff_eq.mpr c8
                have c8b1 : (a0 != 46) = false := bne_eq_false_iff_eq.mpr c8
                clear c8
                obtain rfl := Option.some.inj H
                go_enter Tryz.func85, Tryz.ntmps85
                go_wp2
                go_ret
                exact ⟨by first | rfl | (simp; done) | (simp [*]; done), by repeat (first | exact Drawn0.refl _ | apply Drawn0.step)⟩
              · rw [if_neg c8] at H
                have c8b0 : (a0 == 46) = false := beq_eq_false_iff_ne.mpr c8
                have c8b1 : (a0 != 46) = true := bne_iff_ne.mpr c8
                by_cases c9 : a0 = 95
                · rw [if_pos c9] at H
                  have c9b0 : (a0 == 95) = true := beq_iff_eq.mpr c9
                  have c9b1 : (a0 != 95) = false := bne_eq_false_iff_eq.mpr c9
                  clear c9
                  obtain rfl := Option.some.inj H
                  go_enter Tryz.func85, Tryz.ntmps85
                  go_wp2
                  go_ret
                  exact ⟨by first | rfl | (simp; done) | (simp [*]; done), by repeat (first | exact Drawn0.refl _ | apply Drawn0.step)⟩
                · rw [if_neg c9] at H
                  have c9b0 : (a0 == 95) = false := beq_eq_false_iff_ne.mpr c9
                  have c9b1 : (a0 != 95) = true := bne_iff_ne.mpr c9
                  by_cases c10 : a0 = 45
                  · rw [if_pos c10] at H
                    have c10b0 : (a0 == 45) = true := beq_iff_eq.mpr c10
                    have c10b1 : (a0 != 45) = false := bne_eq_false_iff_eq.mpr c10
                    clear c10
                    obtain rfl := Option.some.inj H
                    go_enter Tryz.func85, Tryz.ntmps85
                    go_wp2
                    go_ret
                    exact ⟨by first | rfl | (simp; done) | (simp [*]; done), by repeat (first | exact Drawn0.refl _ | apply Drawn0.step)⟩
                  · rw [if_neg c10] at H
                    have c10b0 : (a0 == 45) = false := beq_eq_false_iff_ne.mpr c10
                    have c10b1 : (a0 != 45) = true := bne_iff_ne.mpr c10
                    by_cases c11 : a0 = 58
                    · rw [if_pos c11] at H
                      have c11b0 : (a0 == 58) = true := beq_iff_eq.mpr c11
                      have c11b1 : (a0 != 58) = false := bne_eq_false_iff_eq.mpr c11
                      clear c11
                      obtain rfl := Option.some.inj H
                      go_enter Tryz.func85, Tryz.ntmps85
                      go_wp2
                      go_ret
                      exact ⟨by first | rfl | (simp; done) | (simp [*]; done), by repeat (first | exact Drawn0.refl _ | apply Drawn0.step)⟩
                    · rw [if_neg c11] at H
                      have c11b0 : (a0 == 58) = false := beq_eq_false_iff_ne.mpr c11
                      have c11b1 : (a0 != 58) = true := bne_iff_ne.mpr c11
                      by_cases c12 : a0 = 94
                      · rw [if_pos c12] at H
                        have c12b0 : (a0 == 94) = true := beq_iff_eq.mpr c12
                        have c12b1 : (a0 != 94) = false := bne_eq_false_iff_eq.mpr c12
                        clear c12
                        obtain rfl := Option.some.inj H
                        go_enter Tryz.func85, Tryz.ntmps85
                        go_wp2
                        go_ret
                        exact ⟨by first | rfl | (simp; done) | (simp [*]; done), by repeat (first | exact Drawn0.refl _ | apply Drawn0.step)⟩
                      · rw [if_neg c12] at H
                        have c12b0 : (a0 == 94) = false := beq_eq_false_iff_ne.mpr c12
                        have c12b1 : (a0 != 94) = true := bne_iff_ne.mpr c12
                        by_cases c13 : a0 = 43
                        · rw [if_pos c13] at H
                          have c13b0 : (a0 == 43) = true := beq_iff_eq.mpr c13
                          have c13b1 : (a0 != 43) = false := bne_eq_false_iff_eq.mpr c13
                          clear c13
                          obtain rfl := Option.some.inj H
                          go_enter Tryz.func85, Tryz.ntmps85
                          go_wp2
                          go_ret
                          exact ⟨by first | rfl | (simp; done) | (simp [*]; done), by repeat (first | exact Drawn0.refl _ | apply Drawn0.step)⟩
                        · rw [if_neg c13] at H
                          have c13b0 : (a0 == 43) = false := beq_eq_false_iff_ne.mpr c13
                          have c13b1 : (a0 != 43) = true := bne_iff_ne.mpr c13
                          by_cases c14 : a0 = 91
                          · rw [if_pos c14] at H
                            have c14b0 : (a0 == 91) = true := beq_iff_eq.mpr c14
                            have c14b1 : (a0 != 91) = false := bne_eq_false_iff_eq.mpr c14
                            clear c14
                            obtain rfl := Option.some.inj H
                            go_enter Tryz.func85, Tryz.ntmps85
                            go_wp2
                            go_ret
                            exact ⟨by first | rfl | (simp; done) | (simp [*]; done), by repeat (first | exact Drawn0.refl _ | apply Drawn0.step)⟩
                          · rw [if_neg c14] at H
                            have c14b0 : (a0 == 91) = false := beq_eq_false_iff_ne.mpr c14
                            have c14b1 : (a0 != 91) = true := bne_iff_ne.mpr c14
                            by_cases c15 : a0 = 93
                            · rw [if_pos c15] at H
                              have c15b0 : (a0 == 93) = true := beq_iff_eq.mpr c15
                              have c15b1 : (a0 != 93) = false := bne_eq_false_iff_eq.mpr c15
                              clear c15
                              obtain rfl := Option.some.inj H
                              go_enter Tryz.func85, Tryz.ntmps85
                              go_wp2
                              go_ret
                              exact ⟨by first | rfl | (simp; done) | (simp [*]; done), by repeat (first | exact Drawn0.refl _ | apply Drawn0.step)⟩
                            · rw [if_neg c15] at H
                              have c15b0 : (a0 == 93) = false := beq_eq_false_iff_ne.mpr c15
                              have c15b1 : (a0 != 93) = true := bne_iff_ne.mpr c15
                              by_cases c16 : a0 = 40
                              · rw [if_pos c16] at H
                                have c16b0 : (a0 == 40) = true := beq_iff_eq.mpr c16
                                have c16b1 : (a0 != 40) = false := bne_eq_false_iff_eq.mpr c16
                                clear c16
                                obtain rfl := Option.some.inj H
                                go_enter Tryz.func85, Tryz.ntmps85
                                go_wp2
                                go_ret
                                exact ⟨by first | rfl | (simp; done) | (simp [*]; done), by repeat (first | exact Drawn0.refl _ | apply Drawn0.step)⟩
                              · rw [if_neg c16] at H
                                have c16b0 : (a0 == 40) = false := beq_eq_false_iff_ne.mpr c16
                                have c16b1 : (a0 != 40) = true := bne_iff_ne.mpr c16
                                obtain rfl := Option.some.inj H
                                go_enter Tryz.func85, Tryz.ntmps85
                                go_wp2
                                go_ret
                                exact ⟨by first | rfl | (simp; done) | (simp [*]; done), by repeat (first | exact Drawn0.refl _ | apply Drawn0.step)⟩
          · rw [if_neg c6] at H
            have c6b0 : decide (48 ≤ a0) = false := decide_eq_false c6
            clear c6
            by_cases c17 : a0 = 46
            · rw [if_pos c17] at H
              have c17b0 : (a0 == 46) = true := beq_iff_eq.mpr c17
              have c17b1 : (a0 != 46) = false := bne_eq_false_iff_eq.mpr c17
              clear c17
              obtain rfl := Option.some.inj H
              go_enter Tryz.func85, Tryz.ntmps85
              go_wp2
              go_ret
              exact ⟨by first | rfl | (simp; done) | (simp [*]; done), by repeat (first | exact Drawn0.refl _ | apply Drawn0.step)⟩
            · rw [if_neg c17] at H
              have c17b0 : (a0 == 46) = false := beq_eq_false_iff_ne.mpr c17
              have c17b1 : (a0 != 46) = true := bne_iff_ne.mpr c17
              by_cases c18 : a0 = 95
              · rw [if_pos c18] at H
                have c18b0 : (a0 == 95) = true := beq_iff_eq.mpr c18
                have c18b1 : (a0 != 95) = false := bne_eq_false_iff_eq.mpr c18
                clear c18
                obtain rfl := Option.some.inj H
                go_enter Tryz.func85, Tryz.ntmps85
                go_wp2
                go_ret
                exact ⟨by first | rfl | (simp; done) | (simp [*]; done), by repeat (first | exact Drawn0.refl _ | apply Drawn0.step)⟩
              · rw [if_neg c18] at H
                have c18b0 : (a0 == 95) = false := beq_eq_false_iff_ne.mpr c18
                have c18b1 : (a0 != 95) = true := bne_iff_ne.mpr c18
                by_cases c19 : a0 = 45
                · rw [if_pos c19] at H
                  have c19b0 : (a0 == 45) = true := beq_iff_eq.mpr c19
                  have c19b1 : (a0 != 45) = false := bne_eq_false_iff_eq.mpr c19
                  clear c19
                  obtain rfl := Option.some.inj H
                  go_enter Tryz.func85, Tryz.ntmps85
                  go_wp2
                  go_ret
                  exact ⟨by first | rfl | (simp; done) | (simp [*]; done), by repeat (first | exact Drawn0.refl _ | apply Drawn0.step)⟩
                · rw [if_neg c19] at H
                  have c19b0 : (a0 == 45) = false := beq_eq_false_iff_ne.mpr c19
                  have c19b1 : (a0 != 45) = true := bne_iff_ne.mpr c19
                  by_cases c20 : a0 = 58
                  · rw [if_pos c20] at H
                    have c20b0 : (a0 == 58) = true := beq_iff_eq.mpr c20
                    have c20b1 : (a0 != 58) = false := bne_eq_false_iff_eq.mpr c20
                    clear c20
                    obtain rfl := Option.some.inj H
                    go_enter Tryz.func85, Tryz.ntmps85
                    go_wp2
                    go_ret
                    exact ⟨by first | rfl | (simp; done) | (simp [*]; done), by repeat (first | exact Drawn0.refl _ | apply Drawn0.step)⟩
                  · rw [if_neg c20] at H
                    have c20b0 : (a0 == 58) = false := beq_eq_false_iff_ne.mpr c20
                    have c20b1 : (a0 != 58) = true := bne_iff_ne.mpr c20
                    by_cases c21 : a0 = 94
                    · rw [if_pos c21] at H
                      have c21b0 : (a0 == 94) = true := beq_iff_eq.mpr c21
                      have c21b1 : (a0 != 94) = false := bne_eq_false_iff_eq.mpr c21
                      clear c21
                      obtain rfl := Option.some.inj H
                      go_enter Tryz.func85, Tryz.ntmps85
                      go_wp2
                      go_ret
                      exact ⟨by first | rfl | (simp; done) | (simp [*]; done), by repeat (first | exact Drawn0.refl _ | apply Drawn0.step)⟩
                    · rw [if_neg c21] at H
                      have c21b0 : (a0 == 94) = false := beq_eq_false_iff_ne.mpr c21
                      have c21b1 : (a0 != 94) = true := bne_iff_ne.mpr c21
                      by_cases c22 : a0 = 43
                      · rw [if_pos c22] at H
                        have c22b0 : (a0 == 43) = true := beq_iff_eq.mpr c22
                        have c22b1 : (a0 != 43) = false := bne_eq_false_iff_eq.mpr c22
                        clear c22
                        obtain rfl := Option.some.inj H
                        go_enter Tryz.func85, Tryz.ntmps85
                        go_wp2
                        go_ret
                        exact ⟨by first | rfl | (simp; done) | (simp [*]; done), by repeat (first | exact Drawn0.refl _ | apply Drawn0.step)⟩
                      · rw [if_neg c22] at H
                        have c22b0 : (a0 == 43) = false := beq_eq_false_iff_ne.mpr c22
                        have c22b1 : (a0 != 43) = true := bne_iff_ne.mpr c22
                        by_cases c23 : a0 = 91
                        · rw [if_pos c23] at H
                          have c23b0 : (a0 == 91) = true := beq_iff_eq.mpr c23
                          have c23b1 : (a0 != 91) = false := bne_eq_false_iff_eq.mpr c23
                          clear c23
                          obtain rfl := Option.some.inj H
                          go_enter Tryz.func85, Tryz.ntmps85
                          go_wp2
                          go_ret
                          exact ⟨by first | rfl | (simp; done) | (simp [*]; done), by repeat (first | exact Drawn0.refl _ | apply Drawn0.step)⟩
                        · rw [if_neg c23] at H
                          have c23b0 : (a0 == 91) = false := beq_eq_false_iff_ne.mpr c23
                          have c23b1 : (a0 != 91) = true := bne_iff_ne.mpr c23
                          by_cases c24 : a0 = 93
                          · rw [if_pos c24] at H
                            have c24b0 : (a0 == 93) = true := beq_iff_eq.mpr c24
                            have c24b1 : (a0 != 93) = false := bne_eq_false_iff_eq.mpr c24
                            clear c24
                            obtain rfl := Option.some.inj H
                            go_enter Tryz.func85, Tryz.ntmps85
                            go_wp2
                            go_ret
                            exact ⟨by first | rfl | (simp; done) | (simp [*]; done), by repeat (first | exact Drawn0.refl _ | apply Drawn0.step)⟩
                          · rw [if_neg c24] at H
                            have c24b0 : (a0 == 93) = false := beq_eq_false_iff_ne.mpr c24
                            have c24b1 : (a0 != 93) = true := bne_iff_ne.mpr c24
                            by_cases c25 : a0 = 40
                            · rw [if_pos c25] at H
                              have c25b0 : (a0 == 40) = true := beq_iff_eq.mpr c25
                              have c25b1 : (a0 != 40) = false := bne_eq_false_iff_eq.mpr c25
                              clear c25
                              obtain rfl := Option.some.inj H
                              go_enter Tryz.func85, Tryz.ntmps85
                              go_wp2
                              go_ret
                              exact ⟨by first | rfl | (simp; done) | (simp [*]; done), by repeat (first | exact Drawn0.refl _ | apply Drawn0.step)⟩
                            · rw [if_neg c25] at H
                              have c25b0 : (a0 == 40) = false := beq_eq_false_iff_ne.mpr c25
                              have c25b1 : (a0 != 40) = true := bne_iff_ne.mpr c25
                              obtain rfl := Option.some.inj H
                              go_enter Tryz.func85, Tryz.ntmps85
                              go_wp2
                              go_ret
                              exact ⟨by first | rfl | (simp; done) | (simp [*]; done), by repeat (first | exact Drawn0.refl _ | apply Drawn0.step)⟩
      · rw [if_neg c4] at H
        have c4b0 : decide (65 ≤ a0) = false := decide_eq_false c4
        clear c4
        by_cases c26 : a0 ≥ 48
        · rw [if_pos c26] at H
          have c26b0 : decide (48 ≤ a0) = true := decide_eq_true c26
          clear c26
          by_cases c27 : a0 ≤ 57
          · rw [if_pos c27] at H
            have c27b0 : decide (a0 ≤ 57) = true := decide_eq_true c27
            clear c27
            obtain rfl := Option.some.inj H
            go_enter Tryz.func85, Tryz.ntmps85
            go_wp2
            go_ret
            exact ⟨by first | rfl | (simp; done) | (simp [*]; done), by repeat (first | exact Drawn0.refl _ | apply Drawn0.step)⟩
          · rw [if_neg c27] at H
            have c27b0 : decide (a0 ≤ 57) = false := decide_eq_false c27
            clear c27
            by_cases c28 : a0 = 46
            · rw [if_pos c28] at H
              have c28b0 : (a0 == 46) = true := beq_iff_eq.mpr c28
              have c28b1 : (a0 != 46) = false := bne_eq_false_iff_eq.mpr c28
              clear c28
              obtain rfl := Option.some.inj H
              go_enter Tryz.func85, Tryz.ntmps85
              go_wp2
              go_ret
              exact ⟨by first | rfl | (simp; done) | (simp [*]; done), by repeat (first | exact Drawn0.refl _ | apply Drawn0.step)⟩
            · rw [if_neg c28] at H
              have c28b0 : (a0 == 46) = false := beq_eq_false_iff_ne.mpr c28
              have c28b1 : (a0 != 46) = true := bne_iff_ne.mpr c28
              by_cases c29 : a0 = 95
              · rw [if_pos c29] at H
                have c29b0 : (a0 == 95) = true := beq_iff_eq.mpr c29
                have c29b1 : (a0 != 95) = false := bne_eq_false_iff_eq.mpr c29
                clear c29
                obtain rfl := Option.some.inj H
                go_enter Tryz.func85, Tryz.ntmps85
                go_wp2
                go_ret
                exact ⟨by first | rfl | (simp; done) | (simp [*]; done), by repeat (first | exact Drawn0.refl _ | apply Drawn0.step)⟩
              · rw [if_neg c29] at H
                have c29b0 : (a0 == 95) = false := beq_eq_false_iff_ne.mpr c29
                have c29b1 : (a0 != 95) = true := bne_iff_ne.mpr c29
                by_cases c30 : a0 = 45
                · rw [if_pos c30] at H
                  have c30b0 : (a0 == 45) = true := beq_iff_eq.mpr c30
                  have c30b1 : (a0 != 45) = false := bne_eq_false_iff_eq.mpr c30
                  clear c30
                  obtain rfl := Option.some.inj H
                  go_enter Tryz.func85, Tryz.ntmps85
                  go_wp2
                  go_ret
                  exact ⟨by first | rfl | (simp; done) | (simp [*]; done), by repeat (first | exact Drawn0.refl _ | apply Drawn0.step)⟩
                · rw [if_neg c30] at H
                  have c30b0 : (a0 == 45) = false := beq_eq_false_iff_ne.mpr c30
                  have c30b1 : (a0 != 45) = true := bne_iff_ne.mpr c30
                  by_cases c31 : a0 = 58
                  · rw [if_pos c31] at H
                    have c31b0 : (a0 == 58) = true := beq_iff_eq.mpr c31
                    have c31b1 : (a0 != 58) = false := bne_eq_false_iff_eq.mpr c31
                    clear c31
                    obtain rfl := Option.some.inj H
                    go_enter Tryz.func85, Tryz.ntmps85
                    go_wp2
                    go_ret
                    exact ⟨by first | rfl | (simp; done) | (simp [*]; done), by repeat (first | exact Drawn0.refl _ | apply Drawn0.step)⟩
                  · rw [if_neg c31] at H
                    have c31b0 : (a0 == 58) = false := beq_eq_false_iff_ne.mpr c31
                    have c31b1 : (a0 != 58) = true := bne_iff_ne.mpr c31
                    by_cases c32 : a0 = 94
                    · rw [if_pos c32] at H
                      have c32b0 : (a0 == 94) = true := beq_iff_eq.mpr c32
                      have c32b1 : (a0 != 94) = false := bne_eq_false_iff_eq.mpr c32
                      clear c32
                      obtain rfl := Option.some.inj H
                      go_enter Tryz.func85, Tryz.ntmps85
                      go_wp2
                      go_ret
                      exact ⟨by first | rfl | (simp; done) | (simp [*]; done), by repeat (first | exact Drawn0.refl _ | apply Drawn0.step)⟩
                    · rw [if_neg c32] at H
                      have c32b0 : (a0 == 94) = false := beq_eq_false_iff_ne.mpr c32
                      have c32b1 : (a0 != 94) = true := bne_iff_ne.mpr c32
                      by_cases c33 : a0 = 43
                      · rw [if_pos c33] at H
                        have c33b0 : (a0 == 43) = true := beq_iff_eq.mpr c33
                        have c33b1 : (a0 != 43) = false := bne_eq_false_iff_eq.mpr c33
                        clear c33
                        obtain rfl := Option.some.inj H
                        go_enter Tryz.func85, Tryz.ntmps85
                        go_wp2
                        go_ret
                        exact ⟨by first | rfl | (simp; done) | (simp [*]; done), by repeat (first | exact Drawn0.refl _ | apply Drawn0.step)⟩
                      · rw [if_neg c33] at H
                        have c33b0 : (a0 == 43) = false := beq_eq_false_iff_ne.mpr c33
                        have c33b1 : (a0 != 43) = true := bne_iff_ne.mpr c33
                        by_cases c34 : a0 = 91
                        · rw [if_pos c34] at H
                          have c34b0 : (a0 == 91) = true := beq_iff_eq.mpr c34
                          have c34b1 : (a0 != 91) = false := bne_eq_false_iff_eq.mpr c34
                          clear c34
                          obtain rfl := Option.some.inj H
                          go_enter Tryz.func85, Tryz.ntmps85
                          go_wp2
                          go_ret
                          exact ⟨by first | rfl | (simp; done) | (simp [*]; done), by repeat (first | exact Drawn0.refl _ | apply Drawn0.step)⟩
                        · rw [if_neg c34] at H
                          have c34b0 : (a0 == 91) = false := beq_eq_false_iff_ne.mpr c34
                          have c34b1 : (a0 != 91) = true := bne_iff_ne.mpr c34
                          by_cases c35 : a0 = 93
                          · rw [if_pos c35] at H
                            have c35b0 : (a0 == 93) = true := beq_iff_eq.mpr c35
                            have c35b1 : (a0 != 93) = false := bne_eq_false_iff_eq.mpr c35
                            clear c35
                            obtain rfl := Option.some.inj H
                            go_enter Tryz.func85, Tryz.ntmps85
                            go_wp2
                            go_ret
                            exact ⟨by first | rfl | (simp; done) | (simp [*]; done), by repeat (first | exact Drawn0.refl _ | apply Drawn0.step)⟩
                          · rw [if_neg c35] at H
                            have c35b0 : (a0 == 93) = false := beq_eq_false_iff_ne.mpr c35
                            have c35b1 : (a0 != 93) = true := bne_iff_ne.mpr c35
                            by_cases c36 : a0 = 40
                            · rw [if_pos c36] at H
                              have c36b0 : (a0 == 40) = true := beq_iff_eq.mpr c36
                              have c36b1 : (a0 != 40) = false := bne_eq_false_iff_eq.mpr c36
                              clear c36
                              obtain rfl := Option.some.inj H
                              go_enter Tryz.func85, Tryz.ntmps85
                              go_wp2
                              go_ret
                              exact ⟨by first | rfl | (simp; done) | (simp [*]; done), by repeat (first | exact Drawn0.refl _ | apply Drawn0.step)⟩
                            · rw [if_neg c36] at H
                              have c36b0 : (a0 == 40) = false := beq_eq_false_iff_ne.mpr c36
                              have c36b1 : (a0 != 40) = true := bne_iff_ne.mpr c36
                              obtain rfl := Option.some.inj H
                              go_enter Tryz.func85, Tryz.ntmps85
                              go_wp2
                              go_ret
                              exact ⟨by first | rfl | (simp; done) | (simp [*]; done), by repeat (first | exact Drawn0.refl _ | apply Drawn0.step)⟩
        · rw [if_neg c26] at H
          have c26b0 : decide (48 ≤ a0) = false := decide_eq_false c26
          clear c26
          by_cases c37 : a0 = 46
          · rw [if_pos c37] at H
            have c37b0 : (a0 == 46) = true := beq_iff_eq.mpr c37
            have c37b1 : (a0 != 46) = false := bne_eq_false_iff_eq.mpr c37
            clear c37
            obtain rfl := Option.some.inj H
            go_enter Tryz.func85, Tryz.ntmps85
            go_wp2
            go_ret
            exact ⟨by first | rfl | (simp; done) | (simp [*]; done), by repeat (first | exact Drawn0.refl _ | apply Drawn0.step)⟩
          · rw [if_neg c37] at H
            have c37b0 : (a0 == 46) = false := beq_eq_false_iff_ne.mpr c37
            have c37b1 : (a0 != 46) = true := bne_iff_ne.mpr c37
            by_cases c38 : a0 = 95
            · rw [if_pos c38] at H
              have c38b0 : (a0 == 95) = true := beq_iff_eq.mpr c38
              have c38b1 : (a0 != 95) = false := bne_eq_false_iff_eq.mpr c38
              clear c38
              obtain rfl := Option.some.inj H
              go_enter Tryz.func85, Tryz.ntmps85
              go_wp2
              go_ret
              exact ⟨by first | rfl | (simp; done) | (simp [*]; done), by repeat (first | exact Drawn0.refl _ | apply Drawn0.step)⟩
            · rw [if_neg c38] at H
              have c38b0 : (a0 == 95) = false := beq_eq_false_iff_ne.mpr c38
              have c38b1 : (a0 != 95) = true := bne_iff_ne.mpr c38
              by_cases c39 : a0 = 45
              · rw [if_pos c39] at H
                have c39b0 : (a0 == 45) = true := beq_iff_eq.mpr c39
                have c39b1 : (a0 != 45) = false := bne_eq_false_iff_eq.mpr c39
                clear c39
                obtain rfl := Option.some.inj H
                go_enter Tryz.func85, Tryz.ntmps85
                go_wp2
                go_ret
                exact ⟨by first | rfl | (simp; done) | (simp [*]; done), by repeat (first | exact Drawn0.refl _ | apply Drawn0.step)⟩
              · rw [if_neg c39] at H
                have c39b0 : (a0 == 45) = false := beq_eq_false_iff_ne.mpr c39
                have c39b1 : (a0 != 45) = true := bne_iff_ne.mpr c39
                by_cases c40 : a0 = 58
                · rw [if_pos c40] at H
                  have c40b0 : (a0 == 58) = true := beq_iff_eq.mpr c40
                  have c40b1 : (a0 != 58) = false := bne_eq_false_iff_eq.mpr c40
                  clear c40
                  obtain rfl := Option.some.inj H
                  go_enter Tryz.func85, Tryz.ntmps85
                  go_wp2
                  go_ret
                  exact ⟨by first | rfl | (simp; done) | (simp [*]; done), by repeat (first | exact Drawn0.refl _ | apply Drawn0.step)⟩
                · rw [if_neg c40] at H
                  have c40b0 : (a0 == 58) = false := beq_eq_false_iff_ne.mpr c40
                  have c40b1 : (a0 != 58) = true := bne_iff_ne.mpr c40
                  by_cases c41 : a0 = 94
                  · rw [if_pos c41] at H
                    have c41b0 : (a0 == 94) = true := beq_iff_eq.mpr c41
                    have c41b1 : (a0 != 94) = false := bne_eq_false_iff_eq.mpr c41
                    clear c41
                    obtain rfl := Option.some.inj H
                    go_enter Tryz.func85, Tryz.ntmps85
                    go_wp2
                    go_ret
                    exact ⟨by first | rfl | (simp; done) | (simp [*]; done), by repeat (first | exact Drawn0.refl _ | apply Drawn0.step)⟩
                  · rw [if_neg c41] at H
                    have c41b0 : (a0 == 94) = false := beq_eq_false_iff_ne.mpr c41
                    have c41b1 : (a0 != 94) = true := bne_iff_ne.mpr c41
                    by_cases c42 : a0 = 43
                    · rw [if_pos c42] at H
                      have c42b0 : (a0 == 43) = true := beq_iff_eq.mpr c42
                      have c42b1 : (a0 != 43) = false := bne_eq_false_iff_eq.mpr c42
                      clear c42
                      obtain rfl := Option.some.inj H
                      go_enter Tryz.func85, Tryz.ntmps85
                      go_wp2
                      go_ret
                      exact ⟨by first | rfl | (simp; done) | (simp [*]; done), by repeat (first | exact Drawn0.refl _ | apply Drawn0.step)⟩
                    · rw [if_neg c42] at H
                      have c42b0 : (a0 == 43) = false := beq_eq_false_iff_ne.mpr c42
                      have c42b1 : (a0 != 43) = true := bne_iff_ne.mpr c42
                      by_cases c43 : a0 = 91
                      · rw [if_pos c43] at H
                        have c43b0 : (a0 == 91) = true := beq_iff_eq.mpr c43
                        have c43b1 : (a0 != 91) = false := bne_eq_false_iff_eq.mpr c43
                        clear c43
                        obtain rfl := Option.some.inj H
                        go_enter Tryz.func85, Tryz.ntmps85
                        go_wp2
                        go_ret
                        exact ⟨by first | rfl | (simp; done) | (simp [*]; done), by repeat (first | exact Drawn0.refl _ | apply Drawn0.step)⟩
                      · rw [if_neg c43] at H
                        have c43b0 : (a0 == 91) = false := beq_eq_false_iff_ne.mpr c43
                        have c43b1 : (a0 != 91) = true := bne_iff_ne.mpr c43
                        by_cases c44 : a0 = 93
                        · rw [if_pos c44] at H
                          have c44b0 : (a0 == 93) = true := beq_iff_eq.mpr c44
                          have c44b1 : (a0 != 93) = false := bne_eq_false_iff_eq.mpr c44
                          clear c44
                          obtain rfl := Option.some.inj H
                          go_enter Tryz.func85, Tryz.ntmps85
                          go_wp2
                          go_ret
                          exact ⟨by first | rfl | (simp; done) | (simp [*]; done), by repeat (first | exact Drawn0.refl _ | apply Drawn0.step)⟩
                        · rw [if_neg c44] at H
                          have c44b0 : (a0 == 93) = false := beq_eq_false_iff_ne.mpr c44
                          have c44b1 : (a0 != 93) = true := bne_iff_ne.mpr c44
                          by_cases c45 : a0 = 40
                          · rw [if_pos c45] at H
                            have c45b0 : (a0 == 40) = true := beq_iff_eq.mpr c45
                            have c45b1 : (a0 != 40) = false := bne_eq_false_iff_eq.mpr c45
                            clear c45
                            obtain rfl := Option.some.inj H
                            go_enter Tryz.func85, Tryz.ntmps85
                            go_wp2
                            go_ret
                            exact ⟨by first | rfl | (simp; done) | (simp [*]; done), by repeat (first | exact Drawn0.refl _ | apply Drawn0.step)⟩
                          · rw [if_neg c45] at H
                            have c45b0 : (a0 == 40) = false := beq_eq_false_iff_ne.mpr c45
                            have c45b1 : (a0 != 40) = true := bne_iff_ne.mpr c45
                            obtain rfl := Option.some.inj H
                            go_enter Tryz.func85, Tryz.ntmps85
                            go_wp2
                            go_ret
                            exact ⟨by first | rfl | (simp; done) | (simp [*]; done), by repeat (first | exact Drawn0.refl _ | apply Drawn0.step)⟩
  · rw [if_neg c2] at H
    have c2b0 : decide (97 ≤ a0) = false := decide_eq_false c2
    clear c2
    by_cases c46 : a0 ≥ 65
    · rw [if_pos c46] at H
      have c46b0 : decide (65 ≤ a0) = true := decide_eq_true c46
      clear c46
      by_cases c47 : a0 ≤ 90
      · rw [if_pos c47] at H
        have c47b0 : decide (a0 ≤ 90) = true := decide_eq_true c47
        clear c47
        obtain rfl := Option.some.inj H
        go_enter Tryz.func85, Tryz.ntmps85
        go_wp2
        go_ret
        exact ⟨by first | rfl | (simp; done) | (simp [*]; done), by repeat (first | exact Drawn0.refl _ | apply Drawn0.step)⟩
      · rw [if_neg c47] at H
        have c47b0 : decide (a0 ≤ 90) = false := decide_eq_false c47
        clear c47
        by_cases c48 : a0 ≥ 48
        · rw [if_pos c48] at H
          have c48b0 : decide (48 ≤ a0) = true := decide_eq_true c48
          clear c48
          by_cases c49 : a0 ≤ 57
          · rw [if_pos c49] at H
            have c49b0 : decide (a0 ≤ 57) = true := decide_eq_true c49
            clear c49
            obtain rfl := Option.some.inj H
            go_enter Tryz.func85, Tryz.ntmps85
            go_wp2
            go_ret
            exact ⟨by first | rfl | (simp; done) | (simp [*]; done), by repeat (first | exact Drawn0.refl _ | apply Drawn0.step)⟩
          · rw [if_neg c49] at H
            have c49b0 : decide (a0 ≤ 57) = false := decide_eq_false c49
            clear c49
            by_cases c50 : a0 = 46
            · rw [if_pos c50] at H
              have c50b0 : (a0 == 46) = true := beq_iff_eq.mpr c50
              have c50b1 : (a0 != 46) = false := bne_eq_false_iff_eq.mpr c50
              clear c50
              obtain rfl := Option.some.inj H
              go_enter Tryz.func85, Tryz.ntmps85
              go_wp2
              go_ret
              exact ⟨by first | rfl | (simp; done) | (simp [*]; done), by repeat (first | exact Drawn0.refl _ | apply Drawn0.step)⟩
            · rw [if_neg c50] at H
              have c50b0 : (a0 == 46) = false := beq_eq_false_iff_ne.mpr c50
              have c50b1 : (a0 != 46) = true := bne_iff_ne.mpr c50
              by_cases c51 : a0 = 95
              · rw [if_pos c51] at H
                have c51b0 : (a0 == 95) = true := beq_iff_eq.mpr c51
                have c51b1 : (a0 != 95) = false := bne_eq_false_iff_eq.mpr c51
                clear c51
                obtain rfl := Option.some.inj H
                go_enter Tryz.func85, Tryz.ntmps85
                go_wp2
                go_ret
                exact ⟨by first | rfl | (simp; done) | (simp [*]; done), by repeat (first | exact Drawn0.refl _ | apply Drawn0.step)⟩
              · rw [if_neg c51] at H
                have c51b0 : (a0 == 95) = false := beq_eq_false_iff_ne.mpr c51
                have c51b1 : (a0 != 95) = true := bne_iff_ne.mpr c51
                by_cases c52 : a0 = 45
                · rw [if_pos c52] at H
                  have c52b0 : (a0 == 45) = true := beq_iff_eq.mpr c52
                  have c52b1 : (a0 != 45) = false := bne_eq_false_iff_eq.mpr c52
                  clear c52
                  obtain rfl := Option.some.inj H
                  go_enter Tryz.func85, Tryz.ntmps85
                  go_wp2
                  go_ret
                  exact ⟨by first | rfl | (simp; done) | (simp [*]; done), by repeat (first | exact Drawn0.refl _ | apply Drawn0.step)⟩
                · rw [if_neg c52] at H
                  have c52b0 : (a0 == 45) = false := beq_eq_false_iff_ne.mpr c52
                  have c52b1 : (a0 != 45) = true := bne_iff_ne.mpr c52
                  by_cases c53 : a0 = 58
                  · rw [if_pos c53] at H
                    have c53b0 : (a0 == 58) = true := beq_iff_eq.mpr c53
                    have c53b1 : (a0 != 58) = false := bne_eq_false_iff_eq.mpr c53
                    clear c53
                    obtain rfl := Option.some.inj H
                    go_enter Tryz.func85, Tryz.ntmps85
                    go_wp2
                    go_ret
                    exact ⟨by first | rfl | (simp; done) | (simp [*]; done), by repeat (first | exact Drawn0.refl _ | apply Drawn0.step)⟩
                  · rw [if_neg c53] at H
                    have c53b0 : (a0 == 58) = false := beq_eq_false_iff_ne.mpr c53
                    have c53b1 : (a0 != 58) = true := bne_iff_ne.mpr c53
                    by_cases c54 : a0 = 94
                    · rw [if_pos c54] at H
                      have c54b0 : (a0 == 94) = true := beq_iff_eq.mpr c54
                      have c54b1 : (a0 != 94) = false := bne_eq_false_iff_eq.mpr c54
                      clear c54
                      obtain rfl := Option.some.inj H
                      go_enter Tryz.func85, Tryz.ntmps85
                      go_wp2
                      go_ret
                      exact ⟨by first | rfl | (simp; done) | (simp [*]; done), by repeat (first | exact Drawn0.refl _ | apply Drawn0.step)⟩
                    · rw [if_neg c54] at H
                      have c54b0 : (a0 == 94) = false := beq_eq_false_iff_ne.mpr c54
                      have c54b1 : (a0 != 94) = true := bne_iff_ne.mpr c54
                      by_cases c55 : a0 = 43
                      · rw [if_pos c55] at H
                        have c55b0 : (a0 == 43) = true := beq_iff_eq.mpr c55
                        have c55b1 : (a0 != 43) = false := bne_eq_false_iff_eq.mpr c55
                        clear c55
                        obtain rfl := Option.some.inj H
                        go_enter Tryz.func85, Tryz.ntmps85
                        go_wp2
                        go_ret
                        exact ⟨by first | rfl | (simp; done) | (simp [*]; done), by repeat (first | exact Drawn0.refl _ | apply Drawn0.step)⟩
                      · rw [if_neg c55] at H
                        have c55b0 : (a0 == 43) = false := beq_eq_false_iff_ne.mpr c55
                        have c55b1 : (a0 != 43) = true := bne_iff_ne.mpr c55
                        by_cases c56 : a0 = 91
                        · rw [if_pos c56] at H
                          have c56b0 : (a0 == 91) = true := beq_iff_eq.mpr c56
                          have c56b1 : (a0 != 91) = false := bne_eq_false_iff_eq.mpr c56
                          clear c56
                          obtain rfl := Option.some.inj H
                          go_enter Tryz.func85, Tryz.ntmps85
                          go_wp2
                          go_ret
                          exact ⟨by first | rfl | (simp; done) | (simp [*]; done), by repeat (first | exact Drawn0.refl _ | apply Drawn0.step)⟩
                        · rw [if_neg c56] at H
                          have c56b0 : (a0 == 91) = false := beq_eq_false_iff_ne.mpr c56
                          have c56b1 : (a0 != 91) = true := bne_iff_ne.mpr c56
                          by_cases c57 : a0 = 93
                          · rw [if_pos c57] at H
                            have c57b0 : (a0 == 93) = true := beq_iff_eq.mpr c57
                            have c57b1 : (a0 != 93) = false := bne_eq_false_iff_eq.mpr c57
                            clear c57
                            obtain rfl := Option.some.inj H
                            go_enter Tryz.func85, Tryz.ntmps85
                            go_wp2
                            go_ret
                            exact ⟨by first | rfl | (simp; done) | (simp [*]; done), by repeat (first | exact Drawn0.refl _ | apply Drawn0.step)⟩
                          · rw [if_neg c57] at H
                            have c57b0 : (a0 == 93) = false := beq_eq_false_iff_ne.mpr c57
                            have c57b1 : (a0 != 93) = true := bne_iff_ne.mpr c57
                            by_cases c58 : a0 = 40
                            · rw [if_pos c58] at H
                              have c58b0 : (a0 == 40) = true := beq_iff_eq.mpr c58
                              have c58b1 : (a0 != 40) = false := bne_eq_false_iff_eq.mpr c58
                              clear c58
                              obtain rfl := Option.some.inj H
                              go_enter Tryz.func85, Tryz.ntmps85
                              go_wp2
                              go_ret
                              exact ⟨by first | rfl | (simp; done) | (simp [*]; done), by repeat (first | exact Drawn0.refl _ | apply Drawn0.step)⟩
                            · rw [if_neg c58] at H
                              have c58b0 : (a0 == 40) = false := beq_eq_false_iff_ne.mpr c58
                              have c58b1 : (a0 != 40) = true := bne_iff_ne.mpr c58
                              obtain rfl := Option.some.inj H
                              go_enter Tryz.func85, Tryz.ntmps85
                              go_wp2
                              go_ret
                              exact ⟨by first | rfl | (simp; done) | (simp [*]; done), by repeat (first | exact Drawn0.refl _ | apply Drawn0.step)⟩
        · rw [if_neg c48] at H
          have c48b0 : decide (48 ≤ a0) = false := decide_eq_false c48
          clear c48
          by_cases c59 : a0 = 46
          · rw [if_pos c59] at H
            have c59b0 : (a0 == 46) = true := beq_iff_eq.mpr c59
            have c59b1 : (a0 != 46) = false := bne_eq_false_iff_eq.mpr c59
            clear c59
            obtain rfl := Option.some.inj H
            go_enter Tryz.func85, Tryz.ntmps85
            go_wp2
            go_ret
            exact ⟨by first | rfl | (simp; done) | (simp [*]; done), by repeat (first | exact Drawn0.refl _ | apply Drawn0.step)⟩
          · rw [if_neg c59] at H
            have c59b0 : (a0 == 46) = false := beq_eq_false_iff_ne.mpr c59
            have c59b1 : (a0 != 46) = true := bne_iff_ne.mpr c59
            by_cases c60 : a0 = 95
            · rw [if_pos c60] at H
              have c60b0 : (a0 == 95) = true := beq_iff_eq.mpr c60
              have c60b1 : (a0 != 95) = false := bne_eq_false_iff_eq.mpr c60
              clear c60
              obtain rfl := Option.some.inj H
              go_enter Tryz.func85, Tryz.ntmps85
              go_wp2
              go_ret
              exact ⟨by first | rfl | (simp; done) | (simp [*]; done), by repeat (first | exact Drawn0.refl _ | apply Drawn0.step)⟩
            · rw [if_neg c60] at H
              have c60b0 : (a0 == 95) = false := beq_eq_false_iff_ne.mpr c60
              have c60b1 : (a0 != 95) = true := bne_iff_ne.mpr c60
              by_cases c61 : a0 = 45
              · rw [if_pos c61] at H
                have c61b0 : (a0 == 45) = true := beq_iff_eq.mpr c61
                have c61b1 : (a0 != 45) = false := bne_eq_false_iff_eq.mpr c61
                clear c61
                obtain rfl := Option.some.inj H
                go_enter Tryz.func85, Tryz.ntmps85
                go_wp2
                go_ret
                exact ⟨by first | rfl | (simp; done) | (simp [*]; done), by repeat (first | exact Drawn0.refl _ | apply Drawn0.step)⟩
              · rw [if_neg c61] at H
                have c61b0 : (a0 == 45) = false := beq_eq_false_iff_ne.mpr c61
                have c61b1 : (a0 != 45) = true := bne_iff_ne.mpr c61
                by_cases c62 : a0 = 58
                · rw [if_pos c62] at H
                  have c62b0 : (a0 == 58) = true := beq_iff_eq.mpr c62
                  have c62b1 : (a0 != 58) = false := bne_eq_false_iff_eq.mpr c62
                  clear c62
                  obtain rfl := Option.some.inj H
                  go_enter Tryz.func85, Tryz.ntmps85
                  go_wp2
                  go_ret
                  exact ⟨by first | rfl | (simp; done) | (simp [*]; done), by repeat (first | exact Drawn0.refl _ | apply Drawn0.step)⟩
                · rw [if_neg c62] at H
                  have c62b0 : (a0 == 58) = false := beq_eq_false_iff_ne.mpr c62
                  have c62b1 : (a0 != 58) = true := bne_iff_ne.mpr c62
                  by_cases c63 : a0 = 94
                  · rw [if_pos c63] at H
                    have c63b0 : (a0 == 94) = true := beq_iff_eq.mpr c63
                    have c63b1 : (a0 != 94) = false := bne_eq_false_iff_eq.mpr c63
                    clear c63
                    obtain rfl := Option.some.inj H
                    go_enter Tryz.func85, Tryz.ntmps85
                    go_wp2
                    go_ret
                    exact ⟨by first | rfl | (simp; done) | (simp [*]; done), by repeat (first | exact Drawn0.refl _ | apply Drawn0.step)⟩
                  · rw [if_neg c63] at H
                    have c63b0 : (a0 == 94) = false := beq_eq_false_iff_ne.mpr c63
                    have c63b1 : (a0 != 94) = true := bne_iff_ne.mpr c63
                    by_cases c64 : a0 = 43
                    · rw [if_pos c64] at H
                      have c64b0 : (a0 == 43) = true := beq_iff_eq.mpr c64
                      have c64b1 : (a0 != 43) = false := bne_eq_false_iff_eq.mpr c64
                      clear c64
                      obtain rfl := Option.some.inj H
                      go_enter Tryz.func85, Tryz.ntmps85
                      go_wp2
                      go_ret
                      exact ⟨by first | rfl | (simp; done) | (simp [*]; done), by repeat (first | exact Drawn0.refl _ | apply Drawn0.step)⟩
                    · rw [if_neg c64] at H
                      have c64b0 : (a0 == 43) = false := beq_eq_false_iff_ne.mpr c64
                      have c64b1 : (a0 != 43) = true := bne_iff_ne.mpr c64
                      by_cases c65 : a0 = 91
                      · rw [if_pos c65] at H
                        have c65b0 : (a0 == 91) = true := beq_iff_eq.mpr c65
                        have c65b1 : (a0 != 91) = false := bne_eq_false_iff_eq.mpr c65
                        clear c65
                        obtain rfl := Option.some.inj H
                        go_enter Tryz.func85, Tryz.ntmps85
                        go_wp2
                        go_ret
                        exact ⟨by first | rfl | (simp; done) | (simp [*]; done), by repeat (first | exact Drawn0.refl _ | apply Drawn0.step)⟩
                      · rw [if_neg c65] at H
                        have c65b0 : (a0 == 91) = false := beq_eq_false_iff_ne.mpr c65
                        have c65b1 : (a0 != 91) = true := bne_iff_ne.mpr c65
                        by_cases c66 : a0 = 93
                        · rw [if_pos c66] at H
                          have c66b0 : (a0 == 93) = true := beq_iff_eq.mpr c66
                          have c66b1 : (a0 != 93) = false := bne_eq_false_iff_eq.mpr c66
                          clear c66
                          obtain rfl := Option.some.inj H
                          go_enter Tryz.func85, Tryz.ntmps85
                          go_wp2
                          go_ret
                          exact ⟨by first | rfl | (simp; done) | (simp [*]; done), by repeat (first | exact Drawn0.refl _ | apply Drawn0.step)⟩
                        · rw [if_neg c66] at H
                          have c66b0 : (a0 == 93) = false := beq_eq_false_iff_ne.mpr c66
                          have c66b1 : (a0 != 93) = true := bne_iff_ne.mpr c66
                          by_cases c67 : a0 = 40
                          · rw [if_pos c67] at H
                            have c67b0 : (a0 == 40) = true := beq_iff_eq.mpr c67
                            have c67b1 : (a0 != 40) = false := bne_eq_false_iff_eq.mpr c67
                            clear c67
                            obtain rfl := Option.some.inj H
                            go_enter Tryz.func85, Tryz.ntmps85
                            go_wp2
                            go_ret
                            exact ⟨by first | rfl | (simp; done) | (simp [*]; done), by repeat (first | exact Drawn0.refl _ | apply Drawn0.step)⟩
                          · rw [if_neg c67] at H
                            have c67b0 : (a0 == 40) = false := beq_eq_false_iff_ne.mpr c67
                            have c67b1 : (a0 != 40) = true := bne_iff_ne.mpr c67
                            obtain rfl := Option.some.inj H
                            go_enter Tryz.func85, Tryz.ntmps85
                            go_wp2
                            go_ret
                            exact ⟨by first | rfl | (simp; done) | (simp [*]; done), by repeat (first | exact Drawn0.refl _ | apply Drawn0.step)⟩
    · rw [if_neg c46] at H
      have c46b0 : decide (65 ≤ a0) = false := decide_eq_false c46
      clear c46
      by_cases c68 : a0 ≥ 48
      · rw [if_pos c68] at H
        have c68b0 : decide (48 ≤ a0) = true := decide_eq_true c68
        clear c68
        by_cases c69 : a0 ≤ 57
        · rw [if_pos c69] at H
          have c69b0 : decide (a0 ≤ 57) = true := decide_eq_true c69
          clear c69
          obtain rfl := Option.some.inj H
          go_enter Tryz.func85, Tryz.ntmps85
          go_wp2
          go_ret
          exact ⟨by first | rfl | (simp; done) | (simp [*]; done), by repeat (first | exact Drawn0.refl _ | apply Drawn0.step)⟩
        · rw [if_neg c69] at H
          have c69b0 : decide (a0 ≤ 57) = false := decide_eq_false c69
          clear c69
          by_cases c70 : a0 = 46
          · rw [if_pos c70] at H
            have c70b0 : (a0 == 46) = true := beq_iff_eq.mpr c70
            have c70b1 : (a0 != 46) = false := bne_eq_false_iff_eq.mpr c70
            clear c70
            obtain rfl := Option.some.inj H
            go_enter Tryz.func85, Tryz.ntmps85
            go_wp2
            go_ret
            exact ⟨by first | rfl | (simp; done) | (simp [*]; done), by repeat (first | exact Drawn0.refl _ | apply Drawn0.step)⟩
          · rw [if_neg c70] at H
            have c70b0 : (a0 == 46) = false := beq_eq_false_iff_ne.mpr c70
            have c70b1 : (a0 != 46) = true := bne_iff_ne.mpr c70
            by_cases c71 : a0 = 95
            · rw [if_pos c71] at H
              have c71b0 : (a0 == 95) = true := beq_iff_eq.mpr c71
              have c71b1 : (a0 != 95) = false := bne_eq_false_iff_eq.mpr c71
              clear c71
              obtain rfl := Option.some.inj H
              go_enter Tryz.func85, Tryz.ntmps85
              go_wp2
              go_ret
              exact ⟨by first | rfl | (simp; done) | (simp [*]; done), by repeat (first | exact Drawn0.refl _ | apply Drawn0.step)⟩
            · rw [if_neg c71] at H
              have c71b0 : (a0 == 95) = false := beq_eq_false_iff_ne.mpr c71
              have c71b1 : (a0 != 95) = true := bne_iff_ne.mpr c71
              by_cases c72 : a0 = 45
              · rw [if_pos c72] at H
                have c72b0 : (a0 == 45) = true := beq_iff_eq.mpr c72
                have c72b1 : (a0 != 45) = false := bne_eq_false_iff_eq.mpr c72
                clear c72
                obtain rfl := Option.some.inj H
                go_enter Tryz.func85, Tryz.ntmps85
                go_wp2
                go_ret
                exact ⟨by first | rfl | (simp; done) | (simp [*]; done), by repeat (first | exact Drawn0.refl _ | apply Drawn0.step)⟩
              · rw [if_neg c72] at H
                have c72b0 : (a0 == 45) = false := beq_eq_false_iff_ne.mpr c72
                have c72b1 : (a0 != 45) = true := bne_iff_ne.mpr c72
                by_cases c73 : a0 = 58
                · rw [if_pos c73] at H
                  have c73b0 : (a0 == 58) = true := beq_iff_eq.mpr c73
                  have c73b1 : (a0 != 58) = false := bne_eq_false_iff_eq.mpr c73
                  clear c73
                  obtain rfl := Option.some.inj H
                  go_enter Tryz.func85, Tryz.ntmps85
                  go_wp2
                  go_ret
                  exact ⟨by first | rfl | (simp; done) | (simp [*]; done), by repeat (first | exact Drawn0.refl _ | apply Drawn0.step)⟩
                · rw [if_neg c73] at H
                  have c73b0 : (a0 == 58) = false := beq_eq_false_iff_ne.mpr c73
                  have c73b1 : (a0 != 58) = true := bne_iff_ne.mpr c73
                  by_cases c74 : a0 = 94
                  · rw [if_pos c74] at H
                    have c74b0 : (a0 == 94) = true := beq_iff_eq.mpr c74
                    have c74b1 : (a0 != 94) = false := bne_eq_false_iff_eq.mpr c74
                    clear c74
                    obtain rfl := Option.some.inj H
                    go_enter Tryz.func85, Tryz.ntmps85
                    go_wp2
                    go_ret
                    exact ⟨by first | rfl | (simp; done) | (simp [*]; done), by repeat (first | exact Drawn0.refl _ | apply Drawn0.step)⟩
                  · rw [if_neg c74] at H
                    have c74b0 : (a0 == 94) = false := beq_eq_false_iff_ne.mpr c74
                    have c74b1 : (a0 != 94) = true := bne_iff_ne.mpr c74
                    by_cases c75 : a0 = 43
                    · rw [if_pos c75] at H
                      have c75b0 : (a0 == 43) = true := beq_iff_eq.mpr c75
                      have c75b1 : (a0 != 43) = false := bne_eq_false_iff_eq.mpr c75
                      clear c75
                      obtain rfl := Option.some.inj H
                      go_enter Tryz.func85, Tryz.ntmps85
                      go_wp2
                      go_ret
                      exact ⟨by first | rfl | (simp; done) | (simp [*]; done), by repeat (first | exact Drawn0.refl _ | apply Drawn0.step)⟩
                    · rw [if_neg c75] at H
                      have c75b0 : (a0 == 43) = false := beq_eq_false_iff_ne.mpr c75
                      have c75b1 : (a0 != 43) = true := bne_iff_ne.mpr c75
                      by_cases c76 : a0 = 91
                      · rw [if_pos c76] at H
                        have c76b0 : (a0 == 91) = true := beq_iff_eq.mpr c76
                        have c76b1 : (a0 != 91) = false := bne_eq_false_iff_eq.mpr c76
                        clear c76
                        obtain rfl := Option.some.inj H
                        go_enter Tryz.func85, Tryz.ntmps85
                        go_wp2
                        go_ret
                        exact ⟨by first | rfl | (simp; done) | (simp [*]; done), by repeat (first | exact Drawn0.refl _ | apply Drawn0.step)⟩
                      · rw [if_neg c76] at H
                        have c76b0 : (a0 == 91) = false := beq_eq_false_iff_ne.mpr c76
                        have c76b1 : (a0 != 91) = true := bne_iff_ne.mpr c76
                        by_cases c77 : a0 = 93
                        · rw [if_pos c77] at H
                          have c77b0 : (a0 == 93) = true := beq_iff_eq.mpr c77
                          have c77b1 : (a0 != 93) = false := bne_eq_false_iff_eq.mpr c77
                          clear c77
                          obtain rfl := Option.some.inj H
                          go_enter Tryz.func85, Tryz.ntmps85
                          go_wp2
                          go_ret
                          exact ⟨by first | rfl | (simp; done) | (simp [*]; done), by repeat (first | exact Drawn0.refl _ | apply Drawn0.step)⟩
                        · rw [if_neg c77] at H
                          have c77b0 : (a0 == 93) = false := beq_eq_false_iff_ne.mpr c77
                          have c77b1 : (a0 != 93) = true := bne_iff_ne.mpr c77
                          by_cases c78 : a0 = 40
                          · rw [if_pos c78] at H
                            have c78b0 : (a0 == 40) = true := beq_iff_eq.mpr c78
                            have c78b1 : (a0 != 40) = false := bne_eq_false_iff_eq.mpr c78
                            clear c78
                            obtain rfl := Option.some.inj H
                            go_enter Tryz.func85, Tryz.ntmps85
                            go_wp2
                            go_ret
                            exact ⟨by first | rfl | (simp; done) | (simp [*]; done), by repeat (first | exact Drawn0.refl _ | apply Drawn0.step)⟩
                          · rw [if_neg c78] at H
                            have c78b0 : (a0 == 40) = false := beq_eq_false_iff_ne.mpr c78
                            have c78b1 : (a0 != 40) = true := bne_iff_ne.mpr c78
                            obtain rfl := Option.some.inj H
                            go_enter Tryz.func85, Tryz.ntmps85
                            go_wp2
                            go_ret
                            exact ⟨by first | rfl | (simp; done) | (simp [*]; done), by repeat (first | exact Drawn0.refl _ | apply Drawn0.step)⟩
      · rw [if_neg c68] at H
        have c68b0 : decide (48 ≤ a0) = false := decide_eq_false c68
        clear c68
        by_cases c79 : a0 = 46
        · rw [if_pos c79] at H
          have c79b0 : (a0 == 46) = true := beq_iff_eq.mpr c79
          have c79b1 : (a0 != 46) = false := bne_eq_false_iff_eq.mpr c79
          clear c79
          obtain rfl := Option.some.inj H
          go_enter Tryz.func85, Tryz.ntmps85
          go_wp2
          go_ret
          exact ⟨by first | rfl | (simp; done) | (simp [*]; done), by repeat (first | exact Drawn0.refl _ | apply Drawn0.step)⟩
        · rw [if_neg c79] at H
          have c79b0 : (a0 == 46) = false := beq_eq_false_iff_ne.mpr c79
          have c79b1 : (a0 != 46) = true := bne_iff_ne.mpr c79
          by_cases c80 : a0 = 95
          · rw [if_pos c80] at H
            have c80b0 : (a0 == 95) = true := beq_iff_eq.mpr c80
            have c80b1 : (a0 != 95) = false := bne_eq_false_iff_eq.mpr c80
            clear c80
            obtain rfl := Option.some.inj H
            go_enter Tryz.func85, Tryz.ntmps85
            go_wp2
            go_ret
            exact ⟨by first | rfl | (simp; done) | (simp [*]; done), by repeat (first | exact Drawn0.refl _ | apply Drawn0.step)⟩
          · rw [if_neg c80] at H
            have c80b0 : (a0 == 95) = false := beq_eq_false_iff_ne.mpr c80
            have c80b1 : (a0 != 95) = true := bne_iff_ne.mpr c80
            by_cases c81 : a0 = 45
            · rw [if_pos c81] at H
              have c81b0 : (a0 == 45) = true := beq_iff_eq.mpr c81
              have c81b1 : (a0 != 45) = false := bne_eq_false_iff_eq.mpr c81
              clear c81
              obtain rfl := Option.some.inj H
              go_enter Tryz.func85, Tryz.ntmps85
              go_wp2
              go_ret
              exact ⟨by first | rfl | (simp; done) | (simp [*]; done), by repeat (first | exact Drawn0.refl _ | apply Drawn0.step)⟩
            · rw [if_neg c81] at H
              have c81b0 : (a0 == 45) = false := beq_eq_false_iff_ne.mpr c81
              have c81b1 : (a0 != 45) = true := bne_iff_ne.mpr c81
              by_cases c82 : a0 = 58
              · rw [if_pos c82] at H
                have c82b0 : (a0 == 58) = true := beq_iff_eq.mpr c82
                have c82b1 : (a0 != 58) = false := bne_eq_false_iff_eq.mpr c82
                clear c82
                obtain rfl := Option.some.inj H
                go_enter Tryz.func85, Tryz.ntmps85
                go_wp2
                go_ret
                exact ⟨by first | rfl | (simp; done) | (simp [*]; done), by repeat (first | exact Drawn0.refl _ | apply Drawn0.step)⟩
              · rw [if_neg c82] at H
                have c82b0 : (a0 == 58) = false := beq_eq_false_iff_ne.mpr c82
                have c82b1 : (a0 != 58) = true := bne_iff_ne.mpr c82
                by_cases c83 : a0 = 94
                · rw [if_pos c83] at H
                  have c83b0 : (a0 == 94) = true := beq_iff_eq.mpr c83
                  have c83b1 : (a0 != 94) = false := bne_eq_false_iff_eq.mpr c83
                  clear c83
                  obtain rfl := Option.some.inj H
                  go_enter Tryz.func85, Tryz.ntmps85
                  go_wp2
                  go_ret
                  exact ⟨by first | rfl | (simp; done) | (simp [*]; done), by repeat (first | exact Drawn0.refl _ | apply Drawn0.step)⟩
                · rw [if_neg c83] at H
                  have c83b0 : (a0 == 94) = false := beq_eq_false_iff_ne.mpr c83
                  have c83b1 : (a0 != 94) = true := bne_iff_ne.mpr c83
                  by_cases c84 : a0 = 43
                  · rw [if_pos c84] at H
                    have c84b0 : (a0 == 43) = true := beq_iff_eq.mpr c84
                    have c84b1 : (a0 != 43) = false := bne_eq_false_iff_eq.mpr c84
                    clear c84
                    obtain rfl := Option.some.inj H
                    go_enter Tryz.func85, Tryz.ntmps85
                    go_wp2
                    go_ret
                    exact ⟨by first | rfl | (simp; done) | (simp [*]; done), by repeat (first | exact Drawn0.refl _ | apply Drawn0.step)⟩
                  · rw [if_neg c84] at H
                    have c84b0 : (a0 == 43) = false := beq_eq_false_iff_ne.mpr c84
                    have c84b1 : (a0 != 43) = true := bne_iff_ne.mpr c84
                    by_cases c85 : a0 = 91
                    · rw [if_pos c85] at H
                      have c85b0 : (a0 == 91) = true := beq_iff_eq.mpr c85
                      have c85b1 : (a0 != 91) = false := bne_eq_false_iff_eq.mpr c85
                      clear c85
                      obtain rfl := Option.some.inj H
                      go_enter Tryz.func85, Tryz.ntmps85
                      go_wp2
                      go_ret
                      exact ⟨by first | rfl | (simp; done) | (simp [*]; done), by repeat (first | exact Drawn0.refl _ | apply Drawn0.step)⟩
                    · rw [if_neg c85] at H
                      have c85b0 : (a0 == 91) = false := beq_eq_false_iff_ne.mpr c85
                      have c85b1 : (a0 != 91) = true := bne_iff_ne.mpr c85
                      by_cases c86 : a0 = 93
                      · rw [if_pos c86] at H
                        have c86b0 : (a0 == 93) = true := beq_iff_eq.mpr c86
                        have c86b1 : (a0 != 93) = false := bne_eq_false_iff_eq.mpr c86
                        clear c86
                        obtain rfl := Option.some.inj H
                        go_enter Tryz.func85, Tryz.ntmps85
                        go_wp2
                        go_ret
                        exact ⟨by first | rfl | (simp; done) | (simp [*]; done), by repeat (first | exact Drawn0.refl _ | apply Drawn0.step)⟩
                      · rw [if_neg c86] at H
                        have c86b0 : (a0 == 93) = false := beq_eq_false_iff_ne.mpr c86
                        have c86b1 : (a0 != 93) = true := bne_iff_ne.mpr c86
                        by_cases c87 : a0 = 40
                        · rw [if_pos c87] at H
                          have c87b0 : (a0 == 40) = true := beq_iff_eq.mpr c87
                          have c87b1 : (a0 != 40) = false := bne_eq_false_iff_eq.mpr c87
                          clear c87
                          obtain rfl := Option.some.inj H
                          go_enter Tryz.func85, Tryz.ntmps85
                          go_wp2
                          go_ret
                          exact ⟨by first | rfl | (simp; done) | (simp [*]; done), by repeat (first | exact Drawn0.refl _ | apply Drawn0.step)⟩
                        · rw [if_neg c87] at H
                          have c87b0 : (a0 == 40) = false := beq_eq_false_iff_ne.mpr c87
                          have c87b1 : (a0 != 40) = true := bne_iff_ne.mpr c87
                          obtain rfl := Option.some.inj H
                          go_enter Tryz.func85, Tryz.ntmps85
                          go_wp2
                          go_ret
                          exact ⟨by first | rfl | (simp; done) | (simp [*]; done), by repeat (first | exact Drawn0.refl _ | apply Drawn0.step)⟩

end Go.Proofs.YtkfjjmmpbfjhaaaGreatDoor.PScriptActs
