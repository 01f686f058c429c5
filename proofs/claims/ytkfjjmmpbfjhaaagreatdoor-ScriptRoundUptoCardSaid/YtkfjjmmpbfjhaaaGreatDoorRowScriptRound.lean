/- The row and the tied card of ScriptRound, second form: for every argument of bulk at most 1048576 the law answers true. Conditions: the tables and error variables of the row's list are laid, tied to the program's text. -/
import Derived.Test.YtkfjjmmpbfjhaaaGreatDoorScrX5
import Derived.Test.YtkfjjmmpbfjhaaaGreatDoorScrOpenB
import Derived.Test.YtkfjjmmpbfjhaaaGreatDoorTie
import Derived.Test.YtkfjjmmpbfjhaaaGreatDoorCards
import Derived.WalkKit
import Derived.ProofKit
import Derived.OpenShut
import Derived.ShutString
import Derived.ChangeOld
import Derived.Below
import Derived.SizedLaws
import Derived.LaidMore
import Derived.LaidLaws
import Derived.Stop.Joined
import Derived.Stop.LaidErr
import Derived.SevenTiedAt
import Derived.Deep.DeepHandedRow
import Derived.Lib.LaidTab
import Derived.Lay
namespace Go.Proofs.YtkfjjmmpbfjhaaaGreatDoor.scriptRound
open Go.ChangeShapes Go.WideShapes Go.ChangeAt Go.RowKit
open Go.ChangeMaps (open_string shut_string)
open Go.Proofs.YtkfjjmmpbfjhaaaGreatDoor.Tells Go.Proofs.YtkfjjmmpbfjhaaaGreatDoor.Opening Go.Proofs.YtkfjjmmpbfjhaaaGreatDoor.PScriptActs Go.Proofs.YtkfjjmmpbfjhaaaGreatDoorW.PrintWords
set_option linter.unusedVariables false
theorem own : ownKnob Tryz.prog.godebug = none := by kernel_rfl
theorem laidOut : laidOutB Tryz.prog = true := by kernel_rfl
set_option maxRecDepth 100000 in
theorem contract (H : Type) (enc : TypeId × Value → H) (W : World) (base : Nat) (args : Array Value) (ds gs : List (DataW H)) (before : List MemPlace)
    (hval : ∀ (j : Nat) t v, Tryz.f5.params[j]? = some t → args[j]? = some v → Value.okWide Tryz.prog W .any base t v)
    (hW : DataW.Whole enc Tryz.prog Tryz.f5.params.toList Rows.scriptRoundSpec.vars false W args.toList ds gs before) (hB : Rows.uptoBulkAll (ds ++ gs) ≤ 1048576) (hL : laidMetH Tryz.prog Rows.scriptRoundUptoRow.laid W) (hS : W.ShapedOpen Tryz.prog) :
    Calls Tryz.prog 5 args W fun e W' => ∃ v, e = .returned v ∧ Rows.scriptRoundSpec.post enc Tryz.prog Tryz.f5 false true false false W args v W' := by
  have hW' := hW
  obtain ⟨p, q, hA0, hV, rfl, hfz, hnd⟩ := hW
  have hA : DataW.TrodAll enc Tryz.prog W 0 (fun _ => true) true Tryz.f5.params.toList args.toList ds p := hA0
  rw [Tryz.params5] at hA hval
  obtain ⟨v0, vs0, d0, ds0, p0, q0, hargs, rfl, rfl, h0, r0⟩ := trodAll_cons hA
  obtain ⟨rfl, rfl, rfl⟩ := trodAll_nil r0
  obtain rfl : args = #[v0] := by cases args; simp_all
  obtain ⟨rfl, rfl⟩ := trodVars_none hV
  have hb0 : Rows.uptoBulk d0 ≤ 1048576 := by simpa [Rows.uptoBulkAll] using hB
  have k0 := h0
  have lt0 : ∀ x ∈ p0, x.block < W.heap.size := by obtain ⟨m, hm⟩ := k0; exact DataW.trod_lt m _ _ _ hm
  obtain ⟨p0', p1', A1, c1, l, rfl, hp0, hp1, hC, hc, hn, ha, hwt⟩ := open_play2 (hval 0 24 v0 rfl rfl) h0 hb0
  have E := env_of_round hL
  have hz : (printP p0' p1' l).1.size ≤ 1073741824 := by
    have := text_le p0' p1' hp0 hp1 l (fun a h => ⟨(ha a h).number, (ha a h).fuel⟩)
    omega
  clear hA0
  refine (round_law p0' p1' hp0 hp1 l ha hn hz A1 c1 W E (mx_of hS) hC hc).mono fun e W' ⟨he, bel⟩ => ?_
  subst he
  exact ⟨_, rfl, _, _, _, [], _, [], hW', trodAll_mk1 (shut_bool Tryz.underlying4 _), (trodAll_cons_mk (Below.trod laidOut (by kernel_rfl) (of_decide_eq_true (by kernel_rfl)) k0 bel lt0) trodAll_mk0), rfl, bel.frame _, fun h => by cases h⟩
abbrev arg0 : Value := .agg #[.int .i64 0, .int .i64 0, .slice none 0 0]
set_option maxRecDepth 100000 in
theorem laid_met (os : Os) : laidMetH Tryz.prog Rows.scriptRoundUptoRow.laid ((World.laidAll Tryz.prog os Rows.scriptRoundUptoRow.laid).forCall (fun _ _ => 0) ⟨#[], #[arg0], []⟩).memory := by
  rw [MakeChecks.laidMetH_plain _ _ _ (by kernel_rfl)]
  exact laidMet_laidAll _ (by kernel_rfl) (by kernel_rfl)
set_option maxRecDepth 100000 in
theorem lifted (os : Os) (started : os.Started) (H : Type) (enc : TypeId × Value → H) (F : Stop.Interp) :
    ReturnsInHanded {} Tryz.checked os 5 .any ((Rows.OpenSpec.upto Rows.scriptRoundSpec).preRow enc Tryz.prog Tryz.f5 Rows.scriptRoundUptoRow.domain false Rows.scriptRoundUptoRow.laid) (((Rows.OpenSpec.upto Rows.scriptRoundSpec).at F).post enc Tryz.prog Tryz.f5 false true false false) := by
  obtain ⟨x, hx⟩ := Option.isSome_iff_exists.1 (show (DataW.whole enc Tryz.prog ((World.laidAll Tryz.prog os Rows.scriptRoundUptoRow.laid).forCall (fun _ _ => 0) ⟨#[], #[arg0], []⟩).memory Tryz.f5.params.toList Rows.scriptRoundSpec.vars false #[arg0].toList 8).isSome = true by kernel_rfl)
  have hxs : (DataW.whole enc Tryz.prog ((World.laidAll Tryz.prog os Rows.scriptRoundUptoRow.laid).forCall (fun _ _ => 0) ⟨#[], #[arg0], []⟩).memory Tryz.f5.params.toList Rows.scriptRoundSpec.vars false #[arg0].toList 8).map (fun y => decide (Rows.uptoBulkAll (y.1 ++ y.2.1) ≤ 1048576)) = some true := by kernel_rfl
  have hbk : Rows.uptoBulkAll (x.1 ++ x.2.1) ≤ 1048576 := by rw [hx] at hxs; exact of_decide_eq_true (Option.some.inj hxs)
  have hrow : (Rows.OpenSpec.upto Rows.scriptRoundSpec).preRow enc Tryz.prog Tryz.f5 Rows.scriptRoundUptoRow.domain false Rows.scriptRoundUptoRow.laid ((World.laidAll Tryz.prog os Rows.scriptRoundUptoRow.laid).forCall (fun _ _ => 0) ⟨#[], #[arg0], []⟩).memory #[arg0] :=
    OpenSpec.preRow_of_cond 8 hx (by kernel_rfl) (fun k hk => by cases hk; exact decide_eq_true hbk) (by kernel_rfl) (laid_met os)
  refine returnsInHanded_of_row (C := Tryz.checked) (s := Rows.OpenSpec.upto Rows.scriptRoundSpec) own started (by kernel_rfl) Tryz.func5 ?_ ?_
  · exact ⟨World.laidAll Tryz.prog os Rows.scriptRoundUptoRow.laid, fun _ _ => 0, ⟨#[], #[arg0], []⟩, World.laidAll_os _ _ _, World.shaped_of_ZipB (by kernel_rfl) (by kernel_rfl), rfl, (Input.okWide_of_okWideB (by kernel_rfl)).2, hrow, by
      simp only [Assume.holds]
      exact ⟨by simp, by simp, fun _ => Modest.zero, by simp, by simp⟩⟩
  intro W base args ds gs before hval hW _ hk _ hL hS _
  exact contract H enc W base args ds gs before hval hW (of_decide_eq_true (hk _ rfl)) hL hS
theorem saidUpto : Rows.ScriptRoundUptoSaid :=
  OpenClaim.holds_of_cond 5 Tryz.f5 rfl rfl rfl rfl rfl rfl rfl ⟨rfl, rfl, rfl, rfl, rfl⟩ rfl rfl rfl rfl rfl (by kernel_rfl) Tryz.func5 (by kernel_rfl)
    (of_decide_eq_true (by kernel_rfl)) (by unfold Func.isWrapper; first | (rw [if_pos (by decide +kernel)]; kernel_rfl) | (rw [if_neg (by decide +kernel)]; exact ⟨rfl, rfl⟩))
    (fun os started H enc _ F => by rw [OpenClaim.pre_eq_preRow]; exact lifted os started H enc F)
/-- the second form's card -/
theorem cardUpto : Rows.ScriptRoundUptoCardSaid :=
  Claim7.holds_tied_plain_at .later [] _ _ _ _ saidUpto (fun _ h => by cases h) (by kernel_rfl) (fun _ h => by cases h) scriptRoundUpto_row_tie rfl ⟨rfl, rfl⟩ (by kernel_rfl) rfl
    (fun f fn hf hfn => by
      obtain rfl : f = 5 := Option.some.inj ((show Tryz.prog.funcNamed "kiln/kilnlaw24.ScriptRound" = some 5 by kernel_rfl).symm.trans hf) |>.symm
      obtain rfl : fn = Tryz.f5 := (Option.some.inj (Tryz.func5.symm.trans hfn)).symm
      exact ⟨by kernel_rfl, fun j t ht => by
        rw [Tryz.params5] at ht
        obtain rfl : t = 24 := by simpa using Array.mem_of_getElem? ht
        exact (show Tryz.prog.wantsStandIn 24 = false by kernel_rfl)⟩)
    (by kernel_rfl)
end Go.Proofs.YtkfjjmmpbfjhaaaGreatDoor.scriptRound
namespace Go.Proofs.YtkfjjmmpbfjhaaaGreatDoor
/-- The card, under a short name, for the claim. -/
theorem scriptRoundUpto_card_holds : Rows.ScriptRoundUptoCardSaid := scriptRound.cardUpto
end Go.Proofs.YtkfjjmmpbfjhaaaGreatDoor
