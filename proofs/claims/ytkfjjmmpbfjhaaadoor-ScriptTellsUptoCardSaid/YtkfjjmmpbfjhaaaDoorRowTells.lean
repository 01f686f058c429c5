/- The row and the tied card of ScriptTells, second form: for every answer of bulk at most 1048576 the law answers true. Conditions: the tables strconv's powers of ten and script.nibbles among the listed ones, tied to the program's text. -/
import Derived.Test.YtkfjjmmpbfjhaaaDoorWalkTells
import Derived.Test.YtkfjjmmpbfjhaaaDoorTie
import Derived.Test.YtkfjjmmpbfjhaaaDoorCards
import Derived.WalkKit
import Derived.ProofKit
import Derived.OpenShut
import Derived.ShutString
import Derived.ChangeOld
import Derived.Below
import Derived.SizedLaws
import Derived.LaidMore
import Derived.LaidLaws
import Derived.Stop.Joined
import Derived.Stop.LaidErr
import Derived.SevenTiedAt
import Derived.Deep.DeepHandedRow
import Derived.Lib.LaidTab
import Derived.Lay
namespace Go.Proofs.YtkfjjmmpbfjhaaaDoor.scriptTells
open Go.ChangeShapes Go.WideShapes Go.ChangeAt Go.RowKit
open Go.ChangeMaps (open_string shut_string)
set_option linter.unusedVariables false
theorem own : ownKnob Tryd.prog.godebug = none := by kernel_rfl
theorem gNib : Tryd.prog.globalNamed "kiln/script.nibbles" = some 0 := by kernel_rfl
theorem gPow : Tryd.prog.globalNamed "internal/strconv.uint64pow10" = some 4 := by kernel_rfl
theorem laidOut : laidOutB Tryd.prog = true := by kernel_rfl
theorem hexs : ∀ m : Fin 16, ([48, 49, 50, 51, 52, 53, 54, 55, 56, 57, 97, 98, 99, 100, 101, 102] : List Int).getD m.val 0 = ((Tells.hexc m.val).toNat : Int) := by decide +kernel
theorem facts_of_laid {W : World} (h : laidMetH Tryd.prog Rows.scriptTellsUptoRow.laid W) : Tells.Pow W ∧ Tells.Nib W := by
  rw [MakeChecks.laidMetH_plain _ _ _ (by kernel_rfl)] at h
  have h2 := laidMet.tail (laidMet.tail h)
  have hP := Lib.tabIs_of_head (k := .u64) (zs := Lib.pow10Tab) gPow (t := 77) (e := 66) (n := 20) (by kernel_rfl) Tryd.underlying77 (by kernel_rfl) (by kernel_rfl) (by kernel_rfl) h2
  have h4 := laidMet.tail (laidMet.tail h2)
  have hT := Lib.tabIs_of_head (k := .u8) (zs := [48, 49, 50, 51, 52, 53, 54, 55, 56, 57, 97, 98, 99, 100, 101, 102]) gNib (t := 62) (e := 5) (n := 16) (by kernel_rfl) (by kernel_rfl) (by kernel_rfl) (by kernel_rfl) (by kernel_rfl) h4
  refine ⟨hP, fun n hn => ?_⟩
  have key := hT.cell gNib n (by simpa using hn)
  rw [hexs ⟨n, hn⟩] at key
  exact key
/-- the argument, opened: eight cells, the answer's words -/
theorem open_ans {H : Type} {enc : TypeId × Value → H} {W : World} {base b0 : Nat} {spare : Nat → Bool} {held : Bool} {r : Reach} {v : Value} {d : DataW H} {ps : List MemPlace}
    (hv : Value.okWide Tryd.prog W r b0 26 v) (hd : DataW.Trod enc Tryd.prog W base spare held 26 v d ps) (hb : Rows.uptoBulk d ≤ 1048576) :
    ∃ a : Tells.AnsT, v = a.v ∧ a.ok := by
  obtain ⟨cs, rfl, hsz⟩ := okWide_struct Tryd.underlying26 hv
  obtain ⟨fuel, hf⟩ := hd
  have hc26 : Tryd.prog.cellsOf 26 = 8 := by kernel_rfl
  have hc24 : Tryd.prog.cellsOf 24 = 4 := by kernel_rfl
  have hc22 : Tryd.prog.cellsOf 22 = 1 := by kernel_rfl
  have hc3 : Tryd.prog.cellsOf 3 = 1 := by kernel_rfl
  have hc9 : Tryd.prog.cellsOf 9 = 1 := by kernel_rfl
  rw [hc26] at hsz
  obtain ⟨c0, c1, c2, c3, c4, c5, c6, c7, rfl⟩ : ∃ c0 c1 c2 c3 c4 c5 c6 c7, cs = #[c0, c1, c2, c3, c4, c5, c6, c7] := by
    obtain ⟨l⟩ := cs
    match l, hsz with
    | [c0, c1, c2, c3, c4, c5, c6, c7], _ => exact ⟨_, _, _, _, _, _, _, _, rfl⟩
  simp only [Value.cells] at hf
  obtain ⟨ys, m, _, hx, hl, hlen, hfs⟩ := Go.DataW.trod_struct Tryd.underlying26 hf
  simp only [Prod.mk.injEq] at hx
  obtain ⟨rfl, rfl⟩ := hx
  match ys, hlen with
  | [y0, y1, y2, y3, y4], _ =>
  have g0 := hfs 0 _ rfl
  have g1 := hfs 1 _ rfl
  have g2 := hfs 2 _ rfl
  have g3 := hfs 3 _ rfl
  have g4 := hfs 4 _ rfl
  simp [hc24, hc22, hc3, hc9] at g0 g1 g2 g3 g4
  obtain ⟨zs, m2, _, hx0, hl0, hlen0, hfs0⟩ := Go.DataW.trod_struct Tryd.underlying24 g0
  match zs, hlen0 with
  | [z0, z1, z2, z3], _ =>
  have k0 := hfs0 0 _ rfl
  have k1 := hfs0 1 _ rfl
  have k2 := hfs0 2 _ rfl
  have k3 := hfs0 3 _ rfl
  simp [hc24, hc22, hc3, hc9] at k0 k1 k2 k3
  obtain ⟨code, e0, rfl, w0⟩ := Go.DataW.trod_int Tryd.underlying22 k0
  obtain ⟨cls, e1, rfl, w1⟩ := Go.DataW.trod_string Tryd.underlying9 k1
  obtain ⟨sel, e2, rfl, w2⟩ := Go.DataW.trod_string Tryd.underlying9 k2
  obtain ⟨at_, e3, rfl, w3⟩ := Go.DataW.trod_int Tryd.underlying3 k3
  obtain ⟨num, e4, rfl, w4⟩ := Go.DataW.trod_int Tryd.underlying3 g1
  obtain ⟨st, e5, rfl, w5⟩ := Go.DataW.trod_int Tryd.underlying3 g2
  obtain ⟨used, e6, rfl, w6⟩ := Go.DataW.trod_int Tryd.underlying3 g3
  obtain ⟨text, e7, rfl, w7⟩ := Go.DataW.trod_string Tryd.underlying9 g4
  simp at e0 e1 e2 e3 e4 e5 e6 e7
  subst e0 e1 e2 e3 e4 e5 e6 e7 hx0
  simp [Rows.uptoBulk, Rows.uptoBulkAll] at hb
  refine ⟨⟨code, cls, sel, at_, num, st, used, text⟩, rfl, ?_⟩
  constructor
  · exact bounds_i64 w0
  · exact bounds_i64 w3
  · exact bounds_i64 w4
  · exact bounds_i64 w5
  · exact bounds_i64 w6
  · show cls.size ≤ _
    omega
  · show sel.size ≤ _
    omega
  · show text.size ≤ _
    omega
theorem maxLen_cell {W : World} (h : W.ShapedOpen Tryd.prog) : ∃ m, W.cell? ⟨1, 0, none⟩ = some (.int .i64 m) := Tryd.laysM154.s1_3 W h
set_option maxRecDepth 100000 in
theorem contract (H : Type) (enc : TypeId × Value → H) (W : World) (base : Nat) (args : Array Value) (ds gs : List (DataW H)) (before : List MemPlace)
    (hval : ∀ (j : Nat) t v, Tryd.f3.params[j]? = some t → args[j]? = some v → Value.okWide Tryd.prog W .any base t v)
    (hW : DataW.Whole enc Tryd.prog Tryd.f3.params.toList Rows.scriptTellsSpec.vars false W args.toList ds gs before) (hB : Rows.uptoBulkAll (ds ++ gs) ≤ 1048576) (hL : laidMetH Tryd.prog Rows.scriptTellsUptoRow.laid W) (hS : W.ShapedOpen Tryd.prog) :
    Calls Tryd.prog 3 args W fun e W' => ∃ v, e = .returned v ∧ Rows.scriptTellsSpec.post enc Tryd.prog Tryd.f3 false true false false W args v W' := by
  have hW' := hW
  obtain ⟨p, q, hA0, hV, rfl, hfz, hnd⟩ := hW
  have hA : DataW.TrodAll enc Tryd.prog W 0 (fun _ => true) true Tryd.f3.params.toList args.toList ds p := hA0
  rw [Tryd.params3] at hA hval
  obtain ⟨v0, vs0, d0, ds0, p0, q0, hargs, rfl, rfl, h0, r0⟩ := trodAll_cons hA
  obtain ⟨rfl, rfl, rfl⟩ := trodAll_nil r0
  obtain rfl : args = #[v0] := by cases args; simp_all
  obtain ⟨rfl, rfl⟩ := trodVars_none hV
  have hb0 : Rows.uptoBulk d0 ≤ 1048576 := by simpa [Rows.uptoBulkAll] using hB
  obtain ⟨a, rfl, hok⟩ := open_ans (hval 0 26 v0 rfl rfl) h0 hb0
  have T := facts_of_laid hL
  obtain ⟨m, M⟩ := maxLen_cell hS
  have k0 := h0
  have lt0 : ∀ x ∈ p0, x.block < W.heap.size := by obtain ⟨m, hm⟩ := k0; exact DataW.trod_lt m _ _ _ hm
  clear hA0
  refine (Tells.tells_law a hok m W T.1 T.2 M).mono fun e W' ⟨he, bel⟩ => ?_
  subst he
  exact ⟨_, rfl, _, _, _, [], _, [], hW', trodAll_mk1 (shut_bool Tryd.underlying4 _), (trodAll_cons_mk (Below.trod laidOut (by kernel_rfl) (of_decide_eq_true (by kernel_rfl)) k0 bel lt0) trodAll_mk0), rfl, bel.frame _, fun h => by cases h⟩
abbrev arg0 : Value := .agg #[.int .i64 0, .string ⟨#[]⟩, .string ⟨#[]⟩, .int .i64 0, .int .i64 0, .int .i64 0, .int .i64 0, .string ⟨#[]⟩]
set_option maxRecDepth 100000 in
theorem laid_met (os : Os) : laidMetH Tryd.prog Rows.scriptTellsUptoRow.laid ((World.laidAll Tryd.prog os Rows.scriptTellsUptoRow.laid).forCall (fun _ _ => 0) ⟨#[], #[arg0], []⟩).memory := by
  rw [MakeChecks.laidMetH_plain _ _ _ (by kernel_rfl)]
  exact laidMet_laidAll _ (by kernel_rfl) (by kernel_rfl)
theorem reads (os : Os) {H : Type} (enc : TypeId × Value → H) : ∃ places, DataW.whole enc Tryd.prog ((World.laidAll Tryd.prog os Rows.scriptTellsUptoRow.laid).forCall (fun _ _ => 0) ⟨#[], #[arg0], []⟩).memory Tryd.f3.params.toList Rows.scriptTellsSpec.vars false #[arg0].toList 8 = some ([.agg [.agg [.lit (.int .i64 0), .lit (.string []), .lit (.string []), .lit (.int .i64 0)], .lit (.int .i64 0), .lit (.int .i64 0), .lit (.int .i64 0), .lit (.string [])]], [], places) :=
  ⟨[], by kernel_rfl⟩
set_option maxRecDepth 100000 in
theorem lifted (os : Os) (started : os.Started) (H : Type) (enc : TypeId × Value → H) (F : Stop.Interp) :
    ReturnsInHanded {} Tryd.checked os 3 .any ((Rows.OpenSpec.upto Rows.scriptTellsSpec).preRow enc Tryd.prog Tryd.f3 Rows.scriptTellsUptoRow.domain false Rows.scriptTellsUptoRow.laid) (((Rows.OpenSpec.upto Rows.scriptTellsSpec).at F).post enc Tryd.prog Tryd.f3 false true false false) := by
  obtain ⟨places, hx⟩ := reads os enc
  have hrow : (Rows.OpenSpec.upto Rows.scriptTellsSpec).preRow enc Tryd.prog Tryd.f3 Rows.scriptTellsUptoRow.domain false Rows.scriptTellsUptoRow.laid ((World.laidAll Tryd.prog os Rows.scriptTellsUptoRow.laid).forCall (fun _ _ => 0) ⟨#[], #[arg0], []⟩).memory #[arg0] :=
    OpenSpec.preRow_of_cond 8 hx (by kernel_rfl) (fun k hk => by cases hk; kernel_rfl) (by kernel_rfl) (laid_met os)
  refine returnsInHanded_of_row (C := Tryd.checked) (s := Rows.OpenSpec.upto Rows.scriptTellsSpec) own started (by kernel_rfl) Tryd.func3 ?_ ?_
  · exact ⟨World.laidAll Tryd.prog os Rows.scriptTellsUptoRow.laid, fun _ _ => 0, ⟨#[], #[arg0], []⟩, World.laidAll_os _ _ _, World.shaped_of_ZipB (by kernel_rfl) (by kernel_rfl), rfl, (Input.okWide_of_okWideB (by kernel_rfl)).2, hrow, by
      simp only [Assume.holds]
      exact ⟨by simp, by simp, fun _ => Modest.zero, by simp, by simp⟩⟩
  intro W base args ds gs before hval hW _ hk _ hL hS _
  exact contract H enc W base args ds gs before hval hW (of_decide_eq_true (hk _ rfl)) hL hS
theorem saidUpto : Rows.ScriptTellsUptoSaid :=
  OpenClaim.holds_of_cond 3 Tryd.f3 rfl rfl rfl rfl rfl rfl rfl ⟨rfl, rfl, rfl, rfl, rfl⟩ rfl rfl rfl rfl rfl (by kernel_rfl) Tryd.func3 (by kernel_rfl)
    (of_decide_eq_true (by kernel_rfl)) (by unfold Func.isWrapper; first | (rw [if_pos (by decide +kernel)]; kernel_rfl) | (rw [if_neg (by decide +kernel)]; exact ⟨rfl, rfl⟩))
    (fun os started H enc _ F => by rw [OpenClaim.pre_eq_preRow]; exact lifted os started H enc F)
/-- the second form's card -/
theorem cardUpto : Rows.ScriptTellsUptoCardSaid :=
  Claim7.holds_tied_plain_at .later [] _ _ _ _ saidUpto (fun _ h => by cases h) (by kernel_rfl) (fun _ h => by cases h) scriptTellsUpto_row_tie rfl ⟨rfl, rfl⟩ (by kernel_rfl) rfl
    (fun f fn hf hfn => by
      obtain rfl : f = 3 := Option.some.inj ((show Tryd.prog.funcNamed "kiln/kilnlaw24.ScriptTells" = some 3 by kernel_rfl).symm.trans hf) |>.symm
      obtain rfl : fn = Tryd.f3 := (Option.some.inj (Tryd.func3.symm.trans hfn)).symm
      exact ⟨by kernel_rfl, fun j t ht => by
        rw [Tryd.params3] at ht
        obtain rfl : t = 26 := by simpa using Array.mem_of_getElem? ht
        exact (show Tryd.prog.wantsStandIn 26 = false by kernel_rfl)⟩)
    (by kernel_rfl)
#print axioms cardUpto
end Go.Proofs.YtkfjjmmpbfjhaaaDoor.scriptTells
namespace Go.Proofs.YtkfjjmmpbfjhaaaDoor
/-- The card, under a short name, for the claim. -/
theorem scriptTellsUpto_card_holds : Rows.ScriptTellsUptoCardSaid := scriptTells.cardUpto
end Go.Proofs.YtkfjjmmpbfjhaaaDoor
