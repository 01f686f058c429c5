/- The row and the tied card of LexPrints: for every list of tokens the law answers true. Conditions: the tables and error variables of the row's list are laid, tied to the program's text. -/
import Derived.Test.YtjibdaigclgmhaaGreatDoorLexNN
import Derived.Test.YtjibdaigclgmhaaGreatDoorLexFact
import Derived.Test.YtjibdaigclgmhaaGreatDoorTie
import Derived.Test.YtjibdaigclgmhaaGreatDoorCards
import Derived.Deep.Slices
import Derived.WalkKit
import Derived.ProofKit
import Derived.OpenShut
import Derived.ShutString
import Derived.ChangeOld
import Derived.Below
import Derived.SizedLaws
import Derived.LaidMore
import Derived.LaidLaws
import Derived.Stop.Joined
import Derived.Stop.LaidErr
import Derived.SevenTiedAt
import Derived.Deep.DeepHandedRow
import Derived.Lib.LaidTab
import Derived.Lay
namespace Go.Proofs.YtjibdaigclgmhaaGreatDoor.lexPrints
open Go.ChangeShapes Go.WideShapes Go.ChangeAt Go.RowKit
open Go.ChangeMaps (open_string shut_string)
open Go.Proofs.YtjibdaigclgmhaaGreatDoor.LexW Go.Proofs.YtjibdaigclgmhaaGreatDoor.PLexPrints Go.Proofs.YtjibdaigclgmhaaGreatDoorW.PrintWords Go.Proofs.YtjibdaigclgmhaaGreatDoorW.PrintLast Go.Proofs.YtjibdaigclgmhaaGreatDoorW.PrintMore
set_option linter.unusedVariables false
theorem own : ownKnob Tryz.prog.godebug = none := by kernel_rfl
theorem laidOut : laidOutB Tryz.prog = true := by kernel_rfl
theorem facts_of_laid {W : World} (h : laidMetH Tryz.prog Rows.lexPrintsRow.laid W) : Erg W ∧ Lib.TabIs Tryz.prog W "internal/strconv.uint64pow10" .u64 Lib.pow10Tab := by
  rw [MakeChecks.laidMetH_plain _ _ _ (by kernel_rfl)] at h
  have h2 := laidMet.tail (laidMet.tail h)
  have hP := Lib.tabIs_of_head (k := .u64) (zs := Lib.pow10Tab) g_pow (t := 114) (e := 92) (n := 20) (by kernel_rfl) (by kernel_rfl) (by kernel_rfl) (by kernel_rfl) (by kernel_rfl) h2
  have h4 := laidMet.tail (laidMet.tail h2)
  obtain ⟨a1, s1, hv1, _, _, _⟩ := laid_sentinel h4 (g := 5) (ti := 71) (tp := 137) (te := 139) (ts := 9) (by kernel_rfl) (by kernel_rfl) Tryz.underlying71 row137 Tryz.underlying137 Tryz.underlying139 rfl rfl Tryz.underlying9 (by kernel_rfl) (by kernel_rfl)
  exact ⟨⟨137, _, World.var?_cell (by kernel_rfl) hv1 0⟩, hP⟩
/-- things chosen place by place, as a list -/
theorem list_of {α : Type} {p : Nat → α → Prop} : ∀ n : Nat, (∀ i, i < n → ∃ x, p i x) → ∃ l : List α, l.length = n ∧ ∀ i x, l[i]? = some x → p i x
  | 0, _ => ⟨[], rfl, fun i x h => by simp at h⟩
  | n + 1, h => by
    obtain ⟨l, hl, hp⟩ := list_of n (fun i hi => h i (by omega))
    obtain ⟨x, hx⟩ := h n (by omega)
    refine ⟨l ++ [x], by simp [hl], fun i y hy => ?_⟩
    by_cases hi : i < n
    · rw [List.getElem?_append_left (by omega)] at hy; exact hp i y hy
    · have hlt := (List.getElem?_eq_some_iff.1 hy).1
      simp at hlt
      obtain rfl : i = n := by omega
      rw [List.getElem?_append_right (by omega)] at hy
      simp [hl] at hy
      exact hy ▸ hx
set_option maxRecDepth 100000 in
/-- a slice of tokens, opened -/
theorem open_tokens {H : Type} {enc : TypeId × Value → H} {w : World} {base : Nat} {spare : Nat → Bool} {held : Bool} {A : Option Addr} {len cap : Nat} {d : DataW H} {p : List MemPlace}
    (h : DataW.Trod enc Tryz.prog w base spare held 22 (.slice A len cap) d p) : ∃ l : List S28, l.length = len ∧ Kd.C k28 w A l.length l ∧ l.length ≤ cap ∧ l.length ≤ 9223372036854775807 ∧ ∀ x ∈ l, -9223372036854775808 ≤ x.f2 ∧ x.f2 ≤ 9223372036854775807 := by
  obtain ⟨fuel, hf⟩ := h
  rcases Go.Deep.open_slice Tryz.underlying22 (by simpa [Value.cells] using hf) with ⟨hcs, _⟩ | ⟨a, len', cap', m, n, D, Pl, hcs, _, hl, hm, hmm, _, hx⟩
  · simp at hcs
    obtain ⟨rfl, rfl, rfl⟩ := hcs
    exact ⟨[], rfl, Kd.C_nil _ _, Nat.le_refl _, by simp, fun x hx => by cases hx⟩
  · simp at hcs
    obtain ⟨rfl, rfl, rfl⟩ := hcs
    have hcells : Tryz.prog.cellsOf 28 = 4 := by kernel_rfl
    have hone : Tryz.prog.cellsOf 3 = 1 := by kernel_rfl
    have hone9 : Tryz.prog.cellsOf 9 = 1 := by kernel_rfl
    rw [hcells] at hx
    have hlm : len ≤ m := by rw [hmm]; split <;> omega
    obtain ⟨l, hll, hp⟩ := list_of (p := fun i (x : S28) => (∀ j u, [Value.int .i64 x.f0, Value.string x.f1, Value.int .i64 x.f2, Value.int .i64 x.f3][j]? = some u → w.cell? (a.add (i * 4 + j)) = some u) ∧ -9223372036854775808 ≤ x.f2 ∧ x.f2 ≤ 9223372036854775807) len (fun i hi => by
      obtain ⟨cs', hc, ht⟩ := hx i (by omega)
      obtain ⟨_, hlen, hat⟩ := World.cells?_some hc
      obtain ⟨ys, n', _, _, _, hys, hg⟩ := DataW.trod_struct Tryz.underlying28 ht
      match cs', hlen with
      | [c0, c1, c2, c3], _ =>
        have g0 := hg 0 _ rfl
        have g1 := hg 1 _ rfl
        have g2 := hg 2 _ rfl
        have g3 := hg 3 _ rfl
        match ys, hys with
        | [y0, y1, y2, y3], _ =>
          simp [hone, hone9] at g0 g1 g2 g3
          obtain ⟨x0, e0, _, _⟩ := DataW.trod_int Tryz.underlying3 g0
          obtain ⟨x1, e1, _, _⟩ := DataW.trod_string Tryz.underlying9 g1
          obtain ⟨x2, e2, _, b2⟩ := DataW.trod_int Tryz.underlying3 g2
          obtain ⟨x3, e3, _, _⟩ := DataW.trod_int Tryz.underlying3 g3
          simp at e0 e1 e2 e3
          subst e0 e1 e2 e3
          refine ⟨⟨x0, x1, x2, x3⟩, fun j u hu => ?_, bounds_i64 b2⟩
          have hj : j < 4 := by have := (List.getElem?_eq_some_iff.1 hu).1; simpa using this
          have := hat j hj
          rw [add_add] at this
          rw [this]; exact hu)
    refine ⟨l, hll, ⟨rfl, by unfold maxLen at hm; omega, fun hn => ⟨a, rfl, fun j x hj => ⟨_, rfl, k28_mk w x, fun i u hu => ?_⟩⟩⟩, by omega, by unfold maxLen at hm; omega, fun x hx => ?_⟩
    · exact (hp j x hj).1 i u hu
    · obtain ⟨j, hj⟩ := List.mem_iff_getElem?.1 hx
      exact (hp j x hj).2
theorem maxLen_cell {W : World} (h : W.ShapedOpen Tryz.prog) : ∃ m, W.cell? ⟨0, 0, none⟩ = some (.int .i64 m) := Tryz.laysM155.s1_3 W h
set_option maxRecDepth 100000 in
theorem contract (H : Type) (enc : TypeId × Value → H) (W : World) (base : Nat) (args : Array Value) (ds gs : List (DataW H)) (before : List MemPlace)
    (hval : ∀ (j : Nat) t v, Tryz.f3.params[j]? = some t → args[j]? = some v → Value.okWide Tryz.prog W .any base t v)
    (hW : DataW.Whole enc Tryz.prog Tryz.f3.params.toList Rows.lexPrintsSpec.vars false W args.toList ds gs before) (hL : laidMetH Tryz.prog Rows.lexPrintsRow.laid W) (hS : W.ShapedOpen Tryz.prog) :
    Calls Tryz.prog 3 args W fun e W' => ∃ v, e = .returned v ∧ Rows.lexPrintsSpec.post enc Tryz.prog Tryz.f3 false true false false W args v W' := by
  have hW' := hW
  obtain ⟨p, q, hA0, hV, rfl, hfz, hnd⟩ := hW
  have hA : DataW.TrodAll enc Tryz.prog W 0 (fun _ => true) true Tryz.f3.params.toList args.toList ds p := hA0
  rw [Tryz.params3] at hA hval
  obtain ⟨v1, vs1, d1, ds1, p1, q1, hargs, rfl, rfl, h1, r1⟩ := trodAll_cons hA
  obtain ⟨rfl, rfl, rfl⟩ := trodAll_nil r1
  obtain rfl : args = #[v1] := by cases args; simp_all
  obtain ⟨rfl, rfl⟩ := trodVars_none hV
  obtain ⟨A1, n1, c1, rfl⟩ := okWide_slice Tryz.underlying22 (hval 0 22 v1 rfl rfl)
  have k1 := h1
  have lt1 : ∀ x ∈ p1, x.block < W.heap.size := by obtain ⟨m, hm⟩ := k1; exact DataW.trod_lt m _ _ _ hm
  obtain ⟨l1, rfl, hc1, hk1, hb1, hn1⟩ := open_tokens h1
  have T := facts_of_laid hL
  clear hA0
  refine (prints_law l1 A1 c1 W ⟨T.1, T.2, maxLen_cell hS⟩ hc1 hk1 hb1 hn1).mono fun e W' ⟨he, bel⟩ => ?_
  subst he
  exact ⟨_, rfl, _, _, _, [], _, [], hW', trodAll_mk1 (shut_bool Tryz.underlying4 _), (trodAll_cons_mk (Below.trod laidOut (by kernel_rfl) (of_decide_eq_true (by kernel_rfl)) k1 bel lt1) trodAll_mk0), rfl, bel.frame _, fun h => by cases h⟩
abbrev args0 : Array Value := #[.slice none 0 0]
set_option maxRecDepth 100000 in
theorem laid_met (os : Os) : laidMetH Tryz.prog Rows.lexPrintsRow.laid ((World.laidAll Tryz.prog os Rows.lexPrintsRow.laid).forCall (fun _ _ => 0) ⟨#[], args0, []⟩).memory := by
  rw [MakeChecks.laidMetH_plain _ _ _ (by kernel_rfl)]
  exact laidMet_laidAll _ (by kernel_rfl) (by kernel_rfl)
set_option maxRecDepth 100000 in
theorem lifted (os : Os) (started : os.Started) (H : Type) (enc : TypeId × Value → H) (F : Stop.Interp) :
    ReturnsInHanded {} Tryz.checked os 3 .any ((OpenSpec.ofChange Rows.lexPrintsSpec).preRow enc Tryz.prog Tryz.f3 Rows.lexPrintsRow.domain false Rows.lexPrintsRow.laid) (((OpenSpec.ofChange Rows.lexPrintsSpec).at F).post enc Tryz.prog Tryz.f3 false true false false) := by
  obtain ⟨x, hx⟩ := Option.isSome_iff_exists.1 (show (DataW.whole enc Tryz.prog ((World.laidAll Tryz.prog os Rows.lexPrintsRow.laid).forCall (fun _ _ => 0) ⟨#[], args0, []⟩).memory Tryz.f3.params.toList Rows.lexPrintsSpec.vars false args0.toList 8).isSome = true by kernel_rfl)
  have hrow : (OpenSpec.ofChange Rows.lexPrintsSpec).preRow enc Tryz.prog Tryz.f3 Rows.lexPrintsRow.domain false Rows.lexPrintsRow.laid ((World.laidAll Tryz.prog os Rows.lexPrintsRow.laid).forCall (fun _ _ => 0) ⟨#[], args0, []⟩).memory args0 :=
    OpenSpec.preRow_of_cond 8 hx rfl (fun k hk => by cases hk) (by kernel_rfl) (laid_met os)
  refine returnsInHanded_of_row (C := Tryz.checked) (s := OpenSpec.ofChange Rows.lexPrintsSpec) own started (by kernel_rfl) Tryz.func3 ?_ ?_
  · exact ⟨World.laidAll Tryz.prog os Rows.lexPrintsRow.laid, fun _ _ => 0, ⟨#[], args0, []⟩, World.laidAll_os _ _ _, World.shaped_of_ZipB (by kernel_rfl) (by kernel_rfl), rfl, (Input.okWide_of_okWideB (by kernel_rfl)).2, hrow, by
      simp only [Assume.holds]
      exact ⟨by simp, by simp, fun _ => Modest.zero, by simp, by simp⟩⟩
  intro W base args ds gs before hval hW _ _ _ hL hS _
  exact contract H enc W base args ds gs before hval hW hL hS
theorem said : Rows.LexPrintsSaid :=
  OpenClaim.holds_of_cond 3 Tryz.f3 rfl rfl rfl rfl rfl rfl rfl ⟨rfl, rfl, rfl, rfl, rfl⟩ rfl rfl rfl rfl rfl (by kernel_rfl) Tryz.func3 (by kernel_rfl)
    (of_decide_eq_true (by kernel_rfl)) (by unfold Func.isWrapper; first | (rw [if_pos (by decide +kernel)]; kernel_rfl) | (rw [if_neg (by decide +kernel)]; exact ⟨rfl, rfl⟩))
    (fun os started H enc _ F => by rw [OpenClaim.pre_eq_preRow]; exact lifted os started H enc F)
/-- the tied card -/
theorem card : Rows.LexPrintsCardSaid :=
  Claim7.holds_tied_plain_at .later [] _ _ _ _ said (fun _ h => by cases h) (by kernel_rfl) (fun _ h => by cases h) lexPrints_row_tie rfl ⟨rfl, rfl⟩ (by kernel_rfl) rfl
    (fun f fn hf hfn => by
      obtain rfl : f = 3 := Option.some.inj ((show Tryz.prog.funcNamed "kiln/kilnlaw7.LexPrints" = some 3 by kernel_rfl).symm.trans hf) |>.symm
      obtain rfl : fn = Tryz.f3 := (Option.some.inj (Tryz.func3.symm.trans hfn)).symm
      exact ⟨by kernel_rfl, fun j t ht => by
        rw [Tryz.params3] at ht
        have hm : t ∈ [22] := by have := Array.mem_of_getElem? ht; simpa using this
        have hall : ([22].all fun u => !Tryz.prog.wantsStandIn u) = true := by kernel_rfl
        exact (show Tryz.prog.wantsStandIn t = false by simpa using List.all_eq_true.1 hall t hm)⟩)
    (by kernel_rfl)
end Go.Proofs.YtjibdaigclgmhaaGreatDoor.lexPrints
namespace Go.Proofs.YtjibdaigclgmhaaGreatDoor
/-- The card, under a short name, for the claim. -/
theorem lexPrints_card_holds : Rows.LexPrintsCardSaid := lexPrints.card
end Go.Proofs.YtjibdaigclgmhaaGreatDoor
