/- A play among the arguments, opened; a text. Conditions: those that each theorem states. -/
import Derived.Test.YtkfjjmmpbfjhaaaGreatDoorScrFact
namespace Go.Proofs.YtkfjjmmpbfjhaaaGreatDoor.Opening
open Go.ChangeShapes Go.WideShapes Go.ChangeAt Go.RowKit
open Go.ChangeMaps (open_string shut_string)
open Go.Proofs.YtkfjjmmpbfjhaaaGreatDoor.Tells Go.Proofs.YtkfjjmmpbfjhaaaGreatDoor.PScriptActs Go.Proofs.YtkfjjmmpbfjhaaaGreatDoorW.PrintWords Go.Proofs.YtkfjjmmpbfjhaaaGreatDoorW.PrintLast Go.Proofs.YtkfjjmmpbfjhaaaGreatDoorW.PrintMore
set_option linter.unusedVariables false
theorem env_of_prints {W : World} (h : laidMetH Tryz.prog Rows.scriptPrintsUptoRow.laid W) : Env W := env_of_acts h
theorem slice_form {H : Type} {enc : TypeId × Value → H} {w : World} {base fuel : Nat} {spare : Nat → Bool} {held : Bool} {v : Value} {x : DataW H × List MemPlace} (hf : DataW.trod enc Tryz.prog w base spare held fuel 22 [v] = some x) : ∃ A len cap, v = .slice A len cap := by
  rcases Go.Deep.open_slice Tryz.underlying22 hf with ⟨hcs, _⟩ | ⟨a, len, cap, m, n, D, Pl, hcs, _⟩
  · exact ⟨_, _, _, by simpa using hcs⟩
  · exact ⟨_, _, _, by simpa using hcs⟩
set_option maxRecDepth 100000 in
/-- a play, opened -/
theorem open_play {H : Type} {enc : TypeId × Value → H} {W : World} {base b0 : Nat} {spare : Nat → Bool} {held : Bool} {r : Reach} {v : Value} {d : DataW H} {ps : List MemPlace}
    (hv : Value.okWide Tryz.prog W r b0 24 v) (hd : DataW.Trod enc Tryz.prog W base spare held 24 v d ps) (hb : Rows.uptoBulk d ≤ 1048576) :
    ∃ p0 p1 A c, ∃ l : List S31, v = .agg #[.int .i64 p0, .int .i64 p1, .slice A l.length c] ∧ inI p0 ∧ inI p1 ∧ Kd.C k31 W A l.length l ∧ l.length ≤ c ∧ l.length ≤ 1048576 ∧ ∀ a ∈ l, Aok a := by
  obtain ⟨cs, rfl, hsz⟩ := okWide_struct Tryz.underlying24 hv
  obtain ⟨fuel, hf⟩ := hd
  have hc24 : Tryz.prog.cellsOf 24 = 3 := by kernel_rfl
  have hc22 : Tryz.prog.cellsOf 22 = 1 := by kernel_rfl
  have hc3 : Tryz.prog.cellsOf 3 = 1 := by kernel_rfl
  rw [hc24] at hsz
  obtain ⟨c0, c1, c2, rfl⟩ : ∃ c0 c1 c2, cs = #[c0, c1, c2] := by
    obtain ⟨l⟩ := cs
    match l, hsz with
    | [c0, c1, c2], _ => exact ⟨_, _, _, rfl⟩
  simp only [Value.cells] at hf
  obtain ⟨ys, m, _, hx, hl, hlen, hfs⟩ := Go.DataW.trod_struct Tryz.underlying24 hf
  simp only [Prod.mk.injEq] at hx
  obtain ⟨rfl, rfl⟩ := hx
  match ys, hlen with
  | [y0, y1, y2], _ =>
  have g0 := hfs 0 _ rfl
  have g1 := hfs 1 _ rfl
  have g2 := hfs 2 _ rfl
  simp [hc22, hc3] at g0 g1 g2
  obtain ⟨p0, e0, rfl, w0⟩ := Go.DataW.trod_int Tryz.underlying3 g0
  obtain ⟨p1, e1, rfl, w1⟩ := Go.DataW.trod_int Tryz.underlying3 g1
  obtain ⟨A, len, cap, e2⟩ := slice_form g2
  simp at e0 e1
  subst e0 e1 e2
  simp [Rows.uptoBulk, Rows.uptoBulkAll] at hb
  obtain ⟨l, rfl, hC, hc, hn, ha⟩ := open_acts g2 (by omega)
  exact ⟨p0, p1, A, cap, l, rfl, bounds_i64 w0, bounds_i64 w1, hC, hc, hn, ha⟩
end Go.Proofs.YtkfjjmmpbfjhaaaGreatDoor.Opening
