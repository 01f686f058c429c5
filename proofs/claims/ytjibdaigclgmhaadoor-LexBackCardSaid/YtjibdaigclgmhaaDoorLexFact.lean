/- What the laid variables give: strconv.ErrRange holds an error. Conditions: the row's list of laid variables is met. -/
import Derived.Test.YtjibdaigclgmhaaDoorLexI
import Derived.Test.YtjibdaigclgmhaaDoorRows
import Derived.Stop.LaidErr
import Derived.Lib.LaidTab
import Derived.LaidHandle
import Derived.MakeChecks
import Derived.RowKitTokens
namespace Go.Proofs.YtjibdaigclgmhaaDoor
open Go.RowKit Go.ChangeShapes
theorem star_es : "*" ++ "errors.errorString" = "*errors.errorString" := by decide
theorem row138 (u : TypeId) (h : Tryd.prog.typeName? 3 u = some "*errors.errorString") : u = 138 :=
  typeName_ptr_named (nm := "errors.errorString") (by rw [star_es]; kernel_rfl) (by kernel_rfl) (by decide) u (by rw [star_es]; exact h)
theorem erg_of_laid {W : World} (h : laidMetH Tryd.prog Rows.lexPiecesRow.laid W) : LexW.Erg W := by
  rw [MakeChecks.laidMetH_plain _ _ _ (by kernel_rfl)] at h
  have h4 := laidMet.tail (laidMet.tail (laidMet.tail h))
  obtain ⟨a1, s1, hv1, _, _, _⟩ := laid_sentinel h4 (g := 5) (ti := 85) (tp := 138) (te := 140) (ts := 9) (by kernel_rfl) (by kernel_rfl) Tryd.underlying85 row138 Tryd.underlying138 Tryd.underlying140 rfl rfl Tryd.underlying9 (by kernel_rfl) (by kernel_rfl)
  exact ⟨138, _, World.var?_cell (by kernel_rfl) hv1 0⟩
end Go.Proofs.YtjibdaigclgmhaaDoor
