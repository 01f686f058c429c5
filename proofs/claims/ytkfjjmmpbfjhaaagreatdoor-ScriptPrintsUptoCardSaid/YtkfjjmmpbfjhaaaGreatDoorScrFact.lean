/- The type of errors.errorString's pointer, by its name; what the listed variables give. Conditions: those that each theorem states. -/
import Derived.Test.YtkfjjmmpbfjhaaaGreatDoorScrOpen
import Derived.Stop.LaidErr
import Derived.Lib.LaidTab
import Derived.LaidHandle
import Derived.MakeChecks
import Derived.RowKitTokens
namespace Go.Proofs.YtkfjjmmpbfjhaaaGreatDoor.Opening
open Go.RowKit Go.ChangeShapes
theorem star_es : "*" ++ "errors.errorString" = "*errors.errorString" := by decide
theorem row195 (u : TypeId) (h : Tryz.prog.typeName? 3 u = some "*errors.errorString") : u = 195 :=
  typeName_ptr_named (nm := "errors.errorString") (by rw [star_es]; kernel_rfl) (by kernel_rfl) (by decide) u (by rw [star_es]; exact h)
theorem gNib : Tryz.prog.globalNamed "kiln/script.nibbles" = some 2 := by kernel_rfl
theorem gPow : Tryz.prog.globalNamed "internal/strconv.uint64pow10" = some 4 := by kernel_rfl
theorem hexs : ∀ m : Fin 16, ([48, 49, 50, 51, 52, 53, 54, 55, 56, 57, 97, 98, 99, 100, 101, 102] : List Int).getD m.val 0 = ((Tells.hexc m.val).toNat : Int) := by decide +kernel
theorem env_of_acts {W : World} (h : laidMetH Tryz.prog Rows.scriptActsUptoRow.laid W) : Tells.Env W := by
  rw [MakeChecks.laidMetH_plain _ _ _ (by kernel_rfl)] at h
  have h2 := laidMet.tail (laidMet.tail h)
  have hP := Lib.tabIs_of_head (k := .u64) (zs := Lib.pow10Tab) gPow (t := 168) (e := 157) (n := 20) (by kernel_rfl) (by kernel_rfl) (by kernel_rfl) (by kernel_rfl) (by kernel_rfl) h2
  have h3 := laidMet.tail h2
  obtain ⟨a1, s1, hv1, _, _, _⟩ := laid_sentinel h3 (g := 8) (ti := 45) (tp := 195) (te := 197) (ts := 9) (by kernel_rfl) (by kernel_rfl) Tryz.underlying45 row195 Tryz.underlying195 Tryz.underlying197 rfl rfl Tryz.underlying9 (by kernel_rfl) (by kernel_rfl)
  have h4 := laidMet.tail h3
  obtain ⟨a2, s2, hv2, _, _, _⟩ := laid_sentinel h4 (g := 7) (ti := 45) (tp := 195) (te := 197) (ts := 9) (by kernel_rfl) (by kernel_rfl) Tryz.underlying45 row195 Tryz.underlying195 Tryz.underlying197 rfl rfl Tryz.underlying9 (by kernel_rfl) (by kernel_rfl)
  have h5 := laidMet.tail h4
  have hT := Lib.tabIs_of_head (k := .u8) (zs := [48, 49, 50, 51, 52, 53, 54, 55, 56, 57, 97, 98, 99, 100, 101, 102]) gNib (t := 162) (e := 5) (n := 16) (by kernel_rfl) (by kernel_rfl) (by kernel_rfl) (by kernel_rfl) (by kernel_rfl) h5
  refine ⟨hP, fun n hn => ?_, ⟨195, _, World.var?_cell (by kernel_rfl) hv2 0⟩, ⟨195, _, World.var?_cell (by kernel_rfl) hv1 0⟩⟩
  have key := hT.cell gNib n (by simpa using hn)
  rw [hexs ⟨n, hn⟩] at key
  exact key
end Go.Proofs.YtkfjjmmpbfjhaaaGreatDoor.Opening
