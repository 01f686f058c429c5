/- An argument's acts, opened: a list of acts of bounded bulk. The type of errors.errorString's pointer, by its name; what the listed variables give. What the listed variables of the later laws give. A play among the arguments, opened; a text. An argument's play, opened: with the bulk of all its acts. Conditions: those that each theorem states. -/
import Derived.Test.YtkfjjmmpbfjhaaaGreatDoorScrTU
import Derived.Test.YtkfjjmmpbfjhaaaGreatDoorRows
import Derived.Deep.Slices
import Derived.WalkKit
import Derived.ProofKit
import Derived.OpenShut
import Derived.ShutString
import Derived.ChangeOld
import Derived.Below
import Derived.SizedLaws
import Derived.Stop.LaidErr
import Derived.Lib.LaidTab
import Derived.LaidHandle
import Derived.MakeChecks
import Derived.RowKitTokens
import Derived.Test.YtkfjjmmpbfjhaaaGreatDoorScrX4
import Derived.Test.YtkfjjmmpbfjhaaaGreatDoorScrX5
namespace Go.Proofs.YtkfjjmmpbfjhaaaGreatDoor.Opening
open Go.ChangeShapes Go.WideShapes Go.ChangeAt Go.RowKit
open Go.ChangeMaps (open_string shut_string)
open Go.Proofs.YtkfjjmmpbfjhaaaGreatDoor.Tells Go.Proofs.YtkfjjmmpbfjhaaaGreatDoor.PScriptActs Go.Proofs.YtkfjjmmpbfjhaaaGreatDoorW.PrintWords Go.Proofs.YtkfjjmmpbfjhaaaGreatDoorW.PrintLast Go.Proofs.YtkfjjmmpbfjhaaaGreatDoorW.PrintMore
set_option linter.unusedVariables false
theorem bulk_sum {H : Type} : ∀ l : List (DataW H), Rows.uptoBulkAll l = (l.map Rows.uptoBulk).sum
  | [] => by simp [Rows.uptoBulkAll]
  | d :: r => by rw [Rows.uptoBulkAll, bulk_sum r, List.map_cons, List.sum_cons]
theorem bulk_pos {H : Type} (d : DataW H) : 1 ≤ Rows.uptoBulk d := by
  cases d with
  | lit x => cases x <;> simp [Rows.uptoBulk]
  | _ => simp [Rows.uptoBulk]
/-- things chosen place by place, as a list -/
theorem list_of {α : Type} {p : Nat → α → Prop} : ∀ n : Nat, (∀ i, i < n → ∃ x, p i x) → ∃ l : List α, l.length = n ∧ ∀ i x, l[i]? = some x → p i x
  | 0, _ => ⟨[], rfl, fun i x h => by simp at h⟩
  | n + 1, h => by
    obtain ⟨l, hl, hp⟩ := list_of n (fun i hi => h i (by omega))
    obtain ⟨x, hx⟩ := h n (by omega)
    refine ⟨l ++ [x], by simp [hl], fun i y hy => ?_⟩
    by_cases hi : i < n
    · rw [List.getElem?_append_left (by omega)] at hy; exact hp i y hy
    · have hlt := (List.getElem?_eq_some_iff.1 hy).1
      simp at hlt
      obtain rfl : i = n := by omega
      rw [List.getElem?_append_right (by omega)] at hy
      simp [hl] at hy
      exact hy ▸ hx
theorem mem_sum : ∀ {l : List Nat} {x : Nat}, x ∈ l → x ≤ l.sum
  | a :: r, x, h => by
    rw [List.sum_cons]
    rcases List.mem_cons.1 h with rfl | h
    · exact Nat.le_add_right _ _
    · exact Nat.le_trans (mem_sum h) (Nat.le_add_left _ _)
theorem sum_one : ∀ l : List ByteArray, (l.map (fun s : ByteArray => s.size + 1)).sum = (l.map (·.size)).sum + l.length
  | [] => rfl
  | s :: r => by have := sum_one r; simp only [List.map_cons, List.sum_cons, List.length_cons] at this ⊢; omega
theorem ones {α : Type} : ∀ l : List α, (l.map (fun _ => 1)).sum = l.length
  | [] => rfl
  | s :: r => by have := ones r; simp only [List.map_cons, List.sum_cons, List.length_cons] at this ⊢; omega
theorem bulk_app {H : Type} (a b : List (DataW H)) : Rows.uptoBulkAll (a ++ b) = Rows.uptoBulkAll a + Rows.uptoBulkAll b := by rw [bulk_sum, bulk_sum, bulk_sum, List.map_append, List.sum_append]
theorem bulk_list {α H : Type} (D : Nat → DataW H) (l : List α) (f : α → Nat) (h : ∀ (i : Nat) x, l[i]? = some x → f x ≤ Rows.uptoBulk (D i)) : (l.map f).sum ≤ Rows.uptoBulkAll ((List.range l.length).map D) := by
  have key : ∀ n, n ≤ l.length → ((l.take n).map f).sum ≤ Rows.uptoBulkAll ((List.range n).map D) := by
    intro n
    induction n with
    | zero => intro _; simp
    | succ n ih =>
      intro hn
      have := ih (by omega)
      rw [List.take_add_one, List.getElem?_eq_getElem (show n < l.length by omega), List.map_append, List.sum_append, List.range_succ, List.map_append, bulk_app]
      have h1 := h n l[n] (List.getElem?_eq_getElem (by omega))
      simp only [Option.toList_some, List.map_cons, List.map_nil, List.sum_cons, List.sum_nil, Rows.uptoBulkAll]
      omega
  have := key l.length (Nat.le_refl _)
  rw [List.take_length] at this
  exact this
/-- a list of strings, opened -/
theorem open_names {H : Type} {enc : TypeId × Value → H} {w : World} {base fuel : Nat} {spare : Nat → Bool} {held : Bool} {v : Value} {x : DataW H × List MemPlace} (hf : DataW.trod enc Tryz.prog w base spare held fuel 29 [v] = some x) :
    ∃ A cap l, v = .slice A l.length cap ∧ l.length ≤ cap ∧ Kd.C Kd.string w A l.length l ∧ (l.map (fun s : ByteArray => s.size + 1)).sum + 1 ≤ Rows.uptoBulk x.1 := by
  rcases Go.Deep.open_slice Tryz.underlying29 hf with ⟨hcs, hx⟩ | ⟨a, len, cap, m, n, D, Pl, hcs, _, hl, hm, hmm, hxe, hx⟩
  · simp at hcs
    subst hcs
    exact ⟨none, 0, [], rfl, Nat.le_refl _, Kd.C_nil _ _, by simpa using bulk_pos x.1⟩
  · simp at hcs
    subst hcs
    have hone9 : Tryz.prog.cellsOf 9 = 1 := by kernel_rfl
    rw [hone9] at hx
    have hlm : len ≤ m := by rw [hmm]; split <;> omega
    obtain ⟨l, hll, hp⟩ := list_of (p := fun i (s : ByteArray) => w.cell? (a.add i) = some (.string s) ∧ s.size + 1 ≤ Rows.uptoBulk (D i)) len (fun i hi => by
      obtain ⟨cs', hc, ht⟩ := hx i (by omega)
      obtain ⟨_, hlen, hat⟩ := World.cells?_some hc
      match cs', hlen with
      | [c0], _ =>
        obtain ⟨s, e0, hd, _⟩ := DataW.trod_string Tryz.underlying9 ht
        simp at e0
        subst e0
        refine ⟨s, ?_, ?_⟩
        · have := hat 0 (by omega)
          rw [add_add] at this
          simpa using this
        · have : D i = .lit (.string s.data.toList) := by injection hd
          rw [this]
          simp [Rows.uptoBulk])
    refine ⟨some a, cap, l, by rw [hll], by omega, ⟨rfl, by rw [hll]; unfold maxLen at hm; omega, fun hn => ⟨a, rfl, fun j s hj => ⟨[.string s], rfl, rfl, fun i u hu => ?_⟩⟩⟩, ?_⟩
    · match i, hu with
      | 0, hu =>
        cases hu
        rw [show j * Kd.string.sz + 0 = j from by show j * 1 + 0 = j; omega]
        exact (hp j s hj).1
    · rw [hxe]
      have := bulk_list D l (fun s => s.size + 1) (fun i s hs => (hp i s hs).2)
      rw [hll] at this
      show _ ≤ Rows.uptoBulk (.slice _ _)
      rw [Rows.uptoBulk]
      omega
end Go.Proofs.YtkfjjmmpbfjhaaaGreatDoor.Opening
namespace Go.Proofs.YtkfjjmmpbfjhaaaGreatDoor.Opening
open Go.RowKit Go.ChangeShapes
theorem star_es : "*" ++ "errors.errorString" = "*errors.errorString" := by decide
theorem row195 (u : TypeId) (h : Tryz.prog.typeName? 3 u = some "*errors.errorString") : u = 195 :=
  typeName_ptr_named (nm := "errors.errorString") (by rw [star_es]; kernel_rfl) (by kernel_rfl) (by decide) u (by rw [star_es]; exact h)
theorem gNib : Tryz.prog.globalNamed "kiln/script.nibbles" = some 2 := by kernel_rfl
theorem gPow : Tryz.prog.globalNamed "internal/strconv.uint64pow10" = some 4 := by kernel_rfl
theorem hexs : ∀ m : Fin 16, ([48, 49, 50, 51, 52, 53, 54, 55, 56, 57, 97, 98, 99, 100, 101, 102] : List Int).getD m.val 0 = ((Tells.hexc m.val).toNat : Int) := by decide +kernel
end Go.Proofs.YtkfjjmmpbfjhaaaGreatDoor.Opening
namespace Go.Proofs.YtkfjjmmpbfjhaaaGreatDoor.Opening
open Go.RowKit Go.ChangeShapes
theorem env_of_round {W : World} (h : laidMetH Tryz.prog Rows.scriptRoundUptoRow.laid W) : Tells.Env W := by
  rw [MakeChecks.laidMetH_plain _ _ _ (by kernel_rfl)] at h
  have h2 := laidMet.tail (laidMet.tail h)
  have hP := Lib.tabIs_of_head (k := .u64) (zs := Lib.pow10Tab) gPow (t := 168) (e := 157) (n := 20) (by kernel_rfl) (by kernel_rfl) (by kernel_rfl) (by kernel_rfl) (by kernel_rfl) h2
  have h3 := laidMet.tail (laidMet.tail h2)
  obtain ⟨a1, s1, hv1, _, _, _⟩ := laid_sentinel h3 (g := 8) (ti := 45) (tp := 195) (te := 197) (ts := 9) (by kernel_rfl) (by kernel_rfl) Tryz.underlying45 row195 Tryz.underlying195 Tryz.underlying197 rfl rfl Tryz.underlying9 (by kernel_rfl) (by kernel_rfl)
  have h4 := laidMet.tail h3
  obtain ⟨a2, s2, hv2, _, _, _⟩ := laid_sentinel h4 (g := 7) (ti := 45) (tp := 195) (te := 197) (ts := 9) (by kernel_rfl) (by kernel_rfl) Tryz.underlying45 row195 Tryz.underlying195 Tryz.underlying197 rfl rfl Tryz.underlying9 (by kernel_rfl) (by kernel_rfl)
  have h5 := laidMet.tail h4
  have hT := Lib.tabIs_of_head (k := .u8) (zs := [48, 49, 50, 51, 52, 53, 54, 55, 56, 57, 97, 98, 99, 100, 101, 102]) gNib (t := 162) (e := 5) (n := 16) (by kernel_rfl) (by kernel_rfl) (by kernel_rfl) (by kernel_rfl) (by kernel_rfl) h5
  refine ⟨hP, fun n hn => ?_, ⟨195, _, World.var?_cell (by kernel_rfl) hv2 0⟩, ⟨195, _, World.var?_cell (by kernel_rfl) hv1 0⟩⟩
  have key := hT.cell gNib n (by simpa using hn)
  rw [hexs ⟨n, hn⟩] at key
  exact key
theorem mx_of {W : World} (h : W.ShapedOpen Tryz.prog) : Tells.Mx W := Tryz.laysM146.s1_3 W h
end Go.Proofs.YtkfjjmmpbfjhaaaGreatDoor.Opening
namespace Go.Proofs.YtkfjjmmpbfjhaaaGreatDoor.Opening
open Go.ChangeShapes Go.WideShapes Go.ChangeAt Go.RowKit
open Go.ChangeMaps (open_string shut_string)
open Go.Proofs.YtkfjjmmpbfjhaaaGreatDoor.Tells Go.Proofs.YtkfjjmmpbfjhaaaGreatDoor.PScriptActs Go.Proofs.YtkfjjmmpbfjhaaaGreatDoorW.PrintWords Go.Proofs.YtkfjjmmpbfjhaaaGreatDoorW.PrintLast Go.Proofs.YtkfjjmmpbfjhaaaGreatDoorW.PrintMore
set_option linter.unusedVariables false
theorem slice_form {H : Type} {enc : TypeId × Value → H} {w : World} {base fuel : Nat} {spare : Nat → Bool} {held : Bool} {v : Value} {x : DataW H × List MemPlace} (hf : DataW.trod enc Tryz.prog w base spare held fuel 22 [v] = some x) : ∃ A len cap, v = .slice A len cap := by
  rcases Go.Deep.open_slice Tryz.underlying22 hf with ⟨hcs, _⟩ | ⟨a, len, cap, m, n, D, Pl, hcs, _⟩
  · exact ⟨_, _, _, by simpa using hcs⟩
  · exact ⟨_, _, _, by simpa using hcs⟩
end Go.Proofs.YtkfjjmmpbfjhaaaGreatDoor.Opening
namespace Go.Proofs.YtkfjjmmpbfjhaaaGreatDoor.Opening
open Go.ChangeShapes Go.WideShapes Go.ChangeAt Go.RowKit
open Go.ChangeMaps (open_string shut_string)
open Go.Proofs.YtkfjjmmpbfjhaaaGreatDoor.Tells Go.Proofs.YtkfjjmmpbfjhaaaGreatDoor.PScriptActs Go.Proofs.YtkfjjmmpbfjhaaaGreatDoorW.PrintWords Go.Proofs.YtkfjjmmpbfjhaaaGreatDoorW.PrintLast Go.Proofs.YtkfjjmmpbfjhaaaGreatDoorW.PrintMore
set_option linter.unusedVariables false
set_option maxHeartbeats 1000000 in
set_option maxRecDepth 100000 in
/-- one act, opened -/
theorem open_act2 {H : Type} {enc : TypeId × Value → H} {w : World} {base fuel : Nat} {spare : Nat → Bool} {held : Bool} {cs : List Value} {x : DataW H × List MemPlace} (hl : cs.length = 7) (hf : DataW.trod enc Tryz.prog w base spare held fuel 31 cs = some x) (hb0 : Rows.uptoBulk x.1 ≤ 1048576) {B : Nat} (hb : Rows.uptoBulk x.1 ≤ B) :
    ∃ (a : S31) (A : Option Addr) (c : Nat), cs = [.int .i64 a.f0, .string a.f1, .string a.f2, .slice A a.f3.length c, .string a.f4, .int .i64 a.f5, .int .i64 a.f6] ∧ a.f3.length ≤ c ∧ Kd.C Kd.string w A a.f3.length a.f3 ∧ Aok a ∧ wtA a ≤ B := by
  have hc3 : Tryz.prog.cellsOf 3 = 1 := by kernel_rfl
  have hc9 : Tryz.prog.cellsOf 9 = 1 := by kernel_rfl
  have hc29 : Tryz.prog.cellsOf 29 = 1 := by kernel_rfl
  obtain ⟨ys, n', _, hx, _, hys, hg⟩ := DataW.trod_struct Tryz.underlying31 hf
  match cs, hl with
  | [c0, c1, c2, c3, c4, c5, c6], _ =>
    have g0 := hg 0 _ rfl
    have g1 := hg 1 _ rfl
    have g2 := hg 2 _ rfl
    have g3 := hg 3 _ rfl
    have g4 := hg 4 _ rfl
    have g5 := hg 5 _ rfl
    have g6 := hg 6 _ rfl
    match ys, hys with
    | [y0, y1, y2, y3, y4, y5, y6], _ =>
      simp [hc3, hc9, hc29] at g0 g1 g2 g3 g4 g5 g6
      obtain ⟨x0, e0, rfl, b0⟩ := DataW.trod_int Tryz.underlying3 g0
      obtain ⟨x1, e1, rfl, _⟩ := DataW.trod_string Tryz.underlying9 g1
      obtain ⟨x2, e2, rfl, _⟩ := DataW.trod_string Tryz.underlying9 g2
      obtain ⟨A, c, l, e3, hl3, hC3, hb3⟩ := open_names g3
      obtain ⟨x4, e4, rfl, _⟩ := DataW.trod_string Tryz.underlying9 g4
      obtain ⟨x5, e5, rfl, b5⟩ := DataW.trod_int Tryz.underlying3 g5
      obtain ⟨x6, e6, rfl, b6⟩ := DataW.trod_int Tryz.underlying3 g6
      simp at e0 e1 e2 e4 e5 e6
      subst e0 e1 e2 e3 e4 e5 e6
      rw [hx] at hb hb0
      simp [Rows.uptoBulk, Rows.uptoBulkAll] at hb hb0
      have hsum := sum_one l
      rw [hsum] at hb3
      refine ⟨⟨x0, x1, x2, l, x4, x5, x6⟩, A, c, rfl, hl3, hC3, ?_, by unfold wtA; show x1.size + x2.size + x4.size + ((l.map (·.size)).sum + l.length) + 1 ≤ B; omega⟩
      have hmem : ∀ s ∈ l, s.size ≤ (l.map (·.size)).sum := fun s hs => by
        obtain ⟨i, hi⟩ := List.mem_iff_getElem?.1 hs
        have : s.size ∈ l.map (·.size) := List.mem_map.2 ⟨s, hs, rfl⟩
        exact mem_sum this
      constructor
      · exact bounds_i64 b0
      · show x1.size ≤ _; omega
      · show x2.size ≤ _; omega
      · intro s hs; have := hmem s hs; omega
      · show l.length ≤ _; omega
      · show x4.size ≤ _; omega
      · exact bounds_i64 b5
      · exact bounds_i64 b6
      · show (l.map (·.size)).sum ≤ _; omega
set_option maxRecDepth 100000 in
/-- a list of acts, opened -/
theorem open_acts2 {H : Type} {enc : TypeId × Value → H} {w : World} {base fuel : Nat} {spare : Nat → Bool} {held : Bool} {A : Option Addr} {len cap : Nat} {x : DataW H × List MemPlace}
    (hf : DataW.trod enc Tryz.prog w base spare held fuel 22 [.slice A len cap] = some x) (hb : Rows.uptoBulk x.1 ≤ 1048576) : ∃ l : List S31, l.length = len ∧ Kd.C k31 w A l.length l ∧ l.length ≤ cap ∧ l.length ≤ 1048576 ∧ (∀ a ∈ l, Aok a) ∧ (l.map wtA).sum ≤ 1048576 := by
  rcases Go.Deep.open_slice Tryz.underlying22 hf with ⟨hcs, _⟩ | ⟨a, len', cap', m, n, D, Pl, hcs, _, hl, hm, hmm, hxe, hx⟩
  · simp at hcs
    obtain ⟨rfl, rfl, rfl⟩ := hcs
    exact ⟨[], rfl, Kd.C_nil _ _, Nat.le_refl _, by simp, fun x hx => (by cases hx), by simp⟩
  · simp at hcs
    obtain ⟨rfl, rfl, rfl⟩ := hcs
    have hcells : Tryz.prog.cellsOf 31 = 7 := by kernel_rfl
    rw [hcells] at hx
    have hlm : len ≤ m := by rw [hmm]; split <;> omega
    have hbx : Rows.uptoBulkAll ((List.range len).map D) + 1 ≤ Rows.uptoBulk x.1 := by
      rw [hxe]
      show _ ≤ Rows.uptoBulk (.slice _ _)
      rw [Rows.uptoBulk]
      omega
    have hbi : ∀ i, i < len → Rows.uptoBulk (D i) ≤ 1048576 := fun i hi => by
      have : Rows.uptoBulk (D i) ≤ Rows.uptoBulkAll ((List.range len).map D) := by
        rw [bulk_sum]
        exact mem_sum (List.mem_map.2 ⟨D i, List.mem_map.2 ⟨i, List.mem_range.2 hi, rfl⟩, rfl⟩)
      omega
    obtain ⟨l, hll, hp⟩ := list_of (p := fun i (a' : S31) => (∃ A3 c3, (∀ j u, [Value.int .i64 a'.f0, .string a'.f1, .string a'.f2, .slice A3 a'.f3.length c3, .string a'.f4, .int .i64 a'.f5, .int .i64 a'.f6][j]? = some u → w.cell? (a.add (i * 7 + j)) = some u) ∧ a'.f3.length ≤ c3 ∧ Kd.C Kd.string w A3 a'.f3.length a'.f3) ∧ Aok a' ∧ wtA a' ≤ Rows.uptoBulk (D i)) len (fun i hi => by
      obtain ⟨cs', hc, ht⟩ := hx i (by omega)
      obtain ⟨_, hlen, hat⟩ := World.cells?_some hc
      obtain ⟨a', A3, c3, e, h1, h2, h3⟩ := open_act2 hlen ht (hbi i hi) (Nat.le_refl _)
      refine ⟨a', ⟨A3, c3, fun j u hu => ?_, h1, h2⟩, h3⟩
      have hj : j < 7 := by have := (List.getElem?_eq_some_iff.1 hu).1; simpa using this
      have := hat j hj
      rw [add_add] at this
      rw [this, e]; exact hu)
    have hlb : l.length ≤ 1048576 := by
      have := bulk_list D l (fun _ => 1) (fun i _ _ => bulk_pos (D i))
      rw [hll] at this
      have e : (l.map (fun _ : S31 => 1)).sum = l.length := ones l
      rw [e] at this
      omega
    have hwt : (l.map wtA).sum ≤ 1048576 := by
      have := bulk_list D l wtA (fun i x hx => (hp i x hx).2.2)
      rw [hll] at this
      omega
    refine ⟨l, hll, ⟨rfl, by omega, fun hn => ⟨a, rfl, fun j x hj => ?_⟩⟩, by omega, hlb, fun a' ha => ?_, hwt⟩
    · obtain ⟨⟨A3, c3, h1, h2, h3⟩, _⟩ := hp j x hj
      exact ⟨_, rfl, k31_mk w x h2 h3, fun i u hu => h1 i u hu⟩
    · obtain ⟨j, hj⟩ := List.mem_iff_getElem?.1 ha
      exact (hp j a' hj).2.1
set_option maxRecDepth 100000 in
/-- a play, opened -/
theorem open_play2 {H : Type} {enc : TypeId × Value → H} {W : World} {base b0 : Nat} {spare : Nat → Bool} {held : Bool} {r : Reach} {v : Value} {d : DataW H} {ps : List MemPlace}
    (hv : Value.okWide Tryz.prog W r b0 24 v) (hd : DataW.Trod enc Tryz.prog W base spare held 24 v d ps) (hb : Rows.uptoBulk d ≤ 1048576) :
    ∃ p0 p1 A c, ∃ l : List S31, v = .agg #[.int .i64 p0, .int .i64 p1, .slice A l.length c] ∧ inI p0 ∧ inI p1 ∧ Kd.C k31 W A l.length l ∧ l.length ≤ c ∧ l.length ≤ 1048576 ∧ (∀ a ∈ l, Aok a) ∧ (l.map wtA).sum ≤ 1048576 := by
  obtain ⟨cs, rfl, hsz⟩ := okWide_struct Tryz.underlying24 hv
  obtain ⟨fuel, hf⟩ := hd
  have hc24 : Tryz.prog.cellsOf 24 = 3 := by kernel_rfl
  have hc22 : Tryz.prog.cellsOf 22 = 1 := by kernel_rfl
  have hc3 : Tryz.prog.cellsOf 3 = 1 := by kernel_rfl
  rw [hc24] at hsz
  obtain ⟨c0, c1, c2, rfl⟩ : ∃ c0 c1 c2, cs = #[c0, c1, c2] := by
    obtain ⟨l⟩ := cs
    match l, hsz with
    | [c0, c1, c2], _ => exact ⟨_, _, _, rfl⟩
  simp only [Value.cells] at hf
  obtain ⟨ys, m, _, hx, hl, hlen, hfs⟩ := Go.DataW.trod_struct Tryz.underlying24 hf
  simp only [Prod.mk.injEq] at hx
  obtain ⟨rfl, rfl⟩ := hx
  match ys, hlen with
  | [y0, y1, y2], _ =>
  have g0 := hfs 0 _ rfl
  have g1 := hfs 1 _ rfl
  have g2 := hfs 2 _ rfl
  simp [hc22, hc3] at g0 g1 g2
  obtain ⟨p0, e0, rfl, w0⟩ := Go.DataW.trod_int Tryz.underlying3 g0
  obtain ⟨p1, e1, rfl, w1⟩ := Go.DataW.trod_int Tryz.underlying3 g1
  obtain ⟨A, len, cap, e2⟩ := slice_form g2
  simp at e0 e1
  subst e0 e1 e2
  simp [Rows.uptoBulk, Rows.uptoBulkAll] at hb
  obtain ⟨l, rfl, hC, hc, hn, ha⟩ := open_acts2 g2 (by omega)
  exact ⟨p0, p1, A, cap, l, rfl, bounds_i64 w0, bounds_i64 w1, hC, hc, hn, ha⟩
end Go.Proofs.YtkfjjmmpbfjhaaaGreatDoor.Opening
