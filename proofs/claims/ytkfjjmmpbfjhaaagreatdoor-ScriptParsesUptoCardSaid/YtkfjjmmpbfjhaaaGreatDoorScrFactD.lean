/- errors.Is over a line's error. ScriptParses' walk. An argument's acts, opened: a list of acts of bounded bulk. The type of errors.errorString's pointer, by its name; what the listed variables give. What the listed variables of the later laws give. What the listed variables of the last laws give (a type's handle among them), and a world in which they are laid. Conditions: those that each theorem states. -/
import Derived.Test.YtkfjjmmpbfjhaaaGreatDoorBuild
import Derived.WalkKit
import Derived.LaidEql
import Derived.Stop.Asserts
import Derived.RowKitTokens
import Derived.Test.YtkfjjmmpbfjhaaaGreatDoorScrZ3
import Derived.Test.YtkfjjmmpbfjhaaaGreatDoorScrX6
import Derived.Test.YtkfjjmmpbfjhaaaGreatDoorScrZ2
import Derived.Test.YtkfjjmmpbfjhaaaGreatDoorRows
import Derived.Deep.Slices
import Derived.ProofKit
import Derived.OpenShut
import Derived.ShutString
import Derived.ChangeOld
import Derived.Below
import Derived.SizedLaws
import Derived.Stop.LaidErr
import Derived.Lib.LaidTab
import Derived.LaidHandle
import Derived.MakeChecks
import Derived.Test.YtkfjjmmpbfjhaaaGreatDoorScrX4
import Derived.Lay
namespace Go.Proofs.YtkfjjmmpbfjhaaaGreatDoor.Tells
open Go.RowKit Go.Extern.Stop Go.Stop Go.Extern
theorem Tryz.isTypeOf (v : Value) (w : World) : (Extern.ReflectliteType.typeOf #[.iface 195 v]).run Tryz.prog w = .ok (.iface 127 (.agg #[.pointer (some ⟨16, 195, none⟩)])) w := by kernel_rfl
def cmpFn : Array Value → Sem Value := Extern.ReflectliteType.method fun t => do Go.Extern.Rtype.noPackHeld "Comparable" t; pure (.bool (← typeInfo t).comparable)
theorem Tryz.isComparable (w : World) : (cmpFn #[.agg #[.pointer (some ⟨16, 195, none⟩)]]).run Tryz.prog w = .ok (.bool true) w := by kernel_rfl
theorem Tryz.isMethodComparable (v : Value) (w : World) : (Go.method 333 127 v "Comparable").run Tryz.prog w = .ok (174, v) w := by kernel_rfl
theorem Tryz.isComp : (Tryz.prog.info? 195).map (·.comparable) = some true := by kernel_rfl
theorem Tryz.isSize : (Tryz.prog.info? 197).map (·.size) = some 1 := by kernel_rfl
theorem Tryz.noIsL (v : Value) (xT : TypeId) (w : World) : (Instr.typeAssert (.iface 55 v) xT 129 true).run Tryz.prog w = .ok (.tuple #[.nilIface, .bool false]) w := run_typeAssert_lacksB Tryz.underlying129 (by kernel_rfl) (by kernel_rfl) v xT w
theorem Tryz.hasUnwrapL (v : Value) (xT : TypeId) (w : World) : (Instr.typeAssert (.iface 55 v) xT 132 true).run Tryz.prog w = .ok (.tuple #[.iface 55 v, .bool true]) w := run_typeAssert_hasB Tryz.underlying132 (by kernel_rfl) v xT w
theorem Tryz.methodUnwrapL (v : Value) (w : World) : (Go.method 333 55 v "Unwrap").run Tryz.prog w = .ok (24, v) w := by kernel_rfl
/-- errors.Is(nil, x). -/
theorem is_nil (b : Addr) (w : World) :
    Calls Tryz.prog 22 #[.nilIface, .iface 195 (.pointer (some b))] w fun e w' => e = .returned (.bool false) ∧ w' = w := by
  have hn := run_eql_iface_nil_left (P := Tryz.prog) w 195 (.pointer (some b)) Tryz.underlying45
  go_enter Tryz.func22, Tryz.ntmps22
  go_wp2
  go_ret
  exact ⟨rfl, rfl⟩
set_option maxHeartbeats 4000000 in
set_option maxRecDepth 100000 in
/-- errors.Is(e, x), e a line's error, which wraps x. -/
theorem is_line (g : Nat) (b : Addr) (w : World) (h1 : w.cell? ⟨0, 0, none⟩ = some (.iface 195 (.pointer (some b)))) :
    Calls Tryz.prog 22 #[.iface 55 (.pointer (some ⟨g, 0, none⟩)), .iface 195 (.pointer (some b))] w fun e w' => e = .returned (.bool true) ∧ w' = w := by
  obtain ⟨i, hi, hcmp⟩ := Option.map_eq_some_iff.1 Tryz.isComp
  obtain ⟨j, hj, hjs⟩ := Option.map_eq_some_iff.1 Tryz.isSize
  have h8 := @run_callFunc_extern Tryz.prog 42 _ Extern.ReflectliteType.typeOf Tryz.func42 (by kernel_rfl) (by kernel_rfl) (by kernel_rfl) (by kernel_rfl)
  have h32 := @run_callFunc_extern Tryz.prog 174 _ cmpFn Tryz.func174 (by kernel_rfl) (by kernel_rfl) (by kernel_rfl) (by kernel_rfl)
  have tT := Tryz.isTypeOf
  have cT := Tryz.isComparable
  have mR := Tryz.isMethodComparable
  have nW := Tryz.noIsL
  have uW := Tryz.hasUnwrapL
  have mU := Tryz.methodUnwrapL
  have heq := run_eql_iface_ptr_same (P := Tryz.prog) w b Tryz.underlying45 Tryz.underlying195 hi hcmp hj
  have hty := run_eql_iface_types (P := Tryz.prog) 55 195 (.pointer (some ⟨g, 0, none⟩)) (.pointer (some b)) Tryz.underlying45 (by decide) w
  go_enter Tryz.func22, Tryz.ntmps22
  go_wp2
  refine wp_loop_rounds 2 ?_
  rw [rounds_succ]
  go_wp2
  rw [rounds_succ]
  go_wp2
  go_ret
  exact ⟨rfl, rfl⟩
end Go.Proofs.YtkfjjmmpbfjhaaaGreatDoor.Tells
namespace Go.Proofs.YtkfjjmmpbfjhaaaGreatDoor.Tells
open Go.RowKit Go.Proofs.YtkfjjmmpbfjhaaaGreatDoor.Facts Go.Proofs.YtkfjjmmpbfjhaaaGreatDoor.PScriptActs Go.Proofs.YtkfjjmmpbfjhaaaGreatDoorW.PrintWords Go.Proofs.YtkfjjmmpbfjhaaaGreatDoorW.PrintLast Go.Proofs.YtkfjjmmpbfjhaaaGreatDoorW.PrintMore
attribute [local go_sem] max2_int min2_int max_two min_two max_three min_three max_four min_four
set_option linter.unusedVariables false
set_option linter.unusedSimpArgs false
theorem is_any (er : Value) (l c : Int) (ra : Addr) (w : World) (h : ErrIs er l c w) (h0 : w.cell? ⟨0, 0, none⟩ = some (.iface 195 (.pointer (some ra)))) : Calls Tryz.prog 22 #[er, .iface 195 (.pointer (some ra))] w fun e w' => e = .returned (.bool (c != 0)) ∧ w' = w := by
  obtain ⟨h1, h2, ⟨rfl, rfl, rfl⟩ | ⟨h3, g, rfl, h5⟩⟩ := h
  · exact is_nil ra w
  · have e : (c != 0) = true := by rw [bne_iff_ne]; exact h3
    rw [e]
    exact is_line g ra w h0
set_option maxHeartbeats 16000000 in
set_option maxRecDepth 100000 in
theorem parses_law (s : ByteArray) (hs : s.size ≤ 1048576) (W : World) (E : Env W) (M : Mx W) (X : Errs W) : Calls Tryz.prog 7 #[.string s] W fun e w' => e = .returned (.bool true) ∧ Below W.heap.size W w' := by
  have HE := Aside0.mk (And.intro E (And.intro M X))
  obtain ⟨p0, p1, acts, l, c, hp⟩ : ∃ p0 p1 acts l c, parseP (bl s) = ((p0, p1, acts), l, c) := ⟨_, _, _, _, _, rfl⟩
  have hfine := parse_fine (bl s)
  rw [hp] at hfine
  have HF := Aside0.mk hfine
  have HP := Aside0.mk hp
  have HS := Aside0.mk hs
  obtain ⟨n, hn⟩ : ∃ n, n = acts.length := ⟨_, rfl⟩
  have HN := Aside0.mk hn
  have HW0 : Aside0 (Below W.heap.size W W) := ⟨Below.refl _ _⟩
  clear E M X hfine hp hn
  go_enter Tryz.func7, Tryz.ntmps7
  go_wp2_with fail
  refine (parse_calls s (by have := HS.out; omega) W (HE.out.1.below HW0.out) (HE.out.2.1.below HW0.out)).mono ?_
  rintro e wA1 hq
  obtain ⟨AA, cA, erA, rfl, hbq, hCq, hcq, hEq⟩ := parsed_any hq (by have := HS.out; omega) HP.out
  rw [show acts.length = n from HN.out.symm]
  have HBA := Aside0.mk (And.intro (below_then HW0.out HW0.out.size hbq) (And.intro hCq hcq))
  have HErA := Aside0.mk hEq
  clear hq hbq hCq hcq hEq
  go_wp2_with fail
  obtain ⟨BA, hBq⟩ : ∃ B, B = wA1.heap.size := ⟨_, rfl⟩
  obtain ⟨wA2, hwq⟩ : ∃ w2, w2 = wA1.alloc (.cells #[.int .i64 p0, .int .i64 p1, .slice AA n cA] 24 (0, 0)) := ⟨_, rfl⟩
  have hba : Below wA1.heap.size wA1 wA2 := by rw [hwq]; exact below_alloc (Below.refl _ _) _
  have HBbA := Aside0.mk (below_then HBA.out.1 HBA.out.1.size hba)
  have HEsA := Aside0.mk (HErA.out.below hba)
  have HOA : Aside0 (PlayBlk W BA p0 p1 AA acts cA wA2) := ⟨by rw [hwq, hBq, HN.out]; exact PlayBlk.mk2 HBA.out.1 HBA.out.2.1⟩
  have eq31 : (wA1.alloc (.cells #[.int .i64 p0, .int .i64 p1, .slice AA n cA] 24)) = wA2 := hwq.symm
  rw [eq31, ← hBq]
  clear eq31 hwq hBq hba
  refine (refParse_calls s hs wA2).mono ?_
  rintro e wB1 ⟨vB, rfl, hSB, hbq⟩
  rw [HP.out] at hSB ⊢
  obtain ⟨AB, cB, rfl, hcB, hCB⟩ := Kd.R_reads (Kd.S_R hSB)
  have hbW := below_then HBbA.out HBbA.out.size hbq
  have HBB := Aside0.mk (And.intro hbW (And.intro hCB hcB))
  have HOB := Aside0.mk (HOA.out.next hbq)
  have HErB := Aside0.mk (HEsA.out.below hbq)
  rw [show ((p0, p1, acts), l, c).1.2.2.length = n from HN.out.symm]
  clear hSB hbq hcB hCB hbW
  go_wp2_with fail
  obtain ⟨BB, hBq⟩ : ∃ B, B = wB1.heap.size := ⟨_, rfl⟩
  obtain ⟨wB2, hwq⟩ : ∃ w2, w2 = wB1.alloc (.cells #[.int .i64 p0, .int .i64 p1, .slice AB n cB] 24 (0, 0)) := ⟨_, rfl⟩
  have hba : Below wB1.heap.size wB1 wB2 := by rw [hwq]; exact below_alloc (Below.refl _ _) _
  have HObB := Aside0.mk (HOB.out.next hba)
  have HBbB := Aside0.mk (below_then HBB.out.1 HBB.out.1.size hba)
  have HEsB := Aside0.mk (HErB.out.below hba)
  have HOQ : Aside0 (PlayBlk W BB p0 p1 AB acts cB wB2) := ⟨by rw [hwq, hBq, HN.out]; exact PlayBlk.mk2 HBB.out.1 HBB.out.2.1⟩
  have eq31 : (wB1.alloc (.cells #[.int .i64 p0, .int .i64 p1, .slice AB n cB] 24)) = wB2 := hwq.symm
  rw [eq31, ← hBq]
  clear eq31 hwq hBq hba
  refine (said_any erA l c wB2 (HE.out.1.below HBbB.out).pow (HE.out.2.2.below HBbB.out) HEsB.out).mono ?_
  rintro e wB3 ⟨rfl, hbq⟩
  have HOsB := Aside0.mk (HObB.out.next hbq)
  have HQsB := Aside0.mk (HOQ.out.next hbq)
  have HEtsB := Aside0.mk (HEsB.out.below hbq)
  have HBsB := Aside0.mk (below_then HBbB.out HBbB.out.size hbq)
  clear hbq
  have k0 : wB3.cell? ⟨BA, 0, none⟩ = some (.int .i64 p0) := by rw [blk_cell HOsB.out.blk]; rfl
  have k1 : wB3.cell? ⟨BA, 1, none⟩ = some (.int .i64 p1) := by rw [blk_cell HOsB.out.blk]; rfl
  have k2 : wB3.cell? ⟨BA, 2, none⟩ = some (.slice AA n cA) := by rw [blk_cell HOsB.out.blk, HN.out]; rfl
  have q0 : wB3.cell? ⟨BB, 0, none⟩ = some (.int .i64 p0) := by rw [blk_cell HQsB.out.blk]; rfl
  have q1 : wB3.cell? ⟨BB, 1, none⟩ = some (.int .i64 p1) := by rw [blk_cell HQsB.out.blk]; rfl
  have q2 : wB3.cell? ⟨BB, 2, none⟩ = some (.slice AB n cB) := by rw [blk_cell HQsB.out.blk, HN.out]; rfl
  go_wp2_with fail
  have hcall := samePlay_calls p0 p1 p0 p1 acts acts AA AB cA cB wB3 HOsB.out.acts HBA.out.2.2 HQsB.out.acts HBB.out.2.2 (by have := HF.out.2.2.2.1; exact Nat.le_trans this (by decide)) (fun a h => (HF.out.2.2.1 a h).count)
  rw [← HN.out, sameP_refl] at hcall
  refine hcall.mono ?_
  rintro e wC ⟨rfl, hbq⟩
  clear hcall
  have HEC := Aside0.mk (HEtsB.out.below hbq)
  have HBC := Aside0.mk (below_then HBsB.out HBsB.out.size hbq)
  clear hbq k0 k1 k2 q0 q1 q2
  obtain ⟨ra, hra⟩ := (HE.out.2.2.below HBC.out).ref
  have HRA := Aside0.mk hra
  clear hra
  obtain ⟨bc, hbc⟩ : ∃ bc, (c != 0) = bc := ⟨_, rfl⟩
  have HIS : Aside0 (∀ w', Below wC.heap.size wC w' → Calls Tryz.prog 22 #[erA, .iface 195 (.pointer (some ra))] w' fun e w2 => e = .returned (.bool bc) ∧ w2 = w') := ⟨fun w' hb => by rw [← hbc]; exact is_any erA l c ra w' (HEC.out.below hb) (pw_cell_below hb HRA.out)⟩
  go_wp2_with fail
  refine region_facts (ws := []) (G := fun _ w' => Aside0 (Below wC.heap.size wC w')) (φs := [Fact.eq (erA), Fact.eq (.iface 195 (.pointer (some ra))), Fact.eq (.bool bc), Fact.eq (.int .i64 c), Fact.eq (.bool bc), Fact.eq (.bool true), Fact.eq (.bool true), Fact.eq (.iface 195 (.pointer (some ra))), Fact.eq (.bool true), Fact.eq (.bool true), Fact.eq (.bool true), Fact.eq (.pointer none), Fact.eq (.string ⟨#[]⟩), Fact.eq (.bool true), Fact.eq (.bool true), Fact.eq (.bool true), Fact.eq (.pointer none), Fact.eq (.iface 195 (.pointer (some ra))), Fact.eq (.iface 195 (.pointer (some ra))), Fact.eq (.bool true), Fact.eq (.bool true), Fact.eq (.bool true)]) (n := 22) (m := 68) (by kernel_rfl) (by kernel_rfl) rfl rfl (by kernel_rfl) (fun _ _ _ h hb => ⟨below_then h.out h.out.size hb⟩) (⟨below_drew (Below.refl _ _)⟩) ⟨?ou0, ?ou1, ?ou2, ?ou3, ?ou4, ?ou5, ?ou6, ?ou7, ?ou8, ?ou9, ?ou10, ?ou11, ?ou12, ?ou13, ?ou14, ?ou15, ?ou16, ?ou17, ?ou18, ?ou19, ?ou20, ?ou21, trivial⟩ ?finu
  case ou0 =>
    refine ask_val [.fix 4 _] rfl 47 rfl (.inl rfl) ⟨⟨by kernel_rfl, by conv => lhs; whnf⟩, trivial⟩ ?_
    dsimp only [Has, Fact.eq]
    intro e ρ w' hc hf hg hG h4
    go_simp
    all_goals (with_reducible rfl)
  case ou1 =>
    refine ask_step [] rfl 48 rfl (.inl rfl) trivial 0 0 (by kernel_rfl) ?_
    dsimp only [Has, Fact.eq]
    intro e ρ w' hp hq hc hf hg hG 
    have c0 := pw_cell_below hG.out HRA.out
    refine ⟨_, w', ?_, rfl, Below.refl _ _⟩
    go_simp
    all_goals (first | done | rfl | with_reducible rfl)
  case ou2 =>
    refine ask_call [.op 47 0 (Fact.eq _), .op 48 1 (Fact.eq _)] rfl 49 rfl (.inl rfl) ⟨⟨by kernel_rfl, rfl⟩, ⟨by kernel_rfl, rfl⟩, trivial⟩ 0 0 (by kernel_rfl) 22 Tryz.func22 (by kernel_rfl) rfl rfl ?_
    dsimp only [Has, Fact.eq]
    intro e ρ w' hp hq hc hf hg hG h47 h48
    refine ⟨#[erA, .iface 195 (.pointer (some ra))], by simp only [List.map_toArray, List.map_cons, List.map_nil, h47, h48], (HIS.out w' hG.out).mono ?_⟩
    rintro en w2 ⟨rfl, rfl⟩
    exact ⟨_, rfl, rfl, Below.refl _ _⟩
  case ou3 =>
    refine ask_val [.fix 7 _] rfl 50 rfl (.inl rfl) ⟨⟨by kernel_rfl, by conv => lhs; whnf⟩, trivial⟩ ?_
    dsimp only [Has, Fact.eq]
    intro e ρ w' hc hf hg hG h7
    go_simp
    all_goals (with_reducible rfl)
  case ou4 =>
    refine ask_val [.op 50 3 (Fact.eq _)] rfl 51 rfl (.inl rfl) ⟨⟨by kernel_rfl, rfl⟩, trivial⟩ ?_
    dsimp only [Has, Fact.eq]
    intro e ρ w' hc hf hg hG h50
    go_simp
    all_goals (first | done | rfl | with_reducible rfl | (rw [hbc]))
  case ou5 =>
    refine ask_val [.op 49 2 (Fact.eq _), .op 51 4 (Fact.eq _)] rfl 52 rfl (.inl rfl) ⟨⟨by kernel_rfl, rfl⟩, ⟨by kernel_rfl, rfl⟩, trivial⟩ ?_
    dsimp only [Has, Fact.eq]
    intro e ρ w' hc hf hg hG h49 h51
    go_simp
    all_goals (first | done | rfl | with_reducible rfl | (cases bc <;> rfl) | simp)
  case ou6 =>
    refine ask_val [.op 52 5 (Fact.eq _)] rfl 53 rfl (.inl rfl) ⟨⟨by kernel_rfl, rfl⟩, trivial⟩ ?_
    dsimp only [Has, Fact.eq]
    intro e ρ w' hc hf hg hG h52
    go_simp
    all_goals (with_reducible rfl)
  case ou7 =>
    refine ask_step [] rfl 54 rfl (.inr ⟨6, true, rfl, by kernel_rfl, rfl⟩) trivial 0 0 (by kernel_rfl) ?_
    dsimp only [Has, Fact.eq]
    intro e ρ w' hp hq hc hf hg hG 
    have c0 := pw_cell_below hG.out HRA.out
    refine ⟨_, w', ?_, rfl, Below.refl _ _⟩
    go_simp
    all_goals (first | done | rfl | with_reducible rfl)
  case ou8 =>
    refine ask_val [.op 54 7 (Fact.eq _)] rfl 55 rfl (.inr ⟨6, true, rfl, by kernel_rfl, rfl⟩) ⟨⟨by kernel_rfl, rfl⟩, trivial⟩ ?_
    dsimp only [Has, Fact.eq]
    intro e ρ w' hc hf hg hG h54
    go_simp
    all_goals (first | done | rfl | with_reducible rfl)
  case ou9 =>
    refine ask_val [.op 53 6 (Fact.eq _), .op 55 8 (Fact.eq _)] rfl 56 rfl (.inl rfl) ⟨⟨by kernel_rfl, rfl⟩, ⟨by kernel_rfl, rfl⟩, trivial⟩ ?_
    dsimp only [Has, Fact.eq]
    intro e ρ w' hc hf hg hG h53 h55
    go_simp
    all_goals (first | done | rfl | with_reducible rfl)
  case ou10 =>
    refine ask_val [.op 56 9 (Fact.eq _)] rfl 57 rfl (.inl rfl) ⟨⟨by kernel_rfl, rfl⟩, trivial⟩ ?_
    dsimp only [Has, Fact.eq]
    intro e ρ w' hc hf hg hG h56
    go_simp
    all_goals (with_reducible rfl)
  case ou11 =>
    refine ask_val [.fix 11 _] rfl 58 rfl (.inr ⟨10, true, rfl, by kernel_rfl, rfl⟩) ⟨⟨by kernel_rfl, by conv => lhs; whnf⟩, trivial⟩ ?_
    dsimp only [Has, Fact.eq]
    intro e ρ w' hc hf hg hG h11
    go_simp
    all_goals (with_reducible rfl)
  case ou12 =>
    refine ask_call [.op 58 11 (Fact.eq _)] rfl 59 rfl (.inr ⟨10, true, rfl, by kernel_rfl, rfl⟩) ⟨⟨by kernel_rfl, rfl⟩, trivial⟩ 0 0 (by kernel_rfl) 23 Tryz.func23 (by kernel_rfl) rfl rfl ?_
    dsimp only [Has, Fact.eq]
    intro e ρ w' hp hq hc hf hg hG h58
    refine ⟨#[.pointer none], by simp only [List.map_toArray, List.map_cons, List.map_nil, h58], (lineError_nil w').mono ?_⟩
    rintro en w2 ⟨rfl, rfl⟩
    exact ⟨_, rfl, rfl, Below.refl _ _⟩
  case ou13 =>
    refine ask_val [.op 59 12 (Fact.eq _)] rfl 60 rfl (.inr ⟨10, true, rfl, by kernel_rfl, rfl⟩) ⟨⟨by kernel_rfl, rfl⟩, trivial⟩ ?_
    dsimp only [Has, Fact.eq]
    intro e ρ w' hc hf hg hG h59
    go_simp
    all_goals (first | done | rfl | with_reducible rfl)
  case ou14 =>
    refine ask_val [.op 57 10 (Fact.eq _), .op 60 13 (Fact.eq _)] rfl 61 rfl (.inl rfl) ⟨⟨by kernel_rfl, rfl⟩, ⟨by kernel_rfl, rfl⟩, trivial⟩ ?_
    dsimp only [Has, Fact.eq]
    intro e ρ w' hc hf hg hG h57 h60
    go_simp
    all_goals (first | done | rfl | with_reducible rfl)
  case ou15 =>
    refine ask_val [.op 61 14 (Fact.eq _)] rfl 62 rfl (.inl rfl) ⟨⟨by kernel_rfl, rfl⟩, trivial⟩ ?_
    dsimp only [Has, Fact.eq]
    intro e ρ w' hc hf hg hG h61
    go_simp
    all_goals (with_reducible rfl)
  case ou16 =>
    refine ask_val [.fix 11 _] rfl 63 rfl (.inr ⟨15, true, rfl, by kernel_rfl, rfl⟩) ⟨⟨by kernel_rfl, by conv => lhs; whnf⟩, trivial⟩ ?_
    dsimp only [Has, Fact.eq]
    intro e ρ w' hc hf hg hG h11
    go_simp
    all_goals (with_reducible rfl)
  case ou17 =>
    refine ask_call [.op 63 16 (Fact.eq _)] rfl 64 rfl (.inr ⟨15, true, rfl, by kernel_rfl, rfl⟩) ⟨⟨by kernel_rfl, rfl⟩, trivial⟩ 0 0 (by kernel_rfl) 24 Tryz.func24 (by kernel_rfl) rfl rfl ?_
    dsimp only [Has, Fact.eq]
    intro e ρ w' hp hq hc hf hg hG h63
    refine ⟨#[.pointer none], by simp only [List.map_toArray, List.map_cons, List.map_nil, h63], (unwrap_calls _ (.iface 195 (.pointer (some ra))) w' (pw_cell_below hG.out HRA.out)).mono ?_⟩
    rintro en w2 ⟨rfl, rfl⟩
    exact ⟨_, rfl, rfl, Below.refl _ _⟩
  case ou18 =>
    refine ask_step [] rfl 65 rfl (.inr ⟨15, true, rfl, by kernel_rfl, rfl⟩) trivial 0 0 (by kernel_rfl) ?_
    dsimp only [Has, Fact.eq]
    intro e ρ w' hp hq hc hf hg hG 
    have c0 := pw_cell_below hG.out HRA.out
    refine ⟨_, w', ?_, rfl, Below.refl _ _⟩
    go_simp
    all_goals (first | done | rfl | with_reducible rfl)
  case ou19 =>
    refine ask_val [.op 64 17 (Fact.eq _), .op 65 18 (Fact.eq _)] rfl 66 rfl (.inr ⟨15, true, rfl, by kernel_rfl, rfl⟩) ⟨⟨by kernel_rfl, rfl⟩, ⟨by kernel_rfl, rfl⟩, trivial⟩ ?_
    dsimp only [Has, Fact.eq]
    intro e ρ w' hc hf hg hG h64 h65
    go_simp
    rw [eqlRef]; rfl
  case ou20 =>
    refine ask_val [.op 62 15 (Fact.eq _), .op 66 19 (Fact.eq _)] rfl 67 rfl (.inl rfl) ⟨⟨by kernel_rfl, rfl⟩, ⟨by kernel_rfl, rfl⟩, trivial⟩ ?_
    dsimp only [Has, Fact.eq]
    intro e ρ w' hc hf hg hG h62 h66
    go_simp
    all_goals (first | done | rfl | with_reducible rfl)
  case ou21 =>
    refine ask_val [.op 67 20 (Fact.eq _)] rfl 2 rfl (.inl rfl) ⟨⟨by kernel_rfl, rfl⟩, trivial⟩ ?_
    dsimp only [Has, Fact.eq]
    intro e ρ w' hc hf hg hG h67
    go_simp
    all_goals (with_reducible rfl)
  case finu =>
    intro w' hG
    refine fin_eq (fin_eq (fin_eq (fin_eq (fin_eq (fin_eq (fin_eq (fin_eq (fin_eq (fin_eq (fin_eq (fin_eq (fin_eq (fin_eq (fin_eq (fin_eq (fin_eq (fin_eq (fin_eq (fin_eq (fin_eq (fin_eq (fin_nil (a' := ?_) ?_ ?_))))))))))))))))))))))
    rotate_left
    · simp only [Act.put, List.setIfInBounds_toArray, List.set_cons_zero, List.set_cons_succ]
      rfl
    have HB : Aside0 (Below W.heap.size W w') := ⟨HBC.out.trans (below_le hG.out HBC.out.size)⟩
    clear hG
    go_wp2_with fail
    go_ret
    exact ⟨rfl, HB.out⟩
end Go.Proofs.YtkfjjmmpbfjhaaaGreatDoor.Tells
namespace Go.Proofs.YtkfjjmmpbfjhaaaGreatDoor.Opening
open Go.ChangeShapes Go.WideShapes Go.ChangeAt Go.RowKit
open Go.ChangeMaps (open_string shut_string)
open Go.Proofs.YtkfjjmmpbfjhaaaGreatDoor.Tells Go.Proofs.YtkfjjmmpbfjhaaaGreatDoor.PScriptActs Go.Proofs.YtkfjjmmpbfjhaaaGreatDoorW.PrintWords Go.Proofs.YtkfjjmmpbfjhaaaGreatDoorW.PrintLast Go.Proofs.YtkfjjmmpbfjhaaaGreatDoorW.PrintMore
set_option linter.unusedVariables false
end Go.Proofs.YtkfjjmmpbfjhaaaGreatDoor.Opening
namespace Go.Proofs.YtkfjjmmpbfjhaaaGreatDoor.Opening
open Go.RowKit Go.ChangeShapes
theorem star_es : "*" ++ "errors.errorString" = "*errors.errorString" := by decide
theorem row195 (u : TypeId) (h : Tryz.prog.typeName? 3 u = some "*errors.errorString") : u = 195 :=
  typeName_ptr_named (nm := "errors.errorString") (by rw [star_es]; kernel_rfl) (by kernel_rfl) (by decide) u (by rw [star_es]; exact h)
theorem gNib : Tryz.prog.globalNamed "kiln/script.nibbles" = some 2 := by kernel_rfl
theorem gPow : Tryz.prog.globalNamed "internal/strconv.uint64pow10" = some 4 := by kernel_rfl
theorem hexs : ∀ m : Fin 16, ([48, 49, 50, 51, 52, 53, 54, 55, 56, 57, 97, 98, 99, 100, 101, 102] : List Int).getD m.val 0 = ((Tells.hexc m.val).toNat : Int) := by decide +kernel
end Go.Proofs.YtkfjjmmpbfjhaaaGreatDoor.Opening
namespace Go.Proofs.YtkfjjmmpbfjhaaaGreatDoor.Opening
open Go.RowKit Go.ChangeShapes
theorem mx_of {W : World} (h : W.ShapedOpen Tryz.prog) : Tells.Mx W := Tryz.laysM146.s1_3 W h
end Go.Proofs.YtkfjjmmpbfjhaaaGreatDoor.Opening
namespace Go.Proofs.YtkfjjmmpbfjhaaaGreatDoor.Opening
open Go.RowKit Go.ChangeShapes
theorem gEty : Tryz.prog.globalNamed "errors.errorType" = some 1 := by kernel_rfl
theorem rtRow : (Tryz.prog.cutTypes.find? (·.1 == "internal/reflectlite.rtype")).map (·.2) = some 127 := by kernel_rfl
theorem typesN : Tryz.prog.types.size = 233 := by kernel_rfl
theorem oneRow : ((List.range 233).filter fun t => Tryz.prog.rowNamed t [101, 114, 114, 111, 114]) = [45] := by kernel_rfl
/-- the list without the handle -/
def firstData : List (String × DataW Unit) := Rows.scriptFirstUptoRow.laid.filter fun x => x.2.handleName?.isNone
theorem env_of_first {W : World} (h : laidMetH Tryz.prog Rows.scriptFirstUptoRow.laid W) : Tells.Env W ∧ Tells.Errs W := by
  have h' : laidMet Tryz.prog firstData W ∧ handlesMet Tryz.prog [("errors.errorType", Rows.laid_errors_errorType)] W := h
  obtain ⟨name, u, ty, e1, e2, e3, e4, e5⟩ := h'.2 _ (List.mem_singleton.2 rfl)
  have en : name = [101, 114, 114, 111, 114] := (Option.some.inj e1).symm
  subst en
  obtain rfl := Option.some.inj (rtRow.symm.trans e2)
  have hm : ty ∈ (List.range 233).filter fun t => Tryz.prog.rowNamed t [101, 114, 114, 111, 114] := List.mem_filter.2 ⟨List.mem_range.2 (by rw [← typesN]; exact e3), e4⟩
  rw [oneRow] at hm
  obtain rfl := List.mem_singleton.1 hm
  have hh : typeHandle Tryz.prog 45 = .pointer (some ⟨16, 45, none⟩) := by kernel_rfl
  rw [hh] at e5
  have hety : W.cell? ⟨1, 0, none⟩ = some (.iface 127 (.agg #[.pointer (some ⟨16, 45, none⟩)])) := by simpa using World.var?_cell gEty e5 0
  have h1 : laidMet Tryz.prog firstData W := h'.1
  have h2 := laidMet.tail (laidMet.tail h1)
  have hP := Lib.tabIs_of_head (k := .u64) (zs := Lib.pow10Tab) gPow (t := 168) (e := 157) (n := 20) (by kernel_rfl) (by kernel_rfl) (by kernel_rfl) (by kernel_rfl) (by kernel_rfl) h2
  have h3 := laidMet.tail (laidMet.tail h2)
  obtain ⟨a1, s1, hv1, _, _, _⟩ := laid_sentinel h3 (g := 8) (ti := 45) (tp := 195) (te := 197) (ts := 9) (by kernel_rfl) (by kernel_rfl) Tryz.underlying45 row195 Tryz.underlying195 Tryz.underlying197 rfl rfl Tryz.underlying9 (by kernel_rfl) (by kernel_rfl)
  have h4 := laidMet.tail h3
  obtain ⟨a2, s2, hv2, _, _, _⟩ := laid_sentinel h4 (g := 7) (ti := 45) (tp := 195) (te := 197) (ts := 9) (by kernel_rfl) (by kernel_rfl) Tryz.underlying45 row195 Tryz.underlying195 Tryz.underlying197 rfl rfl Tryz.underlying9 (by kernel_rfl) (by kernel_rfl)
  have h5 := laidMet.tail h4
  obtain ⟨a3, s3, hv3, _, _, _⟩ := laid_sentinel h5 (g := 0) (ti := 45) (tp := 195) (te := 197) (ts := 9) (by kernel_rfl) (by kernel_rfl) Tryz.underlying45 row195 Tryz.underlying195 Tryz.underlying197 rfl rfl Tryz.underlying9 (by kernel_rfl) (by kernel_rfl)
  have h6 := laidMet.tail h5
  have hT := Lib.tabIs_of_head (k := .u8) (zs := [48, 49, 50, 51, 52, 53, 54, 55, 56, 57, 97, 98, 99, 100, 101, 102]) gNib (t := 162) (e := 5) (n := 16) (by kernel_rfl) (by kernel_rfl) (by kernel_rfl) (by kernel_rfl) (by kernel_rfl) h6
  refine ⟨⟨hP, fun n hn => ?_, ⟨195, _, World.var?_cell (by kernel_rfl) hv2 0⟩, ⟨195, _, World.var?_cell (by kernel_rfl) hv1 0⟩⟩, ⟨hety, _, World.var?_cell (by kernel_rfl) hv3 0⟩⟩
  have key := hT.cell gNib n (by simpa using hn)
  rw [hexs ⟨n, hn⟩] at key
  exact key
/-- a world in which the handle stands -/
noncomputable def handleWorld (os : Os) : World :=
  let w0 := World.holding Tryz.prog os ⟨#[], #[], []⟩
  { w0 with heap := w0.heap.modify 1 fun
      | .cells _ t frozen => .cells #[.iface 127 (.agg #[.pointer (some ⟨16, 45, none⟩)])] t frozen
      | o => o }
noncomputable def laidWorld (os : Os) : World := (handleWorld os).layVars Tryz.prog firstData
theorem laidWorld_os (os : Os) : (laidWorld os).os = os := World.layVars_os _ _ _
set_option maxRecDepth 100000 in
theorem laidWorld_met (os : Os) (args : Array Value) : laidMetH Tryz.prog Rows.scriptFirstUptoRow.laid ((laidWorld os).forCall (fun _ _ => 0) ⟨#[], args, []⟩).memory := by
  have e1 : (firstData.filter fun x => (firstData.map (·.1)).contains x.1) = firstData := List.filter_eq_self.2 fun x hx => List.contains_iff_mem.2 (List.mem_map.2 ⟨x, hx, rfl⟩)
  have e2 : (firstData.filter fun x => !(firstData.map (·.1)).contains x.1) = [] := List.filter_eq_nil_iff.2 fun x hx => by rw [List.contains_iff_mem.2 (List.mem_map.2 ⟨x, hx, rfl⟩)]; simp
  have h : laidMet Tryz.prog firstData (laidWorld os) := laidMet_layVars (w0 := handleWorld os) (firstData.map (·.1)) [] (by rw [e1]; rfl) (by rw [e1]; kernel_rfl) (by rw [e1]; kernel_rfl) (by rw [e2]; exact LaidIn.none)
  exact laidMetH_of_parts (h.of_heap (by simp [World.memory, World.forCall, Input.heap])) (by kernel_rfl)
end Go.Proofs.YtkfjjmmpbfjhaaaGreatDoor.Opening
