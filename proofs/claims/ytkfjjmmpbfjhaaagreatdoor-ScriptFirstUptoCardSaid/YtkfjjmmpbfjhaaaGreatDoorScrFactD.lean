/- ScriptFirst's walk. What the listed variables of the last laws give (a type's handle among them), and a world in which they are laid. Conditions: those that each theorem states. -/
import Derived.Test.YtkfjjmmpbfjhaaaGreatDoorScrE1
import Derived.Test.YtkfjjmmpbfjhaaaGreatDoorScrX5
import Derived.Test.YtkfjjmmpbfjhaaaGreatDoorScrE3
import Derived.Test.YtkfjjmmpbfjhaaaGreatDoorScrOpenB
import Derived.LaidHandle
import Derived.Lay
namespace Go.Proofs.YtkfjjmmpbfjhaaaGreatDoor.Tells
open Go.RowKit Go.Proofs.YtkfjjmmpbfjhaaaGreatDoor.Facts Go.Proofs.YtkfjjmmpbfjhaaaGreatDoor.PScriptActs Go.Proofs.YtkfjjmmpbfjhaaaGreatDoorW.PrintWords Go.Proofs.YtkfjjmmpbfjhaaaGreatDoorW.PrintLast Go.Proofs.YtkfjjmmpbfjhaaaGreatDoorW.PrintMore
attribute [local go_sem] max2_int min2_int max_two min_two max_three min_three max_four min_four
set_option linter.unusedVariables false
set_option linter.unusedSimpArgs false
/-- what Parse answers for an error -/
def ErrIs (er : Value) (l c : Int) (w : World) : Prop := inI l ∧ inI c ∧ ((c = 0 ∧ l = 0 ∧ er = .nilIface) ∨ (c ≠ 0 ∧ ∃ g, er = .iface 55 (.pointer (some ⟨g, 0, none⟩)) ∧ w.heap[g]? = some (.cells #[.int .i64 l, .int .i64 c] 80 (0, 0))))
theorem ErrIs.below {er : Value} {l c : Int} {w w' : World} (h : ErrIs er l c w) (hb : Below w.heap.size w w') : ErrIs er l c w' := by
  obtain ⟨h1, h2, h | ⟨h3, g, h4, h5⟩⟩ := h
  · exact ⟨h1, h2, .inl h⟩
  · exact ⟨h1, h2, .inr ⟨h3, g, h4, (hb.block _ (blk_lt h5)).trans h5⟩⟩
/-- what Parse answers, opened -/
theorem parsed_any {s : ByteArray} {w w' : World} {e : Ending} {p0 p1 l c : Int} {acts : List S31} (h : Parsed s w e w') (hs : s.size ≤ 1073741824) (hp : parseP (bl s) = ((p0, p1, acts), l, c)) :
    ∃ A cp er, e = .returned (.tuple #[.agg #[.int .i64 p0, .int .i64 p1, .slice A acts.length cp], er]) ∧ Below w.heap.size w w' ∧ Kd.C k31 w' A acts.length acts ∧ acts.length ≤ cp ∧ ErrIs er l c w' := by
  obtain ⟨v, er, he, hb, hS, h0, h1⟩ := h
  have hf := (parse_fine (bl s)).2.2.2.2.2
  have hbl := bl_len s
  rw [hp] at he hS h0 h1 hf
  obtain ⟨A, cp, rfl, hc, hC⟩ := Kd.R_reads (Kd.S_R hS)
  refine ⟨A, cp, er, he, hb, hC, hc, ?_⟩
  have hl : inI l ∧ inI c := by
    rcases hf with ⟨k1, k2⟩ | ⟨k1, k2, k3, k4⟩
    · have k1' : l = 0 := k1
      have k2' : c = 0 ∨ c = 240 := k2
      subst k1'
      rcases k2' with rfl | rfl <;> exact ⟨⟨by decide, by decide⟩, ⟨by decide, by decide⟩⟩
    · have k1' : 1 ≤ l := k1
      have k2' : l ≤ ((bl s).length : Int) + 1 := k2
      have k3' : 240 ≤ c := k3
      have k4' : c ≤ 246 := k4
      unfold inI
      omega
  refine ⟨hl.1, hl.2, ?_⟩
  by_cases hc0 : c = 0
  · refine .inl ⟨hc0, ?_, h0 hc0⟩
    rcases hf with ⟨k1, k2⟩ | ⟨k1, k2, k3, k4⟩
    · exact k1
    · have k3' : 240 ≤ c := k3
      omega
  · obtain ⟨g, e1, e2, _⟩ := h1 hc0
    exact .inr ⟨hc0, g, e1, e2⟩
theorem said_any (er : Value) (l c : Int) (w : World) (T : Pow w) (E : Errs w) (h : ErrIs er l c w) : Calls Tryz.prog 21 #[er] w fun e w' => e = .returned (.tuple #[.int .i64 l, .int .i64 c, .bool true]) ∧ Below w.heap.size w w' := by
  obtain ⟨h1, h2, ⟨rfl, rfl, rfl⟩ | ⟨h3, g, rfl, h5⟩⟩ := h
  · refine (said_nil w).mono ?_
    rintro e w' ⟨rfl, rfl⟩
    exact ⟨rfl, Below.refl _ _⟩
  · exact said_calls g l c h1 h2 h3 w T E h5
theorem cutB_min (s : ByteArray) (n : Nat) : cutB s (min n (linesOf (bl s) []).length) = cutB s n := by
  unfold cutB
  congr 3
  rcases Nat.le_total n (linesOf (bl s) []).length with h | h
  · rw [Nat.min_eq_left h]
  · rw [Nat.min_eq_right h, List.take_length, List.take_of_length_le h]
/-- a block that holds a play -/
structure PlayBlk (W : World) (B : Nat) (p0 p1 : Int) (A : Option Addr) (acts : List S31) (c : Nat) (wr : World) : Prop where
  below : Below W.heap.size W wr
  blk : wr.heap[B]? = some (.cells #[.int .i64 p0, .int .i64 p1, .slice A acts.length c] 24 (0, 0))
  acts : Kd.C k31 wr A acts.length acts
theorem PlayBlk.next {W : World} {B : Nat} {p0 p1 : Int} {A : Option Addr} {acts : List S31} {c : Nat} {wr w2 : World} (h : PlayBlk W B p0 p1 A acts c wr) (hb : Below wr.heap.size wr w2) : PlayBlk W B p0 p1 A acts c w2 :=
  ⟨below_then h.below h.below.size hb, (hb.block _ (blk_lt h.blk)).trans h.blk, Kd.C_below h.acts hb⟩
theorem PlayBlk.mk2 {W : World} {p0 p1 : Int} {A : Option Addr} {acts : List S31} {c : Nat} {w : World} (hb : Below W.heap.size W w) (hC : Kd.C k31 w A acts.length acts) : PlayBlk W w.heap.size p0 p1 A acts c (w.alloc (.cells #[.int .i64 p0, .int .i64 p1, .slice A acts.length c] 24 (0, 0))) :=
  ⟨below_then hb hb.size (below_alloc (Below.refl _ _) _), blk_new w _, Kd.C_below hC (below_alloc (Below.refl _ _) _)⟩
set_option maxHeartbeats 16000000 in
set_option maxRecDepth 100000 in
theorem first_law (s : ByteArray) (hs : s.size ≤ 1048576) (W : World) (E : Env W) (M : Mx W) (X : Errs W) : Calls Tryz.prog 8 #[.string s] W fun e w' => e = .returned (.bool true) ∧ Below W.heap.size W w' := by
  have HE := Aside0.mk (And.intro E (And.intro M X))
  obtain ⟨p0, p1, acts, l, c, hp⟩ : ∃ p0 p1 acts l c, parseP (bl s) = ((p0, p1, acts), l, c) := ⟨_, _, _, _, _, rfl⟩
  have hbl := bl_len s
  have hfine := parse_fine (bl s)
  rw [hp] at hfine
  have HF := Aside0.mk hfine
  have HP := Aside0.mk hp
  have HS := Aside0.mk hs
  have HPM : Aside0 (∀ x : ByteArray, x = ({ data := #[35, 32, 97, 32, 119, 111, 114, 100, 10, 10] } : ByteArray) ++ s → parseP (bl x) = ((p0, p1, acts), if l = 0 then 0 else l + 2, c) ∧ x.size ≤ 1073741824) := ⟨fun x hx => by
    have e : bl x = aheadL ++ 10 :: 10 :: bl s := by
      rw [hx]
      unfold bl
      rw [ByteArray.data_append, Array.toList_append]
      rfl
    refine ⟨by rw [e, parse_moved, hp], ?_⟩
    rw [hx, ByteArray.size_append]
    show 10 + s.size ≤ _
    omega⟩
  have HPE : Aside0 (∀ x : ByteArray, x = s ++ ({ data := #[10, 35, 32, 116, 104, 101, 32, 101, 110, 100] } : ByteArray) → l = 0 → parseP (bl x) = ((p0, p1, acts), l, c) ∧ x.size ≤ 1073741824) := ⟨fun x hx h0 => by
    have e : bl x = bl s ++ 10 :: endL := by
      rw [hx]
      unfold bl
      rw [ByteArray.data_append, Array.toList_append]
      rfl
    refine ⟨by rw [e, parse_ended (bl s) (by rw [hp]; exact h0), hp], ?_⟩
    rw [hx, ByteArray.size_append]
    show s.size + 10 ≤ _
    omega⟩
  obtain ⟨n, hn⟩ : ∃ n, n = acts.length := ⟨_, rfl⟩
  have HN := Aside0.mk hn
  have hz1 : 10 + s.size ≤ 1048586 := by omega
  have hz2 : s.size + 10 ≤ 1048586 := by omega
  have HW0 : Aside0 (Below W.heap.size W W) := ⟨Below.refl _ _⟩
  clear E M X hfine hp hn
  go_enter Tryz.func8, Tryz.ntmps8
  go_wp2_with fail
  refine (parse_calls s (by omega) W (HE.out.1.below HW0.out) (HE.out.2.1.below HW0.out)).mono ?_
  rintro e wA1 hq
  obtain ⟨AA, cA, erA, rfl, hbq, hCq, hcq, hEq⟩ := parsed_any hq (by omega) HP.out
  rw [show acts.length = n from HN.out.symm]
  have HBA := Aside0.mk (And.intro (below_then HW0.out HW0.out.size hbq) (And.intro hCq hcq))
  have HErA := Aside0.mk hEq
  clear hq hbq hCq hcq hEq
  go_wp2_with fail
  obtain ⟨BA, hBq⟩ : ∃ B, B = wA1.heap.size := ⟨_, rfl⟩
  obtain ⟨wA2, hwq⟩ : ∃ w2, w2 = wA1.alloc (.cells #[.int .i64 p0, .int .i64 p1, .slice AA n cA] 24 (0, 0)) := ⟨_, rfl⟩
  have hba : Below wA1.heap.size wA1 wA2 := by rw [hwq]; exact below_alloc (Below.refl _ _) _
  have HBbA := Aside0.mk (below_then HBA.out.1 HBA.out.1.size hba)
  have HEsA := Aside0.mk (HErA.out.below hba)
  have HOA : Aside0 (PlayBlk W BA p0 p1 AA acts cA wA2) := ⟨by rw [hwq, hBq, HN.out]; exact PlayBlk.mk2 HBA.out.1 HBA.out.2.1⟩
  have eq31 : (wA1.alloc (.cells #[.int .i64 p0, .int .i64 p1, .slice AA n cA] 24)) = wA2 := hwq.symm
  rw [eq31, ← hBq]
  clear eq31 hwq hBq hba
  refine (said_any erA l c wA2 (HE.out.1.below HBbA.out).pow (HE.out.2.2.below HBbA.out) HEsA.out).mono ?_
  rintro e wA3 ⟨rfl, hbq⟩
  have HOsA := Aside0.mk (HOA.out.next hbq)
  have HBsA := Aside0.mk (below_then HBbA.out HBbA.out.size hbq)
  clear hbq
  obtain ⟨x1, hx1⟩ : ∃ x1, x1 = ({ data := #[35, 32, 97, 32, 119, 111, 114, 100, 10, 10] } : ByteArray) ++ s := ⟨_, rfl⟩
  have HX1 := Aside0.mk (HPM.out x1 hx1)
  go_wp2_with fail
  rw [← hx1]
  clear hx1
  obtain ⟨l2, hl2⟩ : ∃ l2 : Int, l2 = if l = 0 then 0 else l + 2 := ⟨_, rfl⟩
  rw [← hl2] at HX1
  have HL2 := Aside0.mk hl2
  clear hl2
  refine (parse_calls x1 HX1.out.2 wA3 (HE.out.1.below HBsA.out) (HE.out.2.1.below HBsA.out)).mono ?_
  rintro e wB1 hq
  obtain ⟨AB, cB, erB, rfl, hbq, hCq, hcq, hEq⟩ := parsed_any hq HX1.out.2 HX1.out.1
  rw [show acts.length = n from HN.out.symm]
  have HBB := Aside0.mk (And.intro (below_then HBsA.out HBsA.out.size hbq) (And.intro hCq hcq))
  have HOB := Aside0.mk (HOsA.out.next hbq)
  have HErB := Aside0.mk hEq
  clear hq hbq hCq hcq hEq
  go_wp2_with fail
  obtain ⟨BB, hBq⟩ : ∃ B, B = wB1.heap.size := ⟨_, rfl⟩
  obtain ⟨wB2, hwq⟩ : ∃ w2, w2 = wB1.alloc (.cells #[.int .i64 p0, .int .i64 p1, .slice AB n cB] 24 (0, 0)) := ⟨_, rfl⟩
  have hba : Below wB1.heap.size wB1 wB2 := by rw [hwq]; exact below_alloc (Below.refl _ _) _
  have HObB := Aside0.mk (HOB.out.next hba)
  have HBbB := Aside0.mk (below_then HBB.out.1 HBB.out.1.size hba)
  have HEsB := Aside0.mk (HErB.out.below hba)
  have HOQ : Aside0 (PlayBlk W BB p0 p1 AB acts cB wB2) := ⟨by rw [hwq, hBq, HN.out]; exact PlayBlk.mk2 HBB.out.1 HBB.out.2.1⟩
  have eq31 : (wB1.alloc (.cells #[.int .i64 p0, .int .i64 p1, .slice AB n cB] 24)) = wB2 := hwq.symm
  rw [eq31, ← hBq]
  clear eq31 hwq hBq hba
  refine (said_any erB l2 c wB2 (HE.out.1.below HBbB.out).pow (HE.out.2.2.below HBbB.out) HEsB.out).mono ?_
  rintro e wB3 ⟨rfl, hbq⟩
  have HOsB := Aside0.mk (HObB.out.next hbq)
  have HQsB := Aside0.mk (HOQ.out.next hbq)
  have HBsB := Aside0.mk (below_then HBbB.out HBbB.out.size hbq)
  clear hbq
  have k0 : wB3.cell? ⟨BA, 0, none⟩ = some (.int .i64 p0) := by rw [blk_cell HOsB.out.blk]; rfl
  have k1 : wB3.cell? ⟨BA, 1, none⟩ = some (.int .i64 p1) := by rw [blk_cell HOsB.out.blk]; rfl
  have k2 : wB3.cell? ⟨BA, 2, none⟩ = some (.slice AA n cA) := by rw [blk_cell HOsB.out.blk, HN.out]; rfl
  have q0 : wB3.cell? ⟨BB, 0, none⟩ = some (.int .i64 p0) := by rw [blk_cell HQsB.out.blk]; rfl
  have q1 : wB3.cell? ⟨BB, 1, none⟩ = some (.int .i64 p1) := by rw [blk_cell HQsB.out.blk]; rfl
  have q2 : wB3.cell? ⟨BB, 2, none⟩ = some (.slice AB n cB) := by rw [blk_cell HQsB.out.blk, HN.out]; rfl
  go_wp2_with fail
  have hcall := samePlay_calls p0 p1 p0 p1 acts acts AA AB cA cB wB3 HOsB.out.acts HBA.out.2.2 HQsB.out.acts HBB.out.2.2 (by have := HF.out.2.2.2.1; exact Nat.le_trans this (by decide)) (fun a h => (HF.out.2.2.1 a h).count)
  rw [← HN.out, sameP_refl] at hcall
  refine hcall.mono ?_
  rintro e wC ⟨rfl, hbq⟩
  clear hcall
  have HOC := Aside0.mk (HOsB.out.next hbq)
  have HBC := Aside0.mk (below_then HBsB.out HBsB.out.size hbq)
  clear hbq k0 k1 k2 q0 q1 q2
  by_cases hl0 : l = 0
  · have hl20 : l2 = 0 := by rw [HL2.out, if_pos hl0]
    have HPE2 : Aside0 (∀ x : ByteArray, x = s ++ ({ data := #[10, 35, 32, 116, 104, 101, 32, 101, 110, 100] } : ByteArray) → parseP (bl x) = ((p0, p1, acts), 0, c) ∧ x.size ≤ 1073741824) := ⟨fun x hx => by have := HPE.out x hx hl0; rw [hl0] at this; exact this⟩
    clear HX1 HPM HPE HEsA HErA HEsB HErB HP
    subst hl0
    subst hl20
    clear HL2
    go_wp2_with fail
    refine (parse_calls ⟨#[99, 111, 108, 108, 101, 99, 116]⟩ (by decide) wC (HE.out.1.below HBC.out) (HE.out.2.1.below HBC.out)).mono ?_
    rintro e wD1 hq
    obtain ⟨AD, cD, erD, rfl, hbq, hCq, hcq, hEq⟩ := parsed_any hq (by decide) parse_collect
    have HBD := Aside0.mk (And.intro (below_then HBC.out HBC.out.size hbq) (And.intro hCq hcq))
    have HOD := Aside0.mk (HOC.out.next hbq)
    have HErD := Aside0.mk hEq
    clear hq hbq hCq hcq hEq
    go_wp2_with fail
    obtain ⟨BD, hBq⟩ : ∃ B, B = wD1.heap.size := ⟨_, rfl⟩
    obtain ⟨wD2, hwq⟩ : ∃ w2, w2 = wD1.alloc (.cells #[.int .i64 0, .int .i64 0, .slice AD 0 cD] 24 (0, 0)) := ⟨_, rfl⟩
    have hba : Below wD1.heap.size wD1 wD2 := by rw [hwq]; exact below_alloc (Below.refl _ _) _
    have HObD := Aside0.mk (HOD.out.next hba)
    have HBbD := Aside0.mk (below_then HBD.out.1 HBD.out.1.size hba)
    have HEsD := Aside0.mk (HErD.out.below hba)
    have eq31 : (wD1.alloc (.cells #[.int .i64 0, .int .i64 0, .slice AD 0 cD] 24)) = wD2 := hwq.symm
    rw [eq31, ← hBq]
    clear eq31 hwq hBq hba
    refine (said_any erD 1 240 wD2 (HE.out.1.below HBbD.out).pow (HE.out.2.2.below HBbD.out) HEsD.out).mono ?_
    rintro e wD3 ⟨rfl, hbq⟩
    have HOsD := Aside0.mk (HObD.out.next hbq)
    have HBsD := Aside0.mk (below_then HBbD.out HBbD.out.size hbq)
    clear hbq
    obtain ⟨x2, hx2⟩ : ∃ x2, x2 = s ++ ({ data := #[10, 35, 32, 116, 104, 101, 32, 101, 110, 100] } : ByteArray) := ⟨_, rfl⟩
    have HX2 := Aside0.mk (HPE2.out x2 hx2)
    go_wp2_with fail
    rw [← hx2]
    clear hx2
    refine (parse_calls x2 HX2.out.2 wD3 (HE.out.1.below HBsD.out) (HE.out.2.1.below HBsD.out)).mono ?_
    rintro e wF1 hq
    obtain ⟨AF, cF, erF, rfl, hbq, hCq, hcq, hEq⟩ := parsed_any hq HX2.out.2 HX2.out.1
    rw [show acts.length = n from HN.out.symm]
    have HBF := Aside0.mk (And.intro (below_then HBsD.out HBsD.out.size hbq) (And.intro hCq hcq))
    have HOF := Aside0.mk (HOsD.out.next hbq)
    have HErF := Aside0.mk hEq
    clear hq hbq hCq hcq hEq
    go_wp2_with fail
    obtain ⟨BF, hBq⟩ : ∃ B, B = wF1.heap.size := ⟨_, rfl⟩
    obtain ⟨wF2, hwq⟩ : ∃ w2, w2 = wF1.alloc (.cells #[.int .i64 p0, .int .i64 p1, .slice AF n cF] 24 (0, 0)) := ⟨_, rfl⟩
    have hba : Below wF1.heap.size wF1 wF2 := by rw [hwq]; exact below_alloc (Below.refl _ _) _
    have HObF := Aside0.mk (HOF.out.next hba)
    have HBbF := Aside0.mk (below_then HBF.out.1 HBF.out.1.size hba)
    have HEsF := Aside0.mk (HErF.out.below hba)
    have eq31 : (wF1.alloc (.cells #[.int .i64 p0, .int .i64 p1, .slice AF n cF] 24)) = wF2 := hwq.symm
    rw [eq31, ← hBq]
    clear eq31 hwq hBq hba
    refine (said_any erF 0 c wF2 (HE.out.1.below HBbF.out).pow (HE.out.2.2.below HBbF.out) HEsF.out).mono ?_
    rintro e wF3 ⟨rfl, hbq⟩
    have HOsF := Aside0.mk (HObF.out.next hbq)
    have HBsF := Aside0.mk (below_then HBbF.out HBbF.out.size hbq)
    clear hbq
    have k0 : wF3.cell? ⟨BA, 0, none⟩ = some (.int .i64 p0) := by rw [blk_cell HOsF.out.blk]; rfl
    have k1 : wF3.cell? ⟨BA, 1, none⟩ = some (.int .i64 p1) := by rw [blk_cell HOsF.out.blk]; rfl
    have k2 : wF3.cell? ⟨BA, 2, none⟩ = some (.slice AA n cA) := by rw [blk_cell HOsF.out.blk, HN.out]; rfl
    go_wp2_with fail
    have hzz : (printP p0 p1 acts).1.size ≤ 1073741824 := by
      have h1 := text_le p0 p1 HF.out.1 HF.out.2.1 acts (fun a h => ⟨(HF.out.2.2.1 a h).number, (HF.out.2.2.1 a h).fuel⟩)
      have h2 : (acts.map wtA).sum ≤ (bl s).length + 1 := HF.out.2.2.2.2.1
      omega
    have hcall := round_law p0 p1 HF.out.1 HF.out.2.1 acts HF.out.2.2.1 (by have := HF.out.2.2.2.1; exact Nat.le_trans this (by decide)) hzz AA cA wF3 (HE.out.1.below HBsF.out) (HE.out.2.1.below HBsF.out) HOsF.out.acts HBA.out.2.2
    rw [← HN.out] at hcall
    refine hcall.mono ?_
    rintro e wG ⟨rfl, hbq⟩
    clear hcall
    have HBG := Aside0.mk (below_then HBsF.out HBsF.out.size hbq)
    clear hbq k0 k1 k2 hzz
    go_wp2_with fail
    go_ret
    exact ⟨by first | rfl | simp, HBG.out⟩
  · have hl1 : 1 ≤ l := by
      rcases HF.out.2.2.2.2.2 with ⟨h1, _⟩ | ⟨h1, _⟩
      · exact absurd h1 hl0
      · exact h1
    have hlm : l ≤ (s.size : Int) + 1 := by
      rcases HF.out.2.2.2.2.2 with ⟨h1, _⟩ | ⟨_, h1, _⟩
      · exact absurd h1 hl0
      · have h2 : l ≤ ((bl s).length : Int) + 1 := h1
        omega
    obtain ⟨m, hm⟩ : ∃ m : Nat, l = (m : Int) + 1 := ⟨(l - 1).toNat, by omega⟩
    have hmm : m ≤ 1048576 := by omega
    have hl20 : l2 = l + 2 := by rw [HL2.out, if_neg hl0]
    have HCU : Aside0 ((parseP (bl (cutB s m))).2.1 = 0) := ⟨parse_cut s m (by rw [HP.out]; exact hm)⟩
    have hg1 : decide (l > 0) = true := decide_eq_true (by omega)
    have hg2 : decide (l = 0) = false := decide_eq_false hl0
    have hg3 : (l == 0) = false := by rw [beq_eq_false_iff_ne]; exact hl0
    have hg4 : (l = 0) = False := eq_false hl0
    have hg5 : wrap64 (l + 2) = l + 2 := by unfold wrap64; omega
    have hg6 : ((l + 2) != (l + 2)) = false := by simp
    have hg7 : (0 : Int) < l := by omega
    clear HX1 HPM HPE HEsA HErA HEsB HErB HP
    subst hl20
    clear HL2
    have HM := Aside0.mk hm
    clear hm
    go_wp2_with fail
    refine (parse_calls ⟨#[99, 111, 108, 108, 101, 99, 116]⟩ (by decide) wC (HE.out.1.below HBC.out) (HE.out.2.1.below HBC.out)).mono ?_
    rintro e wX1 hq
    obtain ⟨AX, cX, erX, rfl, hbq, hCq, hcq, hEq⟩ := parsed_any hq (by decide) parse_collect
    have HBX := Aside0.mk (And.intro (below_then HBC.out HBC.out.size hbq) (And.intro hCq hcq))
    have HOX := Aside0.mk (HOC.out.next hbq)
    have HErX := Aside0.mk hEq
    clear hq hbq hCq hcq hEq
    go_wp2_with fail
    obtain ⟨BX, hBq⟩ : ∃ B, B = wX1.heap.size := ⟨_, rfl⟩
    obtain ⟨wX2, hwq⟩ : ∃ w2, w2 = wX1.alloc (.cells #[.int .i64 0, .int .i64 0, .slice AX 0 cX] 24 (0, 0)) := ⟨_, rfl⟩
    have hba : Below wX1.heap.size wX1 wX2 := by rw [hwq]; exact below_alloc (Below.refl _ _) _
    have HObX := Aside0.mk (HOX.out.next hba)
    have HBbX := Aside0.mk (below_then HBX.out.1 HBX.out.1.size hba)
    have HEsX := Aside0.mk (HErX.out.below hba)
    have eq31 : (wX1.alloc (.cells #[.int .i64 0, .int .i64 0, .slice AX 0 cX] 24)) = wX2 := hwq.symm
    rw [eq31, ← hBq]
    clear eq31 hwq hBq hba
    refine (said_any erX 1 240 wX2 (HE.out.1.below HBbX.out).pow (HE.out.2.2.below HBbX.out) HEsX.out).mono ?_
    rintro e wX3 ⟨rfl, hbq⟩
    have HOsX := Aside0.mk (HObX.out.next hbq)
    have HBsX := Aside0.mk (below_then HBbX.out HBbX.out.size hbq)
    clear hbq
    go_wp2_with fail
    rw [HM.out]
    refine (cut_calls s hs m (by omega) wX3).mono ?_
    rintro e wY ⟨rfl, hbq⟩
    rw [cutB_min]
    have HBY := Aside0.mk (below_then HBsX.out HBsX.out.size hbq)
    clear hbq
    obtain ⟨x3, hx3⟩ : ∃ x3, x3 = cutB s m := ⟨_, rfl⟩
    obtain ⟨u0, u1, ua, ul, uc, hup⟩ : ∃ u0 u1 ua ul uc, parseP (bl x3) = ((u0, u1, ua), ul, uc) := ⟨_, _, _, _, _, rfl⟩
    have HUP : Aside0 (parseP (bl x3) = ((u0, u1, ua), 0, uc) ∧ (uc = 0 ∨ uc = 240) ∧ x3.size ≤ 1073741824) := ⟨by
      have h0 := HCU.out
      rw [← hx3, hup] at h0
      have h0' : ul = 0 := h0
      subst h0'
      refine ⟨hup, ?_, by rw [hx3]; have := cutB_size s m; omega⟩
      have hf := (parse_fine (bl x3)).2.2.2.2.2
      rw [hup] at hf
      rcases hf with ⟨_, h⟩ | ⟨h, _⟩
      · exact h
      · exact absurd (show (1 : Int) ≤ 0 from h) (by decide)⟩
    rw [← hx3]
    clear hx3 hup
    go_wp2_with fail
    refine (parse_calls x3 HUP.out.2.2 wY (HE.out.1.below HBY.out) (HE.out.2.1.below HBY.out)).mono ?_
    rintro e wZ1 hq
    obtain ⟨AZ, cZ, erZ, rfl, hbq, hCq, hcq, hEq⟩ := parsed_any hq HUP.out.2.2 HUP.out.1
    have HBZ := Aside0.mk (And.intro (below_then HBY.out HBY.out.size hbq) (And.intro hCq hcq))
    have HErZ := Aside0.mk hEq
    clear hq hbq hCq hcq hEq
    go_wp2_with fail
    obtain ⟨BZ, hBq⟩ : ∃ B, B = wZ1.heap.size := ⟨_, rfl⟩
    obtain ⟨wZ2, hwq⟩ : ∃ w2, w2 = wZ1.alloc (.cells #[.int .i64 u0, .int .i64 u1, .slice AZ ua.length cZ] 24 (0, 0)) := ⟨_, rfl⟩
    have hba : Below wZ1.heap.size wZ1 wZ2 := by rw [hwq]; exact below_alloc (Below.refl _ _) _
    have HBbZ := Aside0.mk (below_then HBZ.out.1 HBZ.out.1.size hba)
    have HEsZ := Aside0.mk (HErZ.out.below hba)
    have eq31 : (wZ1.alloc (.cells #[.int .i64 u0, .int .i64 u1, .slice AZ ua.length cZ] 24)) = wZ2 := hwq.symm
    rw [eq31, ← hBq]
    clear eq31 hwq hBq hba
    refine (said_any erZ 0 uc wZ2 (HE.out.1.below HBbZ.out).pow (HE.out.2.2.below HBbZ.out) HEsZ.out).mono ?_
    rintro e wZ3 ⟨rfl, hbq⟩
    have HBsZ := Aside0.mk (below_then HBbZ.out HBbZ.out.size hbq)
    clear hbq
    rcases HUP.out.2.1 with h | h
    · subst h
      go_wp2_with fail
      go_ret
      exact ⟨by first | rfl | simp, HBsZ.out⟩
    · subst h
      go_wp2_with fail
      go_ret
      exact ⟨by first | rfl | simp, HBsZ.out⟩
end Go.Proofs.YtkfjjmmpbfjhaaaGreatDoor.Tells
namespace Go.Proofs.YtkfjjmmpbfjhaaaGreatDoor.Opening
open Go.RowKit Go.ChangeShapes
theorem gEty : Tryz.prog.globalNamed "errors.errorType" = some 1 := by kernel_rfl
theorem rtRow : (Tryz.prog.cutTypes.find? (·.1 == "internal/reflectlite.rtype")).map (·.2) = some 127 := by kernel_rfl
theorem typesN : Tryz.prog.types.size = 233 := by kernel_rfl
theorem oneRow : ((List.range 233).filter fun t => Tryz.prog.rowNamed t [101, 114, 114, 111, 114]) = [45] := by kernel_rfl
/-- the list without the handle -/
def firstData : List (String × DataW Unit) := Rows.scriptFirstUptoRow.laid.filter fun x => x.2.handleName?.isNone
theorem env_of_first {W : World} (h : laidMetH Tryz.prog Rows.scriptFirstUptoRow.laid W) : Tells.Env W ∧ Tells.Errs W := by
  have h' : laidMet Tryz.prog firstData W ∧ handlesMet Tryz.prog [("errors.errorType", Rows.laid_errors_errorType)] W := h
  obtain ⟨name, u, ty, e1, e2, e3, e4, e5⟩ := h'.2 _ (List.mem_singleton.2 rfl)
  have en : name = [101, 114, 114, 111, 114] := (Option.some.inj e1).symm
  subst en
  obtain rfl := Option.some.inj (rtRow.symm.trans e2)
  have hm : ty ∈ (List.range 233).filter fun t => Tryz.prog.rowNamed t [101, 114, 114, 111, 114] := List.mem_filter.2 ⟨List.mem_range.2 (by rw [← typesN]; exact e3), e4⟩
  rw [oneRow] at hm
  obtain rfl := List.mem_singleton.1 hm
  have hh : typeHandle Tryz.prog 45 = .pointer (some ⟨16, 45, none⟩) := by kernel_rfl
  rw [hh] at e5
  have hety : W.cell? ⟨1, 0, none⟩ = some (.iface 127 (.agg #[.pointer (some ⟨16, 45, none⟩)])) := by simpa using World.var?_cell gEty e5 0
  have h1 : laidMet Tryz.prog firstData W := h'.1
  have h2 := laidMet.tail (laidMet.tail h1)
  have hP := Lib.tabIs_of_head (k := .u64) (zs := Lib.pow10Tab) gPow (t := 168) (e := 157) (n := 20) (by kernel_rfl) (by kernel_rfl) (by kernel_rfl) (by kernel_rfl) (by kernel_rfl) h2
  have h3 := laidMet.tail (laidMet.tail h2)
  obtain ⟨a1, s1, hv1, _, _, _⟩ := laid_sentinel h3 (g := 8) (ti := 45) (tp := 195) (te := 197) (ts := 9) (by kernel_rfl) (by kernel_rfl) Tryz.underlying45 row195 Tryz.underlying195 Tryz.underlying197 rfl rfl Tryz.underlying9 (by kernel_rfl) (by kernel_rfl)
  have h4 := laidMet.tail h3
  obtain ⟨a2, s2, hv2, _, _, _⟩ := laid_sentinel h4 (g := 7) (ti := 45) (tp := 195) (te := 197) (ts := 9) (by kernel_rfl) (by kernel_rfl) Tryz.underlying45 row195 Tryz.underlying195 Tryz.underlying197 rfl rfl Tryz.underlying9 (by kernel_rfl) (by kernel_rfl)
  have h5 := laidMet.tail h4
  obtain ⟨a3, s3, hv3, _, _, _⟩ := laid_sentinel h5 (g := 0) (ti := 45) (tp := 195) (te := 197) (ts := 9) (by kernel_rfl) (by kernel_rfl) Tryz.underlying45 row195 Tryz.underlying195 Tryz.underlying197 rfl rfl Tryz.underlying9 (by kernel_rfl) (by kernel_rfl)
  have h6 := laidMet.tail h5
  have hT := Lib.tabIs_of_head (k := .u8) (zs := [48, 49, 50, 51, 52, 53, 54, 55, 56, 57, 97, 98, 99, 100, 101, 102]) gNib (t := 162) (e := 5) (n := 16) (by kernel_rfl) (by kernel_rfl) (by kernel_rfl) (by kernel_rfl) (by kernel_rfl) h6
  refine ⟨⟨hP, fun n hn => ?_, ⟨195, _, World.var?_cell (by kernel_rfl) hv2 0⟩, ⟨195, _, World.var?_cell (by kernel_rfl) hv1 0⟩⟩, ⟨hety, _, World.var?_cell (by kernel_rfl) hv3 0⟩⟩
  have key := hT.cell gNib n (by simpa using hn)
  rw [hexs ⟨n, hn⟩] at key
  exact key
/-- a world in which the handle stands -/
noncomputable def handleWorld (os : Os) : World :=
  let w0 := World.holding Tryz.prog os ⟨#[], #[], []⟩
  { w0 with heap := w0.heap.modify 1 fun
      | .cells _ t frozen => .cells #[.iface 127 (.agg #[.pointer (some ⟨16, 45, none⟩)])] t frozen
      | o => o }
noncomputable def laidWorld (os : Os) : World := (handleWorld os).layVars Tryz.prog firstData
theorem laidWorld_os (os : Os) : (laidWorld os).os = os := World.layVars_os _ _ _
set_option maxRecDepth 100000 in
theorem laidWorld_met (os : Os) (args : Array Value) : laidMetH Tryz.prog Rows.scriptFirstUptoRow.laid ((laidWorld os).forCall (fun _ _ => 0) ⟨#[], args, []⟩).memory := by
  have e1 : (firstData.filter fun x => (firstData.map (·.1)).contains x.1) = firstData := List.filter_eq_self.2 fun x hx => List.contains_iff_mem.2 (List.mem_map.2 ⟨x, hx, rfl⟩)
  have e2 : (firstData.filter fun x => !(firstData.map (·.1)).contains x.1) = [] := List.filter_eq_nil_iff.2 fun x hx => by rw [List.contains_iff_mem.2 (List.mem_map.2 ⟨x, hx, rfl⟩)]; simp
  have h : laidMet Tryz.prog firstData (laidWorld os) := laidMet_layVars (w0 := handleWorld os) (firstData.map (·.1)) [] (by rw [e1]; rfl) (by rw [e1]; kernel_rfl) (by rw [e1]; kernel_rfl) (by rw [e2]; exact LaidIn.none)
  exact laidMetH_of_parts (h.of_heap (by simp [World.memory, World.forCall, Input.heap])) (by kernel_rfl)
end Go.Proofs.YtkfjjmmpbfjhaaaGreatDoor.Opening
